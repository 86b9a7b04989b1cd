/- What the law FnExactIsYarnStore needs, part 4 of 4: what each function of the program that it reaches returns (printed by this session's own program, checked by Lean), and plain mathematics about it. Conditions: those of each theorem. -/
import Derived.Test.YtiomfignokichaaZFnExactIsYarnStore2
import Derived.Test.YtiomfignokichaaWLast
import Derived.Test.YtiomfignokichaaWWords
-- XlawsFnExactIsYarnStoreF6
namespace Go.Proofs.Ytiomfignokichaa.X
open Ho (bS eS)
open Go.RowKit Go.Proofs.YtiomfignokichaaW.PrintWords Go.Proofs.YtiomfignokichaaW.PrintLast Go.Proofs.YtiomfignokichaaW.PrintMore
attribute [local go_sem] max2_int min2_int max_two min_two max_three min_three max_four min_four   -- for this text's walks alone
set_option linter.unusedVariables false
set_option linter.unusedSimpArgs false

attribute [local go_sem ↓] Ho.isSome_setCell_   -- a store leaves all places there
/-! ### laws_FnExactIsYarnStore: function 6 -/
def laws_FnExactIsYarnStore.f (k : Nat) (l0_0 : List (S82)) (a0_1 : Int) (a0_2 : Int) (a0_3 : Int) (a0_4 : Int) : Option (Bool) := (laws_szYarnStore.f l0_0 a0_1 a0_2 a0_3 a0_4 1048576).bind fun t102 => (if t102 < 0 then (some true) else ((laws_toYarnStore.f k l0_0 a0_1 a0_2 a0_3 a0_4).bind fun bt103 => ((spec_IsYarnStore.f k bt103.1 bt103.2.1 bt103.2.2.1 bt103.2.2.2.1 bt103.2.2.2.2).bind fun t110 => ((laws_toYarnStore.f k l0_0 a0_1 a0_2 a0_3 a0_4).bind fun bt111 => ((impl_IsYarnStore.f k bt111.1 bt111.2.1 bt111.2.2.1 bt111.2.2.2.1 bt111.2.2.2.2).bind fun t119 => (if (t119 != t110) = true then (some false) else ((laws_toYarnStore.f k l0_0 a0_1 a0_2 a0_3 a0_4).bind fun bt120 => ((laws_eqYarnStore.f k bt111.1 bt111.2.1 bt111.2.2.1 bt111.2.2.2.1 bt111.2.2.2.2 bt120.1 bt120.2.1 bt120.2.2.1 bt120.2.2.2.1 bt120.2.2.2.2).bind fun t127 => (if t127 = true then (some true) else (some false))))))))))
theorem laws_FnExactIsYarnStore.mono : ∀ a0 a1 a2 a3 a4 k, LeO (laws_FnExactIsYarnStore.f k a0 a1 a2 a3 a4) (laws_FnExactIsYarnStore.f (k + 1) a0 a1 a2 a3 a4) := by
  intro a0 a1 a2 a3 a4 k
  unfold laws_FnExactIsYarnStore.f
  repeat' first
      | (with_reducible exact impl_IsYarnStore.mono _ _ _ _ _ _)
      | (with_reducible exact laws_eqYarnStore.mono _ _ _ _ _ _ _ _ _ _ _)
      | (with_reducible exact laws_toYarnStore.mono _ _ _ _ _ _)
      | (with_reducible exact spec_IsYarnStore.mono _ _ _ _ _ _)
      | (with_reducible exact LeO.refl _)
      | (with_reducible exact LeO.none _)
      | (with_reducible refine LeO.ite ?_ ?_)
      | (with_reducible refine LeO.bind ?_ (fun _ => ?_))
      | exact impl_IsYarnStore.mono _ _ _ _ _ _
      | exact laws_eqYarnStore.mono _ _ _ _ _ _ _ _ _ _ _
      | exact laws_toYarnStore.mono _ _ _ _ _ _
      | exact spec_IsYarnStore.mono _ _ _ _ _ _
      | exact LeO.none _
      | refine LeO.ite ?_ ?_
      | refine LeO.bind ?_ (fun _ => ?_)
set_option maxHeartbeats 8000000 in
set_option maxRecDepth 100000 in
theorem laws_FnExactIsYarnStore.calls (k : Nat) (A0_0 : Option Addr) (c0_0 : Nat) (l0_0 : List (S82)) (a0_1 : Int) (a0_2 : Int) (a0_3 : Int) (a0_4 : Int) (r : Bool) (w : World) (hr0_0 : Kd.C k82 w A0_0 l0_0.length l0_0) (hc0_0 : l0_0.length ≤ c0_0) (ht : r = true) (h : laws_FnExactIsYarnStore.f k l0_0 a0_1 a0_2 a0_3 a0_4 = some r) :
    Calls Try.prog 6 #[.agg #[.slice A0_0 l0_0.length c0_0, .int .i64 a0_1, .int .i64 a0_2, .int .i64 a0_3, .int .i64 a0_4]] w fun e w' => e = .returned (.bool r) ∧ Below w.heap.size w w' := by
  have hu45 := Try.underlying45
  have hu37 := Try.underlying37
  have HR0_0 := Aside0.mk hr0_0
  have HC0_0 := Aside0.mk hc0_0
  clear hr0_0 hc0_0
  have HB := Aside0.mk (Below.refl w.heap.size w)
  have HT := Aside0.mk ht
  clear ht
  have H : ((laws_szYarnStore.f l0_0 a0_1 a0_2 a0_3 a0_4 1048576).bind fun t102 => (if t102 < 0 then (some true) else ((laws_toYarnStore.f k l0_0 a0_1 a0_2 a0_3 a0_4).bind fun bt103 => ((spec_IsYarnStore.f k bt103.1 bt103.2.1 bt103.2.2.1 bt103.2.2.2.1 bt103.2.2.2.2).bind fun t110 => ((laws_toYarnStore.f k l0_0 a0_1 a0_2 a0_3 a0_4).bind fun bt111 => ((impl_IsYarnStore.f k bt111.1 bt111.2.1 bt111.2.2.1 bt111.2.2.2.1 bt111.2.2.2.2).bind fun t119 => (if (t119 != t110) = true then (some false) else ((laws_toYarnStore.f k l0_0 a0_1 a0_2 a0_3 a0_4).bind fun bt120 => ((laws_eqYarnStore.f k bt111.1 bt111.2.1 bt111.2.2.1 bt111.2.2.2.1 bt111.2.2.2.2 bt120.1 bt120.2.1 bt120.2.2.1 bt120.2.2.2.1 bt120.2.2.2.2).bind fun t127 => (if t127 = true then (some true) else (some false))))))))))) = some r := h
  clear h
  replace H := Option.bind_eq_some_iff.mp H
  obtain ⟨t102, A20, H⟩ := H
  replace H : (if t102 < 0 then (some true) else ((laws_toYarnStore.f k l0_0 a0_1 a0_2 a0_3 a0_4).bind fun bt103 => ((spec_IsYarnStore.f k bt103.1 bt103.2.1 bt103.2.2.1 bt103.2.2.2.1 bt103.2.2.2.2).bind fun t110 => ((laws_toYarnStore.f k l0_0 a0_1 a0_2 a0_3 a0_4).bind fun bt111 => ((impl_IsYarnStore.f k bt111.1 bt111.2.1 bt111.2.2.1 bt111.2.2.2.1 bt111.2.2.2.2).bind fun t119 => (if (t119 != t110) = true then (some false) else ((laws_toYarnStore.f k l0_0 a0_1 a0_2 a0_3 a0_4).bind fun bt120 => ((laws_eqYarnStore.f k bt111.1 bt111.2.1 bt111.2.2.1 bt111.2.2.2.1 bt111.2.2.2.2 bt120.1 bt120.2.1 bt120.2.2.1 bt120.2.2.2.1 bt120.2.2.2.2).bind fun t127 => (if t127 = true then (some true) else (some false)))))))))) = some r := H
  have A2 := Aside0.mk A20
  clear A20
  by_cases c3 : t102 < 0
  · rw [if_pos c3] at H
    have c3b0 : decide (t102 < 0) = true := decide_eq_true c3
    clear c3
    obtain rfl := Option.some.inj H
    go_enter Try.func6, Try.ntmps6
    go_wp2_with (first | ((with_reducible refine gate_dst (N := 1) rfl ?_); refine box_event ?hg (N := 1) ?hd (cs := #[.slice A0_0 l0_0.length c0_0, .int .i64 a0_1, .int .i64 a0_2, .int .i64 a0_3, .int .i64 a0_4]) (t := 45) ?hr ?_; (case hd => rfl); (case hg => rfl); (case hr => first | (go_simp; done) | (go_simp; rfl)); intro gb101 hg w4 hbox hb; have n0_ := Aside0.mk (below_step (by exact eS HB.out) hb); have n1_ := Aside0.mk (hbox); have n2_ := Aside0.mk ((by rw [hg]; exact (below_size (by exact eS HB.out)) : w.heap.size ≤ gb101)); have n3_ := Aside0.mk ((by rw [hg]; exact (below_size (by exact eS HB.out)) : w.heap.size ≤ gb101)); clear HB; have HB := n0_; have BK101 := n1_; have GW101 := n2_; have GE101 := n3_; clear n0_ n1_ n2_ n3_; clear hb hbox hg; have hcz5_0 : w4.cell? ⟨gb101, 0, none⟩ = some (.slice A0_0 l0_0.length c0_0) := (blk_cell BK101.out 0).trans rfl; have hcz5_1 : w4.cell? ⟨gb101, 1, none⟩ = some (.int .i64 a0_1) := (blk_cell BK101.out 1).trans rfl; have hcz5_2 : w4.cell? ⟨gb101, 2, none⟩ = some (.int .i64 a0_2) := (blk_cell BK101.out 2).trans rfl; have hcz5_3 : w4.cell? ⟨gb101, 3, none⟩ = some (.int .i64 a0_3) := (blk_cell BK101.out 3).trans rfl; have hcz5_4 : w4.cell? ⟨gb101, 4, none⟩ = some (.int .i64 a0_4) := (blk_cell BK101.out 4).trans rfl; have hfz5_0 := blk_frozen BK101.out 0; have hfz5_1 := blk_frozen BK101.out 1; have hfz5_2 := blk_frozen BK101.out 2; have hfz5_3 := blk_frozen BK101.out 3; have hfz5_4 := blk_frozen BK101.out 4) | ((with_reducible refine gate_callee (f := 24) rfl ?_); refine goesL_ (some 9) rfl rfl Try.func24 (by kernel_rfl) rfl #[.agg #[.slice A0_0 l0_0.length c0_0, .int .i64 a0_1, .int .i64 a0_2, .int .i64 a0_3, .int .i64 a0_4], .int .i64 1048576] rfl (by (try simp only [List.map_toArray, List.map_cons, List.map_nil]); first | done | rfl | (simp only [List.length_drop, List.length_take]; rfl)) ?_; (with_reducible refine (laws_szYarnStore.calls _ _ l0_0 a0_1 a0_2 a0_3 a0_4 1048576 t102 _ ?side1 ?side2 A2.out).mono ?_); (case side1 => repeat (first | exact (Kd.C_below HR0_0.out HB.out) | (with_reducible refine Kd.C_alloc ?_ _) | (with_reducible refine Kd.C_drewN ?_ _) | (with_reducible refine Kd.C_drew ?_))); (case side2 => exact HC0_0.out); rintro e w6 ⟨rfl, hb⟩; refine ⟨_, rfl, ?_⟩; have n0_ := Aside0.mk (blk_below (bS BK101.out) hb); have n1_ := Aside0.mk (below_step (by exact eS HB.out) hb); clear BK101; clear HB; have BK101 := n0_; have HB := n1_; clear n0_ n1_; (try clear hb); (try clear hb2); (try clear hk); (try clear hi)))
    go_ret
    exact ⟨by first | rfl | (simp [errW_none, errW_some] <;> rfl) | (simp [*, errW_none, errW_some] <;> rfl), by exact eS HB.out⟩
  · rw [if_neg c3] at H
    have c3b0 : decide (t102 < 0) = false := decide_eq_false c3
    clear c3
    replace H := Option.bind_eq_some_iff.mp H
    obtain ⟨⟨t103, t106, t107, t108, t109⟩, A70, H⟩ := H
    replace H : ((spec_IsYarnStore.f k t103 t106 t107 t108 t109).bind fun t110 => ((laws_toYarnStore.f k l0_0 a0_1 a0_2 a0_3 a0_4).bind fun bt111 => ((impl_IsYarnStore.f k bt111.1 bt111.2.1 bt111.2.2.1 bt111.2.2.2.1 bt111.2.2.2.2).bind fun t119 => (if (t119 != t110) = true then (some false) else ((laws_toYarnStore.f k l0_0 a0_1 a0_2 a0_3 a0_4).bind fun bt120 => ((laws_eqYarnStore.f k bt111.1 bt111.2.1 bt111.2.2.1 bt111.2.2.2.1 bt111.2.2.2.2 bt120.1 bt120.2.1 bt120.2.2.1 bt120.2.2.2.1 bt120.2.2.2.2).bind fun t127 => (if t127 = true then (some true) else (some false)))))))) = some r := H
    have A7 := Aside0.mk A70
    clear A70
    replace H := Option.bind_eq_some_iff.mp H
    obtain ⟨t110, A80, H⟩ := H
    replace H : ((laws_toYarnStore.f k l0_0 a0_1 a0_2 a0_3 a0_4).bind fun bt111 => ((impl_IsYarnStore.f k bt111.1 bt111.2.1 bt111.2.2.1 bt111.2.2.2.1 bt111.2.2.2.2).bind fun t119 => (if (t119 != t110) = true then (some false) else ((laws_toYarnStore.f k l0_0 a0_1 a0_2 a0_3 a0_4).bind fun bt120 => ((laws_eqYarnStore.f k bt111.1 bt111.2.1 bt111.2.2.1 bt111.2.2.2.1 bt111.2.2.2.2 bt120.1 bt120.2.1 bt120.2.2.1 bt120.2.2.2.1 bt120.2.2.2.2).bind fun t127 => (if t127 = true then (some true) else (some false))))))) = some r := H
    have A8 := Aside0.mk A80
    clear A80
    replace H := Option.bind_eq_some_iff.mp H
    obtain ⟨⟨t111, t114, t115, t116, t117⟩, A90, H⟩ := H
    replace H : ((impl_IsYarnStore.f k t111 t114 t115 t116 t117).bind fun t119 => (if (t119 != t110) = true then (some false) else ((laws_toYarnStore.f k l0_0 a0_1 a0_2 a0_3 a0_4).bind fun bt120 => ((laws_eqYarnStore.f k t111 t114 t115 t116 t117 bt120.1 bt120.2.1 bt120.2.2.1 bt120.2.2.2.1 bt120.2.2.2.2).bind fun t127 => (if t127 = true then (some true) else (some false)))))) = some r := H
    have A9 := Aside0.mk A90
    clear A90
    replace H := Option.bind_eq_some_iff.mp H
    obtain ⟨t119, A100, H⟩ := H
    replace H : (if (t119 != t110) = true then (some false) else ((laws_toYarnStore.f k l0_0 a0_1 a0_2 a0_3 a0_4).bind fun bt120 => ((laws_eqYarnStore.f k t111 t114 t115 t116 t117 bt120.1 bt120.2.1 bt120.2.2.1 bt120.2.2.2.1 bt120.2.2.2.2).bind fun t127 => (if t127 = true then (some true) else (some false))))) = some r := H
    have A10 := Aside0.mk A100
    clear A100
    by_cases c11 : (t119 != t110) = true
    · rw [if_pos c11] at H
      have c11b0 : (t119 != t110) = true := c11
      (try (have c11b1 : decide (t119 = t110) = false := by simpa using c11))
      (try (have c11b2 : (t119 == t110) = false := by simpa using c11))
      (try (have c11b3 : ¬ (t119 = t110) := by simpa using c11))
      clear c11
      exact absurd ((Option.some.inj H).trans HT.out) (by decide)
    · rw [if_neg c11] at H
      have c11b0 : (t119 != t110) = false := by simpa using c11
      (try (have c11b1 : decide (t119 = t110) = true := by simpa using c11))
      (try (have c11b2 : (t119 == t110) = true := by simpa using c11))
      clear c11
      replace H := Option.bind_eq_some_iff.mp H
      obtain ⟨⟨t120, t123, t124, t125, t126⟩, A120, H⟩ := H
      replace H : ((laws_eqYarnStore.f k t111 t114 t115 t116 t117 t120 t123 t124 t125 t126).bind fun t127 => (if t127 = true then (some true) else (some false))) = some r := H
      have A12 := Aside0.mk A120
      clear A120
      replace H := Option.bind_eq_some_iff.mp H
      obtain ⟨t127, A130, H⟩ := H
      replace H : (if t127 = true then (some true) else (some false)) = some r := H
      have A13 := Aside0.mk A130
      clear A130
      by_cases c14 : t127 = true
      · subst c14
        have H1 : (some true) = some r := by rw [if_pos rfl] at H; exact H
        clear H
        have H := H1
        clear H1
        obtain rfl := Option.some.inj H
        go_enter Try.func6, Try.ntmps6
        try go_wp2_with (first | ((with_reducible refine gate_dst (N := 1) rfl ?_); refine box_event ?hg (N := 1) ?hd (cs := #[.slice A0_0 l0_0.length c0_0, .int .i64 a0_1, .int .i64 a0_2, .int .i64 a0_3, .int .i64 a0_4]) (t := 45) ?hr ?_; (case hd => rfl); (case hg => rfl); (case hr => first | (go_simp; done) | (go_simp; rfl)); intro gb101 hg w15 hbox hb; have n0_ := Aside0.mk (below_step (by exact eS HB.out) hb); have n1_ := Aside0.mk (hbox); have n2_ := Aside0.mk ((by rw [hg]; exact (below_size (by exact eS HB.out)) : w.heap.size ≤ gb101)); have n3_ := Aside0.mk ((by rw [hg]; exact (below_size (by exact eS HB.out)) : w.heap.size ≤ gb101)); clear HB; have HB := n0_; have BK101 := n1_; have GW101 := n2_; have GE101 := n3_; clear n0_ n1_ n2_ n3_; clear hb hbox hg; have hcz16_0 : w15.cell? ⟨gb101, 0, none⟩ = some (.slice A0_0 l0_0.length c0_0) := (blk_cell BK101.out 0).trans rfl; have hcz16_1 : w15.cell? ⟨gb101, 1, none⟩ = some (.int .i64 a0_1) := (blk_cell BK101.out 1).trans rfl; have hcz16_2 : w15.cell? ⟨gb101, 2, none⟩ = some (.int .i64 a0_2) := (blk_cell BK101.out 2).trans rfl; have hcz16_3 : w15.cell? ⟨gb101, 3, none⟩ = some (.int .i64 a0_3) := (blk_cell BK101.out 3).trans rfl; have hcz16_4 : w15.cell? ⟨gb101, 4, none⟩ = some (.int .i64 a0_4) := (blk_cell BK101.out 4).trans rfl; have hfz16_0 := blk_frozen BK101.out 0; have hfz16_1 := blk_frozen BK101.out 1; have hfz16_2 := blk_frozen BK101.out 2; have hfz16_3 := blk_frozen BK101.out 3; have hfz16_4 := blk_frozen BK101.out 4) | ((with_reducible refine gate_callee (f := 24) rfl ?_); refine goesL_ (some 9) rfl rfl Try.func24 (by kernel_rfl) rfl #[.agg #[.slice A0_0 l0_0.length c0_0, .int .i64 a0_1, .int .i64 a0_2, .int .i64 a0_3, .int .i64 a0_4], .int .i64 1048576] rfl (by (try simp only [List.map_toArray, List.map_cons, List.map_nil]); first | done | rfl | (simp only [List.length_drop, List.length_take]; rfl)) ?_; (with_reducible refine (laws_szYarnStore.calls _ _ l0_0 a0_1 a0_2 a0_3 a0_4 1048576 t102 _ ?side1 ?side2 A2.out).mono ?_); (case side1 => repeat (first | exact (Kd.C_below HR0_0.out HB.out) | (with_reducible refine Kd.C_alloc ?_ _) | (with_reducible refine Kd.C_drewN ?_ _) | (with_reducible refine Kd.C_drew ?_))); (case side2 => exact HC0_0.out); rintro e w17 ⟨rfl, hb⟩; refine ⟨_, rfl, ?_⟩; have n0_ := Aside0.mk (blk_below (bS BK101.out) hb); have n1_ := Aside0.mk (below_step (by exact eS HB.out) hb); clear BK101; clear HB; have BK101 := n0_; have HB := n1_; clear n0_ n1_; (try clear hb); (try clear hb2); (try clear hk); (try clear hi); have hcz18_0 : w17.cell? ⟨gb101, 0, none⟩ = some (.slice A0_0 l0_0.length c0_0) := (blk_cell BK101.out 0).trans rfl; have hcz18_1 : w17.cell? ⟨gb101, 1, none⟩ = some (.int .i64 a0_1) := (blk_cell BK101.out 1).trans rfl; have hcz18_2 : w17.cell? ⟨gb101, 2, none⟩ = some (.int .i64 a0_2) := (blk_cell BK101.out 2).trans rfl; have hcz18_3 : w17.cell? ⟨gb101, 3, none⟩ = some (.int .i64 a0_3) := (blk_cell BK101.out 3).trans rfl; have hcz18_4 : w17.cell? ⟨gb101, 4, none⟩ = some (.int .i64 a0_4) := (blk_cell BK101.out 4).trans rfl; have hfz18_0 := blk_frozen BK101.out 0; have hfz18_1 := blk_frozen BK101.out 1; have hfz18_2 := blk_frozen BK101.out 2; have hfz18_3 := blk_frozen BK101.out 3; have hfz18_4 := blk_frozen BK101.out 4) | ((with_reducible refine gate_callee (f := 26) rfl ?_); refine goesL_ (some 13) rfl rfl Try.func26 (by kernel_rfl) rfl #[.agg #[.slice A0_0 l0_0.length c0_0, .int .i64 a0_1, .int .i64 a0_2, .int .i64 a0_3, .int .i64 a0_4]] rfl (by (try simp only [List.map_toArray, List.map_cons, List.map_nil]); first | done | rfl | (simp only [List.length_drop, List.length_take]; rfl)) ?_; (with_reducible refine (laws_toYarnStore.calls k _ _ l0_0 a0_1 a0_2 a0_3 a0_4 t103 t106 t107 t108 t109 _ ?side1 ?side2 A7.out).mono ?_); (case side1 => repeat (first | exact (Kd.C_below HR0_0.out HB.out) | (with_reducible refine Kd.C_alloc ?_ _) | (with_reducible refine Kd.C_drewN ?_ _) | (with_reducible refine Kd.C_drew ?_))); (case side2 => exact HC0_0.out); rintro e w19 ⟨v104, rfl, ho0, hb⟩; refine ⟨_, rfl, ?_⟩; have n0_ := Aside0.mk (Kd.R_lower ho0 (below_size (by exact eS HB.out))); have n1_ := Aside0.mk (blk_below (bS BK101.out) hb); have n2_ := Aside0.mk (below_step (by exact eS HB.out) hb); clear BK101; clear HB; have HO105 := n0_; have BK101 := n1_; have HB := n2_; clear n0_ n1_ n2_; (try clear hb); (try clear hb2); (try clear hk); (try clear hi); (try clear ho0); obtain ⟨Ao20, co20, eo20⟩ := Kd.R_slice HO105.out; subst eo20) | ((with_reducible refine gate_callee (f := 25) rfl ?_); refine goesL_ (some 14) rfl rfl Try.func25 (by kernel_rfl) rfl #[.agg #[.slice Ao20 t103.length co20, .int .i64 t106, .int .i64 t107, .int .i64 t108, .int .i64 t109]] rfl (by (try simp only [List.map_toArray, List.map_cons, List.map_nil]); first | done | rfl | (simp only [List.length_drop, List.length_take]; rfl)) ?_; (with_reducible refine (spec_IsYarnStore.calls k _ _ t103 t106 t107 t108 t109 t110 _ ?side1 ?side2 A8.out).mono ?_); (case side1 => repeat (first | exact (Kd.R_reads' HO105.out).2.2 | (with_reducible refine Kd.C_alloc ?_ _) | (with_reducible refine Kd.C_drewN ?_ _) | (with_reducible refine Kd.C_drew ?_))); (case side2 => exact (Kd.R_reads' HO105.out).2.1); rintro e w21 ⟨rfl, hb⟩; refine ⟨_, rfl, ?_⟩; have n0_ := Aside0.mk (Kd.R_below (by exact Ho.RS <| HO105.out) hb); have n1_ := Aside0.mk (blk_below (bS BK101.out) hb); have n2_ := Aside0.mk (below_step (by exact eS HB.out) hb); clear HO105; clear BK101; clear HB; have HO105 := n0_; have BK101 := n1_; have HB := n2_; clear n0_ n1_ n2_; (try clear hb); (try clear hb2); (try clear hk); (try clear hi); have hcz22_0 : w21.cell? ⟨gb101, 0, none⟩ = some (.slice A0_0 l0_0.length c0_0) := (blk_cell BK101.out 0).trans rfl; have hcz22_1 : w21.cell? ⟨gb101, 1, none⟩ = some (.int .i64 a0_1) := (blk_cell BK101.out 1).trans rfl; have hcz22_2 : w21.cell? ⟨gb101, 2, none⟩ = some (.int .i64 a0_2) := (blk_cell BK101.out 2).trans rfl; have hcz22_3 : w21.cell? ⟨gb101, 3, none⟩ = some (.int .i64 a0_3) := (blk_cell BK101.out 3).trans rfl; have hcz22_4 : w21.cell? ⟨gb101, 4, none⟩ = some (.int .i64 a0_4) := (blk_cell BK101.out 4).trans rfl; have hfz22_0 := blk_frozen BK101.out 0; have hfz22_1 := blk_frozen BK101.out 1; have hfz22_2 := blk_frozen BK101.out 2; have hfz22_3 := blk_frozen BK101.out 3; have hfz22_4 := blk_frozen BK101.out 4) | ((with_reducible refine gate_callee (f := 26) rfl ?_); refine goesL_ (some 16) rfl rfl Try.func26 (by kernel_rfl) rfl #[.agg #[.slice A0_0 l0_0.length c0_0, .int .i64 a0_1, .int .i64 a0_2, .int .i64 a0_3, .int .i64 a0_4]] rfl (by (try simp only [List.map_toArray, List.map_cons, List.map_nil]); first | done | rfl | (simp only [List.length_drop, List.length_take]; rfl)) ?_; (with_reducible refine (laws_toYarnStore.calls k _ _ l0_0 a0_1 a0_2 a0_3 a0_4 t111 t114 t115 t116 t117 _ ?side1 ?side2 A9.out).mono ?_); (case side1 => repeat (first | exact (Kd.C_below HR0_0.out HB.out) | (with_reducible refine Kd.C_alloc ?_ _) | (with_reducible refine Kd.C_drewN ?_ _) | (with_reducible refine Kd.C_drew ?_))); (case side2 => exact HC0_0.out); rintro e w23 ⟨v112, rfl, ho0, hb⟩; refine ⟨_, rfl, ?_⟩; have n0_ := Aside0.mk (Kd.R_elder' (by exact Ho.RS <| HO105.out) (Kd.R_base ho0) hb); have n1_ := Aside0.mk (Kd.R_lower (Kd.R_new' ho0 (Kd.R_lt (by exact Ho.RS <| HO105.out))) (below_size (by exact eS HB.out))); have n2_ := Aside0.mk (blk_below (bS BK101.out) hb); have n3_ := Aside0.mk (below_step (by exact eS HB.out) hb); clear HO105; clear BK101; clear HB; have HO105 := n0_; have HO113 := n1_; have BK101 := n2_; have HB := n3_; clear n0_ n1_ n2_ n3_; (try clear hb); (try clear hb2); (try clear hk); (try clear hi); (try clear ho0)) | ((with_reducible refine gate_dst (N := 5) rfl ?_); refine box_event ?hg (N := 5) ?hd (cs := #[.slice none 0 0, .int .i64 0, .int .i64 0, .int .i64 0, .int .i64 0]) (t := 37) ?hr ?_; (case hd => rfl); (case hg => rfl); (case hr => first | (go_simp; done) | (go_simp; rfl)); intro gb118 hg w24 hbox hb; have n0_ := Aside0.mk (Kd.R_below (by exact Ho.RS <| HO105.out) hb); have n1_ := Aside0.mk (Kd.R_below (by exact Ho.RS <| HO113.out) hb); have n2_ := Aside0.mk (blk_below (bS BK101.out) hb); have n3_ := Aside0.mk (below_step (by exact eS HB.out) hb); have n4_ := Aside0.mk (hbox); have n5_ := Aside0.mk ((by rw [hg]; exact (below_size (by exact eS HB.out)) : w.heap.size ≤ gb118)); have n6_ := Aside0.mk ((by rw [hg]; exact (below_size (by exact eS HB.out)) : w.heap.size ≤ gb118)); have n7_ := Aside0.mk ((by rw [hg]; exact Nat.ne_of_lt (blk_lt (bS BK101.out)) : gb101 ≠ gb118)); have n8_ := Aside0.mk ((by rw [hg]; exact Nat.ne_of_gt (blk_lt (bS BK101.out)) : gb118 ≠ gb101)); clear HO105; clear HO113; clear BK101; clear HB; have HO105 := n0_; have HO113 := n1_; have BK101 := n2_; have HB := n3_; have BK118 := n4_; have GW118 := n5_; have GE118 := n6_; have NB101_118 := n7_; have NB118_101 := n8_; clear n0_ n1_ n2_ n3_ n4_ n5_ n6_ n7_ n8_; clear hb hbox hg; obtain ⟨Ao25, co25, eo25⟩ := Kd.R_slice HO113.out; subst eo25; have hnb26 := NB118_101.out; have hnc26 := NB101_118.out; have hcz27_0 : w24.cell? ⟨gb118, 0, none⟩ = some (.slice none 0 0) := (blk_cell BK118.out 0).trans rfl; have hcz27_1 : w24.cell? ⟨gb118, 1, none⟩ = some (.int .i64 0) := (blk_cell BK118.out 1).trans rfl; have hcz27_2 : w24.cell? ⟨gb118, 2, none⟩ = some (.int .i64 0) := (blk_cell BK118.out 2).trans rfl; have hcz27_3 : w24.cell? ⟨gb118, 3, none⟩ = some (.int .i64 0) := (blk_cell BK118.out 3).trans rfl; have hcz27_4 : w24.cell? ⟨gb118, 4, none⟩ = some (.int .i64 0) := (blk_cell BK118.out 4).trans rfl; have hfz27_0 := blk_frozen BK118.out 0; have hfz27_1 := blk_frozen BK118.out 1; have hfz27_2 := blk_frozen BK118.out 2; have hfz27_3 := blk_frozen BK118.out 3; have hfz27_4 := blk_frozen BK118.out 4) | ((with_reducible refine gate_callee (f := 27) rfl ?_); refine goesL_ (some 18) rfl rfl Try.func27 (by kernel_rfl) rfl #[.agg #[.slice Ao25 t111.length co25, .int .i64 t114, .int .i64 t115, .int .i64 t116, .int .i64 t117]] rfl (by (try simp only [List.map_toArray, List.map_cons, List.map_nil]); first | done | rfl | (simp only [List.length_drop, List.length_take]; rfl)) ?_; (with_reducible refine (impl_IsYarnStore.calls k _ _ t111 t114 t115 t116 t117 t119 _ ?side1 ?side2 A10.out).mono ?_); (case side1 => refine (Kd.R_reads' (e := 66) (base := w.heap.size) (ok := fun k_ => (True ∧ some k_ ≠ (.slice Ao20 t103.length co20 : Value).ownBlock)) (n := t111.length) (c := co25) ?_).2.2; exact (by exact Ho.RS <| (Kd.R_mono (Kd.R_far (p := ⟨gb118, 4, none⟩) (Kd.R_far (p := ⟨gb118, 3, none⟩) (Kd.R_far (p := ⟨gb118, 2, none⟩) (Kd.R_far (p := ⟨gb118, 1, none⟩) (Kd.R_far (p := ⟨gb118, 0, none⟩) (Kd.R_types HO113.out BK118.out (by decide)) (fun _ hk => hk.2) (.slice Ao25 t111.length co25)) (fun _ hk => hk.2) (.int .i64 t114)) (fun _ hk => hk.2) (.int .i64 t115)) (fun _ hk => hk.2) (.int .i64 t116)) (fun _ hk => hk.2) (.int .i64 t117)) (fun _ h_ => h_.1)))); (case side2 => exact (Kd.R_reads' HO113.out).2.1); rintro e w28 ⟨rfl, hb⟩; refine ⟨_, rfl, ?_⟩; have n0_ := Aside0.mk (Kd.R_below (by exact Ho.RS <| (Kd.R_mono (Kd.R_far (p := ⟨gb118, 4, none⟩) (Kd.R_far (p := ⟨gb118, 3, none⟩) (Kd.R_far (p := ⟨gb118, 2, none⟩) (Kd.R_far (p := ⟨gb118, 1, none⟩) (Kd.R_far (p := ⟨gb118, 0, none⟩) (Kd.R_types HO105.out BK118.out (by decide)) (fun _ hk => hk.2) (.slice Ao25 t111.length co25)) (fun _ hk => hk.2) (.int .i64 t114)) (fun _ hk => hk.2) (.int .i64 t115)) (fun _ hk => hk.2) (.int .i64 t116)) (fun _ hk => hk.2) (.int .i64 t117)) (fun _ h_ => h_.1))) hb); have n1_ := Aside0.mk (Kd.R_below (by exact Ho.RS <| (Kd.R_mono (Kd.R_far (p := ⟨gb118, 4, none⟩) (Kd.R_far (p := ⟨gb118, 3, none⟩) (Kd.R_far (p := ⟨gb118, 2, none⟩) (Kd.R_far (p := ⟨gb118, 1, none⟩) (Kd.R_far (p := ⟨gb118, 0, none⟩) (Kd.R_types HO113.out BK118.out (by decide)) (fun _ hk => hk.2) (.slice Ao25 t111.length co25)) (fun _ hk => hk.2) (.int .i64 t114)) (fun _ hk => hk.2) (.int .i64 t115)) (fun _ hk => hk.2) (.int .i64 t116)) (fun _ hk => hk.2) (.int .i64 t117)) (fun _ h_ => h_.1))) hb); have n2_ := Aside0.mk (blk_below (g := gb101) (o := .cells #[.slice A0_0 l0_0.length c0_0, .int .i64 a0_1, .int .i64 a0_2, .int .i64 a0_3, .int .i64 a0_4] 45 (0, 0)) (by (with_reducible repeat (first | refine blk_drewN ?_ _ | refine blk_drew ?_ | refine blk_alloc ?_ _)); refine blk_far ?_ NB101_118.out _; (with_reducible repeat (first | refine blk_drewN ?_ _ | refine blk_drew ?_ | refine blk_alloc ?_ _)); refine blk_far ?_ NB101_118.out _; (with_reducible repeat (first | refine blk_drewN ?_ _ | refine blk_drew ?_ | refine blk_alloc ?_ _)); refine blk_far ?_ NB101_118.out _; (with_reducible repeat (first | refine blk_drewN ?_ _ | refine blk_drew ?_ | refine blk_alloc ?_ _)); refine blk_far ?_ NB101_118.out _; (with_reducible repeat (first | refine blk_drewN ?_ _ | refine blk_drew ?_ | refine blk_alloc ?_ _)); refine blk_far ?_ NB101_118.out _; exact bS BK101.out) hb); have n3_ := Aside0.mk (blk_below (g := gb118) (o := .cells #[.slice Ao25 t111.length co25, .int .i64 t114, .int .i64 t115, .int .i64 t116, .int .i64 t117] 37 (0, 0)) (by (with_reducible repeat (first | refine blk_drewN ?_ _ | refine blk_drew ?_ | refine blk_alloc ?_ _)); refine blk_put (cs := #[.slice Ao25 t111.length co25, .int .i64 t114, .int .i64 t115, .int .i64 t116, .int .i64 0]) ?_ 4 _ rfl; (with_reducible repeat (first | refine blk_drewN ?_ _ | refine blk_drew ?_ | refine blk_alloc ?_ _)); refine blk_put (cs := #[.slice Ao25 t111.length co25, .int .i64 t114, .int .i64 t115, .int .i64 0, .int .i64 0]) ?_ 3 _ rfl; (with_reducible repeat (first | refine blk_drewN ?_ _ | refine blk_drew ?_ | refine blk_alloc ?_ _)); refine blk_put (cs := #[.slice Ao25 t111.length co25, .int .i64 t114, .int .i64 0, .int .i64 0, .int .i64 0]) ?_ 2 _ rfl; (with_reducible repeat (first | refine blk_drewN ?_ _ | refine blk_drew ?_ | refine blk_alloc ?_ _)); refine blk_put (cs := #[.slice Ao25 t111.length co25, .int .i64 0, .int .i64 0, .int .i64 0, .int .i64 0]) ?_ 1 _ rfl; (with_reducible repeat (first | refine blk_drewN ?_ _ | refine blk_drew ?_ | refine blk_alloc ?_ _)); refine blk_put (cs := #[.slice none 0 0, .int .i64 0, .int .i64 0, .int .i64 0, .int .i64 0]) ?_ 0 _ rfl; exact bS BK118.out) hb); have n4_ := Aside0.mk (below_step (by repeat (first | (with_reducible first | exact HB.out | apply below_alloc | apply pw_below_drewN | apply below_drew1 | refine below_set ?_ GE101.out | refine below_set ?_ GE118.out) | exact HB.out)) hb); clear HO105; clear HO113; clear BK101; clear BK118; clear HB; have HO105 := n0_; have HO113 := n1_; have BK101 := n2_; have BK118 := n3_; have HB := n4_; clear n0_ n1_ n2_ n3_ n4_; (try clear hb); (try clear hb2); (try clear hk); (try clear hi)))
        have n0_ := Aside0.mk (Kd.R_drew HO105.out)
        have n1_ := Aside0.mk (Kd.R_drew HO113.out)
        have n2_ := Aside0.mk (blk_drew BK101.out)
        have n3_ := Aside0.mk (blk_drew BK118.out)
        have n4_ := Aside0.mk (below_drew1 HB.out)
        clear HO105
        clear HO113
        clear BK101
        clear BK118
        clear HB
        have HO105 := n0_
        have HO113 := n1_
        have BK101 := n2_
        have BK118 := n3_
        have HB := n4_
        clear n0_ n1_ n2_ n3_ n4_
        refine start_ (n := 5) (S := fun w' => w'.cell? ⟨gb118, 0, none⟩ = some (.slice Ao25 t111.length co25) ∧ w'.cell? ⟨gb118, 1, none⟩ = some (.int .i64 t114) ∧ w'.cell? ⟨gb118, 2, none⟩ = some (.int .i64 t115) ∧ w'.cell? ⟨gb118, 3, none⟩ = some (.int .i64 t116) ∧ w'.cell? ⟨gb118, 4, none⟩ = some (.int .i64 t117) ∧ w'.cell? ⟨gb101, 0, none⟩ = some (.slice A0_0 l0_0.length c0_0) ∧ w'.cell? ⟨gb101, 1, none⟩ = some (.int .i64 a0_1) ∧ w'.cell? ⟨gb101, 2, none⟩ = some (.int .i64 a0_2) ∧ w'.cell? ⟨gb101, 3, none⟩ = some (.int .i64 a0_3) ∧ w'.cell? ⟨gb101, 4, none⟩ = some (.int .i64 a0_4)) (ds := []) #[false, false, false, false, false] (by kernel_rfl) rfl rfl ⟨(blk_cell BK118.out 0).trans rfl, (blk_cell BK118.out 1).trans rfl, (blk_cell BK118.out 2).trans rfl, (blk_cell BK118.out 3).trans rfl, (blk_cell BK118.out 4).trans rfl, (blk_cell BK101.out 0).trans rfl, (blk_cell BK101.out 1).trans rfl, (blk_cell BK101.out 2).trans rfl, (blk_cell BK101.out 3).trans rfl, (blk_cell BK101.out 4).trans rfl⟩ (fun hHeld => ?_)
        generalize w28.drew = w29 at HO105 HO113 BK101 BK118 HB hHeld ⊢
        refine take_ (i := 0) (N := some 22) (v := ?_) (a' := ?_) #[true, false, false, false, false] rfl rfl (by kernel_rfl) (fun _ _ _ h => h) (Or.inl ⟨by rfl, ?_⟩) hHeld ?_ ?_
        rotate_left
        · rintro w' ⟨s0, s1, s2, s3, s4, s5, s6, s7, s8, s9⟩
          go_simp
          with_reducible rfl
        rotate_left
        · simp only [Act.put, List.setIfInBounds_toArray, List.set_cons_zero, List.set_cons_succ, i64_w, i32_w]
          rfl
        refine take_ (i := 1) (N := some 23) (v := ?_) (a' := ?_) #[true, true, false, false, false] rfl rfl (by kernel_rfl) (fun _ _ _ h => h) (Or.inl ⟨by rfl, ?_⟩) hHeld ?_ ?_
        rotate_left
        · rintro w' ⟨s0, s1, s2, s3, s4, s5, s6, s7, s8, s9⟩
          go_simp
          with_reducible rfl
        rotate_left
        · simp only [Act.put, List.setIfInBounds_toArray, List.set_cons_zero, List.set_cons_succ, i64_w, i32_w]
          rfl
        refine one_ (i := 2) (N := some 24) #[true, true, true, false, false] rfl rfl (by kernel_rfl) (by decide) (fun K hK => ?_)
        refine goes_ Try.func26 (by kernel_rfl) rfl #[.agg #[.slice A0_0 l0_0.length c0_0, .int .i64 a0_1, .int .i64 a0_2, .int .i64 a0_3, .int .i64 a0_4]] (by rfl) rfl rfl (by (try simp only [List.map_toArray, List.map_cons, List.map_nil]); first | done | rfl | (simp only [List.length_drop, List.length_take]; rfl)) ?_
        with_reducible refine (laws_toYarnStore.calls k _ _ l0_0 a0_1 a0_2 a0_3 a0_4 t120 t123 t124 t125 t126 _ ?side1 ?side2 A12.out).mono ?_
        (case side1 => repeat (first | exact (Kd.C_below HR0_0.out HB.out) | (with_reducible refine Kd.C_alloc ?_ _) | (with_reducible refine Kd.C_drewN ?_ _) | (with_reducible refine Kd.C_drew ?_)))
        (case side2 => exact HC0_0.out)
        rintro e w30 ⟨v121, rfl, ho0, hb⟩
        refine ⟨_, rfl, ?_⟩
        have n0_ := Aside0.mk (Kd.R_elder' (by exact Ho.RS <| HO105.out) (Kd.R_base ho0) hb)
        have n1_ := Aside0.mk (Kd.R_elder' (by exact Ho.RS <| HO113.out) (Kd.R_base ho0) hb)
        have n2_ := Aside0.mk (Kd.R_lower (Kd.R_new' (Kd.R_new' ho0 (Kd.R_lt (by exact Ho.RS <| HO105.out))) (Kd.R_lt (by exact Ho.RS <| HO113.out))) (below_size (by exact eS HB.out)))
        have n3_ := Aside0.mk (blk_below (bS BK101.out) hb)
        have n4_ := Aside0.mk (blk_below (bS BK118.out) hb)
        have n5_ := Aside0.mk (below_step (by exact eS HB.out) hb)
        clear HO105
        clear HO113
        clear BK101
        clear BK118
        clear HB
        have HO105 := n0_
        have HO113 := n1_
        have HO122 := n2_
        have BK101 := n3_
        have BK118 := n4_
        have HB := n5_
        clear n0_ n1_ n2_ n3_ n4_ n5_
        (try clear hb)
        (try clear hb2)
        (try clear hk)
        (try clear hi)
        (try clear ho0)
        obtain ⟨Ao31, co31, eo31⟩ := Kd.R_slice HO122.out
        (first | subst eo31 | (injection eo31 with f1_ f2_ f3_; have f4_ := f1_.symm; have f5_ := f3_.symm; clear f1_ f2_ f3_; subst f4_; subst f5_))
        refine hK.out _ _ ⟨(blk_cell BK118.out 0).trans rfl, (blk_cell BK118.out 1).trans rfl, (blk_cell BK118.out 2).trans rfl, (blk_cell BK118.out 3).trans rfl, (blk_cell BK118.out 4).trans rfl, (blk_cell BK101.out 0).trans rfl, (blk_cell BK101.out 1).trans rfl, (blk_cell BK101.out 2).trans rfl, (blk_cell BK101.out 3).trans rfl, (blk_cell BK101.out 4).trans rfl⟩ (fun hHeld => ?_)
        clear hK K
        refine norm_ (a' := ?_) ?_ ?_
        rotate_left
        · show Act.put _ (some 24) _ = _
          simp only [Act.put, List.setIfInBounds_toArray, List.set_cons_zero, List.set_cons_succ, i64_w, i32_w]
          rfl
        refine one_ (i := 3) (N := some 25) #[true, true, true, true, false] rfl rfl (by kernel_rfl) (by decide) (fun K hK => ?_)
        refine goes_ Try.func21 (by kernel_rfl) rfl #[.agg #[.slice Ao25 t111.length co25, .int .i64 t114, .int .i64 t115, .int .i64 t116, .int .i64 t117], .agg #[.slice Ao31 t120.length co31, .int .i64 t123, .int .i64 t124, .int .i64 t125, .int .i64 t126]] (by rfl) rfl rfl (by (try simp only [List.map_toArray, List.map_cons, List.map_nil]); first | done | rfl | (simp only [List.length_drop, List.length_take]; rfl)) ?_
        with_reducible refine (laws_eqYarnStore.calls k _ _ t111 t114 t115 t116 t117 _ _ t120 t123 t124 t125 t126 true _ ?side1 ?side2 ?side3 ?side4 A13.out).mono ?_
        (case side1 => repeat (first | exact (Kd.R_reads' HO113.out).2.2 | (with_reducible refine Kd.C_alloc ?_ _) | (with_reducible refine Kd.C_drewN ?_ _) | (with_reducible refine Kd.C_drew ?_)))
        (case side2 => exact (Kd.R_reads' HO113.out).2.1)
        (case side3 => repeat (first | exact (Kd.R_reads' HO122.out).2.2 | (with_reducible refine Kd.C_alloc ?_ _) | (with_reducible refine Kd.C_drewN ?_ _) | (with_reducible refine Kd.C_drew ?_)))
        (case side4 => exact (Kd.R_reads' HO122.out).2.1)
        rintro e w32 ⟨rfl, hb⟩
        refine ⟨_, rfl, ?_⟩
        have n0_ := Aside0.mk (Kd.R_below (by exact Ho.RS <| HO105.out) hb)
        have n1_ := Aside0.mk (Kd.R_below (by exact Ho.RS <| HO113.out) hb)
        have n2_ := Aside0.mk (Kd.R_below (by exact Ho.RS <| HO122.out) hb)
        have n3_ := Aside0.mk (blk_below (bS BK101.out) hb)
        have n4_ := Aside0.mk (blk_below (bS BK118.out) hb)
        have n5_ := Aside0.mk (below_step (by exact eS HB.out) hb)
        clear HO105
        clear HO113
        clear HO122
        clear BK101
        clear BK118
        clear HB
        have HO105 := n0_
        have HO113 := n1_
        have HO122 := n2_
        have BK101 := n3_
        have BK118 := n4_
        have HB := n5_
        clear n0_ n1_ n2_ n3_ n4_ n5_
        (try clear hb)
        (try clear hb2)
        (try clear hk)
        (try clear hi)
        refine hK.out _ _ ⟨(blk_cell BK118.out 0).trans rfl, (blk_cell BK118.out 1).trans rfl, (blk_cell BK118.out 2).trans rfl, (blk_cell BK118.out 3).trans rfl, (blk_cell BK118.out 4).trans rfl, (blk_cell BK101.out 0).trans rfl, (blk_cell BK101.out 1).trans rfl, (blk_cell BK101.out 2).trans rfl, (blk_cell BK101.out 3).trans rfl, (blk_cell BK101.out 4).trans rfl⟩ (fun hHeld => ?_)
        clear hK K
        refine norm_ (a' := ?_) ?_ ?_
        rotate_left
        · show Act.put _ (some 25) _ = _
          simp only [Act.put, List.setIfInBounds_toArray, List.set_cons_zero, List.set_cons_succ, i64_w, i32_w]
          rfl
        refine pure_ (i := 4) (N := some 26) (v := ?_) (a' := ?_) #[true, true, true, true, true] rfl rfl (by kernel_rfl) (fun _ _ _ h => h) (Or.inl ⟨by rfl, ?_⟩) ?_ ?_
        rotate_left
        · intro w'
          go_simp
          with_reducible rfl
        rotate_left
        · simp only [Act.put, List.setIfInBounds_toArray, List.set_cons_zero, List.set_cons_succ, i64_w, i32_w]
          rfl
        refine done_ (by kernel_rfl) ?_
        try go_wp2
        go_ret
        exact ⟨by first | rfl | (simp [errW_none, errW_some] <;> rfl) | (simp [*, errW_none, errW_some] <;> rfl), by exact eS HB.out⟩
      · replace c14 := Bool.eq_false_iff.mpr c14
        subst c14
        have H1 : (some false) = some r := by rw [if_neg (show ¬ (false = true) by decide)] at H; exact H
        clear H
        have H := H1
        clear H1
        exact absurd ((Option.some.inj H).trans HT.out) (by decide)

/-- THE ONE PURE STATEMENT of laws_FnExactIsYarnStore: yours. -/
def laws_FnExactIsYarnStore.Pure : Prop := ∀ (l0_0 : List (S82)) (a0_1 : Int) (a0_2 : Int) (a0_3 : Int) (a0_4 : Int), (l0_0.length ≤ 9223372036854775807 ∧ ∀ y_ ∈ l0_0, ok82 y_) → (Lit.int .i64 a0_1).wf = true → (Lit.int .i64 a0_2).wf = true → (Lit.int .i64 a0_3).wf = true → (Lit.int .i64 a0_4).wf = true → ∃ k, laws_FnExactIsYarnStore.f k l0_0 a0_1 a0_2 a0_3 a0_4 = some true

end Go.Proofs.Ytiomfignokichaa.X

-- Qbase
namespace Go.Proofs.Ytiomfignokichaa.Pure
open Go Go.RowKit Go.Proofs Go.Proofs.YtiomfignokichaaW.PrintWords Go.Proofs.YtiomfignokichaaW.PrintLast
set_option linter.unusedVariables false
set_option linter.unusedSimpArgs false

theorem w64 {x : Int} (h1 : -9223372036854775808 ≤ x) (h2 : x ≤ 9223372036854775807) : wrap64 x = x := by unfold wrap64; omega
theorem w64b {x : Int} (h : -9223372036854775808 ≤ x ∧ x ≤ 9223372036854775807) : wrap64 x = x := w64 h.1 h.2
theorem ite_sf (a b : Bool) : (if a = true then some b else some false) = some (a && b) := by cases a <;> rfl
theorem ite_sf2 (a b : Bool) : (if a = true then some false else some b) = some (!a && b) := by cases a <;> rfl
theorem wf_bd {x : Int} (h : (Lit.int .i64 x).wf = true) : -9223372036854775808 ≤ x ∧ x ≤ 9223372036854775807 := by
  have h1 := h
  simp [Lit.wf] at h1
  exact ⟨h1.1, h1.2⟩
/-- a product of two numbers within bounds -/
theorem mul_bd {a b A B : Int} (ha : 0 ≤ a) (hA : a ≤ A) (hb : 0 ≤ b) (hB : b ≤ B) : 0 ≤ a * b ∧ a * b ≤ A * B :=
  ⟨Int.mul_nonneg ha hb, Int.mul_le_mul hA hB hb (Int.le_trans ha hA)⟩
theorem drop_step {α : Type} {l : List α} {i : Nat} (h : i < l.length) (d : α) : l.drop i = l.getD i d :: l.drop (i + 1) := by
  rw [List.drop_eq_getElem_cons h]; congr 1; simp [List.getD_eq_getElem?_getD, List.getElem?_eq_getElem h]
theorem wstep {i : Nat} {n : Nat} (h : i < n) (hn : n ≤ 9223372036854775807) : wrap64 ((i : Int) + 1) = ((i + 1 : Nat) : Int) := by unfold wrap64; omega
theorem nat_of {i : Int} (h : 0 ≤ i) : ∃ n : Nat, i = n := ⟨i.toNat, by omega⟩
theorem succ_of {k d : Nat} (h : d < k) : ∃ m, k = m + 1 ∧ d ≤ m := ⟨k - 1, by omega, by omega⟩

end Go.Proofs.Ytiomfignokichaa.Pure

-- Qloops
namespace Go.Proofs.Ytiomfignokichaa.Pure
open Go Go.RowKit Go.Proofs Go.Proofs.YtiomfignokichaaW.PrintWords Go.Proofs.YtiomfignokichaaW.PrintLast
set_option linter.unusedVariables false
set_option linter.unusedSimpArgs false

/-- A loop that copies element by element into a new row. -/
theorem copy_loop {α β : Type} (L : Nat → List α → List β → Int → Option (List β)) (f : α → β) (d : α) (l : List α) (hb : l.length ≤ 9223372036854775806)
    (hs : ∀ k x3 (i : Nat), i < l.length → x3.length = l.length → L (k + 1) l x3 i = L k l (x3.set i (f (l.getD i d))) (wrap64 ((i : Int) + 1)))
    (he : ∀ k x3 (i : Nat), l.length ≤ i → L (k + 1) l x3 i = some x3) :
    ∀ n k (i : Nat) (x3 : List β), i + n = l.length → n < k → x3.length = l.length → x3.take i = (l.take i).map f → L k l x3 i = some (l.map f) := by
  intro n
  induction n with
  | zero =>
    intro k i x3 hi hk hl ht
    obtain ⟨k, rfl, _⟩ := succ_of hk
    rw [he k x3 i (by omega)]
    rw [List.take_of_length_le (by omega), List.take_of_length_le (by omega)] at ht
    rw [ht]
  | succ n ih =>
    intro k i x3 hi hk hl ht
    obtain ⟨k, rfl, hk⟩ := succ_of hk
    rw [hs k x3 i (by omega) hl, wstep (show i < l.length by omega) (by omega)]
    refine ih k (i + 1) _ (by omega) (by omega) (by rw [List.length_set]; exact hl) ?_
    rw [List.take_succ_eq_append_getElem (by rw [List.length_set]; omega), List.take_succ_eq_append_getElem (by omega), List.map_append, ← ht]
    congr 1
    · rw [List.take_set_of_le (Nat.le_refl _)]
    · simp [List.getD_eq_getElem?_getD, List.getElem?_eq_getElem (show i < l.length by omega)]
/-- A loop that compares a row with itself. -/
theorem refl_loop {α : Type} (L : Nat → List α → List α → Int → Option Bool) (l : List α) (hb : l.length ≤ 9223372036854775806)
    (hs : ∀ k (i : Nat), i < l.length → L (k + 1) l l i = L k l l (wrap64 ((i : Int) + 1))) (he : ∀ k (i : Nat), l.length ≤ i → L (k + 1) l l i = some true) :
    ∀ n k (i : Nat), i + n = l.length → n < k → L k l l i = some true := by
  intro n
  induction n with
  | zero =>
    intro k i hi hk
    obtain ⟨k, rfl, _⟩ := succ_of hk
    exact he k i (by omega)
  | succ n ih =>
    intro k i hi hk
    obtain ⟨k, rfl, hk⟩ := succ_of hk
    rw [hs k i (by omega), wstep (show i < l.length by omega) (by omega)]
    exact ih k (i + 1) (by omega) (by omega)
/-- A loop that asks of all elements, from i on. -/
theorem all_loop {α : Type} (L : Nat → Int → Option Bool) (q : α → Bool) (d : α) (l : List α) (e : Bool) (hb : l.length ≤ 9223372036854775806)
    (hs : ∀ k (i : Nat), i < l.length → L (k + 1) i = if q (l.getD i d) = true then L k (wrap64 ((i : Int) + 1)) else some false) (he : ∀ k (i : Nat), l.length ≤ i → L (k + 1) i = some e) :
    ∀ n k (i : Nat), i + n = l.length → n < k → L k i = some ((l.drop i).all q && e) := by
  intro n
  induction n with
  | zero =>
    intro k i hi hk
    obtain ⟨k, rfl, _⟩ := succ_of hk
    rw [he k i (by omega), List.drop_eq_nil_of_le (by omega)]; rfl
  | succ n ih =>
    intro k i hi hk
    obtain ⟨k, rfl, hk⟩ := succ_of hk
    rw [hs k i (by omega), wstep (show i < l.length by omega) (by omega), drop_step (by omega) d, List.all_cons, ih k (i + 1) (by omega) (by omega)]
    cases q (l.getD i d) <;> simp
/-- What marks leave: each element tells its own number. -/
def markM {α : Type} (g : Int → α) (c : Int) (n : Nat) (s : Int) : List α := (List.range n).map fun (j : Nat) => g (s + c * (j : Int))
theorem markM_length {α : Type} (g : Int → α) (c : Int) (n : Nat) (s : Int) : (markM g c n s).length = n := by simp [markM]
theorem markM_getD {α : Type} (g : Int → α) (c : Int) (n : Nat) (s : Int) (d : α) {i : Nat} (h : i < n) : (markM g c n s).getD i d = g (s + c * i) := by
  simp [markM, List.getD_eq_getElem?_getD, List.getElem?_map, List.getElem?_range h]
/-- A loop that marks. -/
theorem mark_loop {α : Type} (L : Nat → List α → Int → Int → Option (Int × List α)) (g : Int → α) (c : Int) (n0 : Nat) (s : Int) (hb : n0 ≤ 9223372036854775806) 
    (hs : ∀ k x (i : Nat), i < n0 → x.length = n0 → L (k + 1) x (s + c * i) i = L k (x.set i (g (s + c * i))) (s + c * ((i + 1 : Nat) : Int)) (wrap64 ((i : Int) + 1)))
    (he : ∀ k x m (i : Nat), n0 ≤ i → x.length = n0 → L (k + 1) x m i = some (m, x)) :
    ∀ n k (i : Nat) (x : List α), i + n = n0 → n < k → x.length = n0 → x.take i = (markM g c n0 s).take i → L k x (s + c * i) i = some (s + c * n0, markM g c n0 s) := by
  intro n
  induction n with
  | zero =>
    intro k i x hi hk hl ht
    obtain ⟨k, rfl, _⟩ := succ_of hk
    rw [he k x _ i (by omega) hl]
    rw [List.take_of_length_le (by omega), List.take_of_length_le (by rw [markM_length]; omega)] at ht
    rw [ht]; simp [show i = n0 by omega]
  | succ n ih =>
    intro k i x hi hk hl ht
    obtain ⟨k, rfl, hk⟩ := succ_of hk
    rw [hs k x i (by omega) hl, wstep (show i < n0 by omega) (by omega)]
    refine ih k (i + 1) _ (by omega) (by omega) (by rw [List.length_set]; exact hl) ?_
    rw [List.take_succ_eq_append_getElem (by rw [List.length_set]; omega), List.take_succ_eq_append_getElem (by rw [markM_length]; omega), ← ht]
    congr 1
    · rw [List.take_set_of_le (Nat.le_refl _)]
    · simp [markM]
/-- A loop that asks for the marks. -/
theorem held_loop {α : Type} (L : Nat → List α → Int → Int → Option Int) (g : Int → α) (c : Int) (n0 : Nat) (s : Int) (hb : n0 ≤ 9223372036854775806)
    (hs : ∀ k (i : Nat), i < n0 → L (k + 1) (markM g c n0 s) (s + c * i) i = L k (markM g c n0 s) (s + c * ((i + 1 : Nat) : Int)) (wrap64 ((i : Int) + 1)))
    (he : ∀ k m (i : Nat), n0 ≤ i → L (k + 1) (markM g c n0 s) m i = some m) :
    ∀ n k (i : Nat), i + n = n0 → n < k → L k (markM g c n0 s) (s + c * i) i = some (s + c * n0) := by
  intro n
  induction n with
  | zero =>
    intro k i hi hk
    obtain ⟨k, rfl, _⟩ := succ_of hk
    rw [he k _ i (by omega), show i = n0 by omega]
  | succ n ih =>
    intro k i hi hk
    obtain ⟨k, rfl, hk⟩ := succ_of hk
    rw [hs k i (by omega), wstep (show i < n0 by omega) (by omega)]
    exact ih k (i + 1) (by omega) (by omega)
theorem rd_nat (l : List Int) (i : Nat) : rd l (i : Int) = l.getD i 0 := by simp [rd]

end Go.Proofs.Ytiomfignokichaa.Pure

-- Qbobbins
namespace Go.Proofs.Ytiomfignokichaa.Pure
open Go Go.RowKit Go.Proofs Go.Proofs.Ytiomfignokichaa.X Go.Proofs.YtiomfignokichaaW.PrintWords Go.Proofs.YtiomfignokichaaW.PrintLast
set_option linter.unusedVariables false
set_option linter.unusedSimpArgs false

def toB (x : S82) : S66 := ⟨x.f0, x.f1, x.f2⟩
theorem rdVB_nat (l : List S82) (i : Nat) : rd_T82 l (i : Int) = l.getD i z82 := by simp [rd_T82]
theorem rdIB_nat (l : List S66) (i : Nat) : rd_T66 l (i : Int) = l.getD i z66 := by simp [rd_T66]
theorem toBS_eq {k : Nat} {l : List S82} (hk : l.length < k) (hl : l.length ≤ 1048576) : laws_toBobbinS.f k l = some (l.map toB) := by
  unfold laws_toBobbinS.f
  rw [if_pos (by omega), if_pos (by simp; omega)]
  exact copy_loop laws_toBobbinS.l0 toB z82 l (by omega)
    (fun k x3 i h1 h2 => by
      simp only [laws_toBobbinS.l0, laws_toBobbin.f, Option.bind_some]
      rw [if_pos (by omega), if_pos (by omega), if_pos (by omega), rdVB_nat]
      simp [toB])
    (fun k x3 i h1 => by simp only [laws_toBobbinS.l0]; rw [if_neg (by omega)])
    l.length k 0 _ (by omega) hk (by simp) (by simp)
theorem eqBob_refl (a b c : Int) : laws_eqBobbin.f a b c a b c = some true := by simp [laws_eqBobbin.f]
theorem eqBS_refl {k : Nat} {l : List S66} (hk : l.length < k) (hl : l.length ≤ 9223372036854775806) : laws_eqBobbinS.f k l l = some true := by
  unfold laws_eqBobbinS.f
  rw [if_pos rfl]
  exact refl_loop laws_eqBobbinS.l0 l hl
    (fun k i h => by simp only [laws_eqBobbinS.l0, eqBob_refl, Option.bind_some]; rw [if_pos (by omega), if_pos (by omega), if_pos (by omega)]; simp)
    (fun k i h => by simp only [laws_eqBobbinS.l0]; rw [if_neg (by omega)])
    l.length k 0 (by omega) hk
theorem toYarn_eq {k : Nat} {l : List S82} (hk : l.length < k) (hl : l.length ≤ 1048576) (a b c d : Int) : laws_toYarnStore.f k l a b c d = some (l.map toB, a, b, c, d) := by
  simp only [laws_toYarnStore.f, toBS_eq hk hl, Option.bind_some]
theorem eqYarn_refl {k : Nat} {l : List S66} (hk : l.length < k) (hl : l.length ≤ 9223372036854775806) (a b c d : Int) : laws_eqYarnStore.f k l a b c d l a b c d = some true := by
  simp only [laws_eqYarnStore.f, eqBS_refl hk hl, Option.bind_some, if_true]
theorem szYarn_eq {l : List S82} {s : Int} (hl : l.length ≤ 9223372036854775807) (hs : 0 ≤ s ∧ s ≤ 9223372036854775807) (a b c d : Int) : laws_szYarnStore.f l a b c d s = some (if s < l.length then -1 else s - l.length) := by
  unfold laws_szYarnStore.f laws_szBobbinS.f
  rw [w64 (by omega) (by omega)]
  by_cases h : s < l.length
  · rw [if_pos (by omega), if_pos h]; rfl
  · rw [if_neg (by omega), if_neg h]; simp only [Option.bind_some]; rw [if_neg (by omega)]

end Go.Proofs.Ytiomfignokichaa.Pure

-- Qidxall
namespace Go.Proofs.Ytiomfignokichaa.Pure
open Go Go.RowKit Go.Proofs Go.Proofs.YtiomfignokichaaW.PrintWords Go.Proofs.YtiomfignokichaaW.PrintLast
set_option linter.unusedVariables false
set_option linter.unusedSimpArgs false

/-- q at all numbers from i on, n of them -/
def allR (q : Nat → Bool) (i n : Nat) : Bool := (List.range' i n).all q
theorem allR_iff {q : Nat → Bool} {i n : Nat} : allR q i n = true ↔ ∀ j, i ≤ j → j < i + n → q j = true := by
  unfold allR
  rw [List.all_eq_true]
  exact ⟨fun h j h1 h2 => h j (List.mem_range'_1.mpr ⟨h1, h2⟩), fun h j hj => h j (List.mem_range'_1.mp hj).1 (List.mem_range'_1.mp hj).2⟩
theorem allR_succ (q : Nat → Bool) (i n : Nat) : allR q i (n + 1) = (q i && allR q (i + 1) n) := by
  unfold allR; rw [List.range'_succ, List.all_cons]
/-- A loop that asks of all numbers, from i on. -/
theorem idx_loop (L : Nat → Int → Option Bool) (q : Nat → Bool) (i0 n0 : Nat) (e : Bool) (hb : n0 ≤ 9223372036854775806)
    (hs : ∀ k (i : Nat), i0 ≤ i → i < n0 → L (k + 1) i = if q i = true then L k (wrap64 ((i : Int) + 1)) else some false) (he : ∀ k (i : Nat), n0 ≤ i → L (k + 1) i = some e) :
    ∀ n k (i : Nat), i0 ≤ i → i + n = n0 → n < k → L k i = some (allR q i n && e) := by
  intro n
  induction n with
  | zero =>
    intro k i h0 hi hk
    obtain ⟨k, rfl, _⟩ := succ_of hk
    rw [he k i (by omega)]; simp [allR]
  | succ n ih =>
    intro k i h0 hi hk
    obtain ⟨k, rfl, hk⟩ := succ_of hk
    rw [hs k i h0 (by omega), wstep (show i < n0 by omega) (by omega), allR_succ, ih k (i + 1) (by omega) (by omega) (by omega)]
    cases q i <;> simp
theorem all_getD {α : Type} {p : α → Bool} {l : List α} (d : α) : l.all p = true ↔ ∀ j, j < l.length → p (l.getD j d) = true := by
  rw [List.all_eq_true]
  constructor
  · intro h j hj
    rw [List.getD_eq_getElem?_getD, List.getElem?_eq_getElem hj]
    exact h _ (List.getElem_mem hj)
  · intro h x hx
    obtain ⟨j, hj, rfl⟩ := List.mem_iff_getElem.mp hx
    have := h j hj
    rwa [List.getD_eq_getElem?_getD, List.getElem?_eq_getElem hj] at this
/-- A loop that adds up. -/
theorem sum_loop {α β : Type} (L : Nat → Int → Int → Option β) (v : α → Int) (r : Int → Option β) (d : α) (B : Int) (l : List α) (hb : l.length ≤ 9223372036854775806) (hv : ∀ x ∈ l, 0 ≤ v x ∧ v x ≤ B)
    (hs : ∀ k (acc : Int) (i : Nat), i < l.length → 0 ≤ acc → acc ≤ B * i → L (k + 1) acc i = L k (acc + v (l.getD i d)) (wrap64 ((i : Int) + 1)))
    (he : ∀ k (acc : Int) (i : Nat), l.length ≤ i → L (k + 1) acc i = r acc) :
    ∀ n k (acc : Int) (i : Nat), i + n = l.length → n < k → 0 ≤ acc → acc ≤ B * i → L k acc i = r (acc + ((l.drop i).map v).sum) := by
  intro n
  induction n with
  | zero =>
    intro k acc i hi hk h0 h1
    obtain ⟨k, rfl, _⟩ := succ_of hk
    rw [he k acc i (by omega), List.drop_eq_nil_of_le (by omega)]; simp
  | succ n ih =>
    intro k acc i hi hk h0 h1
    obtain ⟨k, rfl, hk⟩ := succ_of hk
    have hlt : i < l.length := by omega
    have hm : l.getD i d ∈ l := by rw [List.getD_eq_getElem?_getD, List.getElem?_eq_getElem hlt]; exact List.getElem_mem hlt
    have := hv _ hm
    rw [hs k acc i hlt h0 h1, wstep hlt (by omega), drop_step hlt d, List.map_cons, List.sum_cons]
    have hB : B * ((i + 1 : Nat) : Int) = B * i + B := by push_cast; rw [Int.mul_add, Int.mul_one]
    rw [ih k _ (i + 1) (by omega) (by omega) (by omega) (by omega), Int.add_assoc]
/-- The same, where the end leans on all that was asked, and needs fuel of its own. -/
theorem idx_loop2 (L : Nat → Int → Option Bool) (q : Nat → Bool) (i0 n0 m0 : Nat) (e : Bool) (hb : n0 ≤ 9223372036854775806)
    (hs : ∀ k (i : Nat), i0 ≤ i → i < n0 → m0 ≤ k → L (k + 1) i = if q i = true then L k (wrap64 ((i : Int) + 1)) else some false) (he : (∀ j, i0 ≤ j → j < n0 → q j = true) → ∀ k, m0 ≤ k → L (k + 1) (n0 : Int) = some e) :
    ∀ n k (i : Nat), i0 ≤ i → i + n = n0 → n + m0 < k → (∀ j, i0 ≤ j → j < i → q j = true) → L k i = some (allR q i n && e) := by
  intro n
  induction n with
  | zero =>
    intro k i h0 hi hk hq
    obtain ⟨k, rfl, _⟩ := succ_of (show 0 < k by omega)
    obtain rfl : i = n0 := by omega
    rw [he hq k (by omega)]; simp [allR]
  | succ n ih =>
    intro k i h0 hi hk hq
    obtain ⟨k, rfl, hk'⟩ := succ_of (show 0 < k by omega)
    rw [hs k i h0 (by omega) (by omega), wstep (show i < n0 by omega) (by omega), allR_succ]
    cases hc : q i
    · simp
    · rw [if_pos rfl, ih k (i + 1) (by omega) (by omega) (by omega) (fun j h1 h2 => by
        by_cases hj : j = i
        · rw [hj]; exact hc
        · exact hq j h1 (by omega)), Bool.true_and]

end Go.Proofs.Ytiomfignokichaa.Pure

-- Qinrange
namespace Go.Proofs.Ytiomfignokichaa.Pure
open Go Go.RowKit Go.Proofs Go.Proofs.Ytiomfignokichaa.X Go.Proofs.YtiomfignokichaaW.PrintWords Go.Proofs.YtiomfignokichaaW.PrintLast
set_option linter.unusedVariables false
set_option linter.unusedSimpArgs false

theorem in_eq (x a b : Int) : impl_in.f x a b = some (decide (a ≤ x ∧ x ≤ b)) := by
  unfold impl_in.f
  by_cases h1 : a ≤ x <;> simp [h1]

end Go.Proofs.Ytiomfignokichaa.Pure

-- Qnewyarn
namespace Go.Proofs.Ytiomfignokichaa.Pure
open Go Go.RowKit Go.Proofs Go.Proofs.Ytiomfignokichaa.X Go.Proofs.YtiomfignokichaaW.PrintWords Go.Proofs.YtiomfignokichaaW.PrintLast
set_option linter.unusedVariables false
set_option linter.unusedSimpArgs false

def numB (n : Int) : Bool := decide (1 ≤ n ∧ n ≤ 999)
theorem isNumber_eq (n : Int) : impl_isNumber.f n = some (numB n) := by simp only [impl_isNumber.f, in_eq, Option.bind_some, numB]

end Go.Proofs.Ytiomfignokichaa.Pure

-- Qspecin
namespace Go.Proofs.Ytiomfignokichaa.Pure
open Go Go.RowKit Go.Proofs Go.Proofs.Ytiomfignokichaa.X Go.Proofs.YtiomfignokichaaW.PrintWords Go.Proofs.YtiomfignokichaaW.PrintLast
set_option linter.unusedVariables false
set_option linter.unusedSimpArgs false

theorem l1In_eq (x a b : Int) : spec_l1In.f x a b = some (decide (a ≤ x ∧ x ≤ b)) := by
  unfold spec_l1In.f
  by_cases h1 : a ≤ x <;> simp [h1]

end Go.Proofs.Ytiomfignokichaa.Pure

-- Qyarn
namespace Go.Proofs.Ytiomfignokichaa.Pure
open Go Go.RowKit Go.Proofs Go.Proofs.Ytiomfignokichaa.X Go.Proofs.YtiomfignokichaaW.PrintWords Go.Proofs.YtiomfignokichaaW.PrintLast
set_option linter.unusedVariables false
set_option linter.unusedSimpArgs false

def tallyB (n : Int) : Bool := decide (0 ≤ n ∧ n ≤ 100000)
def bobB (a : Int) (x : S66) : Bool := decide (1 ≤ x.f0 ∧ x.f0 ≤ a - 1) && (decide (0 ≤ x.f1 ∧ x.f1 ≤ 5) && decide (1 ≤ x.f2 ∧ x.f2 ≤ 100000))
def ascB (l : List S66) (j : Nat) : Bool := decide ((l.getD (j - 1) z66).f0 < (l.getD j z66).f0)
def bobsB (l : List S66) (a : Int) : Bool := l.all (bobB a) && allR (ascB l) 1 (l.length - 1)
def metersM (l : List S66) : Int := (l.map fun x => x.f2).sum
def yarnB (l : List S66) (a b c d : Int) : Bool :=
  (numB a && (tallyB b && (tallyB c && tallyB d))) && (decide (l.length ≤ 8) && (bobsB l a && decide (b = metersM l + c + d)))
theorem sumS_all {k : Nat} {l : List S66} (hk : l.length < k) (hl : l.length ≤ 1000) (hb : ∀ x ∈ l, 0 ≤ x.f2 ∧ x.f2 ≤ 100000) (a b c d : Int) : spec_l21Sum.f k l a b c d (-1) = some (metersM l) := by
  unfold spec_l21Sum.f
  have := sum_loop (fun k acc i => spec_l21Sum.l0 k (-1) acc i l a b c d) (fun x : S66 => x.f2) (fun a => some a) z66 100000 l (by omega) hb
    (fun k acc i h1 h2 h3 => by
      simp only [spec_l21Sum.l0, rdIB_nat]
      have hm : l.getD i z66 ∈ l := by rw [List.getD_eq_getElem?_getD, List.getElem?_eq_getElem h1]; exact List.getElem_mem h1
      have hw := hb _ hm
      rw [if_pos (by omega), if_pos (by trivial), if_pos (by omega), w64 (by omega) (by omega)])
    (fun k acc i h1 => by simp only [spec_l21Sum.l0]; rw [if_neg (by omega)])
    l.length k 0 0 (by omega) hk (by omega) (by omega)
  simpa [metersM] using this
theorem sumI_all {k : Nat} {l : List S66} (hk : l.length < k) (hl : l.length ≤ 1000) (hb : ∀ x ∈ l, 0 ≤ x.f2 ∧ x.f2 ≤ 100000) (a b c d : Int) : impl_YarnStore_sum.f k l a b c d = some (metersM l) := by
  unfold impl_YarnStore_sum.f
  have := sum_loop (fun k acc i => impl_YarnStore_sum.l0 k acc l (l.length : Int) i) (fun x : S66 => x.f2) (fun a => some a) z66 100000 l (by omega) hb
    (fun k acc i h1 h2 h3 => by
      simp only [impl_YarnStore_sum.l0, rdIB_nat]
      have hm : l.getD i z66 ∈ l := by rw [List.getD_eq_getElem?_getD, List.getElem?_eq_getElem h1]; exact List.getElem_mem h1
      have hw := hb _ hm
      rw [if_pos (by omega), if_pos (by omega), if_pos (by omega), w64 (by omega) (by omega)])
    (fun k acc i h1 => by simp only [impl_YarnStore_sum.l0]; rw [if_neg (by omega)])
    l.length k 0 0 (by omega) hk (by omega) (by omega)
  simpa [metersM] using this
theorem bob_m {l : List S66} {a : Int} (h : l.all (bobB a) = true) : ∀ x ∈ l, 0 ≤ x.f2 ∧ x.f2 ≤ 100000 := by
  intro x hx
  have := List.all_eq_true.mp h x hx
  simp only [bobB, Bool.and_eq_true, decide_eq_true_eq] at this
  omega
theorem meters_bd {l : List S66} (hb : ∀ x ∈ l, 0 ≤ x.f2 ∧ x.f2 ≤ 100000) : 0 ≤ metersM l ∧ metersM l ≤ 100000 * l.length := by
  unfold metersM
  induction l with
  | nil => simp
  | cons x l ih =>
    have h1 := hb x List.mem_cons_self
    have h2 := ih (fun y hy => hb y (List.mem_cons_of_mem _ hy))
    rw [List.map_cons, List.sum_cons, List.length_cons]
    push_cast
    omega
theorem bobs_eq (l : List S66) (a : Int) : allR (fun j => bobB a (l.getD j z66) && (decide (j = 0) || ascB l j)) 0 l.length = bobsB l a := by
  unfold bobsB
  rw [Bool.eq_iff_iff, Bool.and_eq_true, allR_iff, allR_iff, all_getD z66]
  constructor
  · intro h
    refine ⟨fun j hj => ?_, fun j h1 h2 => ?_⟩
    · have := h j (by omega) (by omega)
      rw [Bool.and_eq_true] at this; exact this.1
    · have := h j (by omega) (by omega)
      rw [Bool.and_eq_true, Bool.or_eq_true] at this
      rcases this.2 with h3 | h3
      · have := of_decide_eq_true h3; omega
      · exact h3
  · intro h j h1 h2
    rw [Bool.and_eq_true, Bool.or_eq_true]
    refine ⟨h.1 j (by omega), ?_⟩
    by_cases hj : j = 0
    · exact .inl (by simp [hj])
    · exact .inr (h.2 j (by omega) (by omega))
theorem yarnS_eq {k : Nat} {l : List S66} (hk : 20 < k) (hl : l.length ≤ 1073741824) {a b c d : Int} : spec_l21Good.f k l a b c d = some (yarnB l a b c d) := by
  obtain ⟨k, rfl, hk2⟩ := succ_of hk
  simp only [spec_l21Good.f, l1In_eq, Option.bind_some, yarnB, numB, tallyB, spec_l21Good.j0]
  cases ha : decide (1 ≤ a ∧ a ≤ 999)
  · simp
  cases hb : decide (0 ≤ b ∧ b ≤ 100000)
  · simp
  cases hc : decide (0 ≤ c ∧ c ≤ 100000)
  · simp
  cases hd : decide (0 ≤ d ∧ d ≤ 100000)
  · simp
  have ha := of_decide_eq_true ha; have hb := of_decide_eq_true hb; have hc := of_decide_eq_true hc; have hd := of_decide_eq_true hd
  by_cases h8 : (8 : Int) < l.length
  · simp [show ¬ l.length ≤ 8 by omega, h8]
  simp only [show decide ((l.length : Int) > 8) = false by simp; omega, show decide (l.length ≤ 8) = true by simp; omega, if_true, Bool.false_eq_true, if_false, Bool.true_and]
  have h := idx_loop2 (fun k i => spec_l21Good.l0 k i l a b c d) (fun j => bobB a (l.getD j z66) && (decide (j = 0) || ascB l j)) 0 l.length 9 (decide (b = metersM l + c + d)) (by omega)
    (fun k i _ h1 _ => by
      simp only [spec_l21Good.l0, rdIB_nat]
      rw [if_pos (by omega), if_pos (by omega), l1In_eq, w64 (x := a - 1) (by omega) (by omega)]
      simp only [spec_l2Color.f, spec_l21Meters.f, l1In_eq, Option.bind_some]
      have hbob : bobB a (l.getD i z66) = (decide (1 ≤ (l.getD i z66).f0 ∧ (l.getD i z66).f0 ≤ a - 1) && (decide (0 ≤ (l.getD i z66).f1 ∧ (l.getD i z66).f1 ≤ 5) && decide (1 ≤ (l.getD i z66).f2 ∧ (l.getD i z66).f2 ≤ 100000))) := rfl
      obtain ⟨p1, e1⟩ : ∃ p1, decide (1 ≤ (l.getD i z66).f0 ∧ (l.getD i z66).f0 ≤ a - 1) = p1 := ⟨_, rfl⟩
      obtain ⟨p2, e2⟩ : ∃ p2, decide (0 ≤ (l.getD i z66).f1 ∧ (l.getD i z66).f1 ≤ 5) = p2 := ⟨_, rfl⟩
      obtain ⟨p3, e3⟩ : ∃ p3, decide (1 ≤ (l.getD i z66).f2 ∧ (l.getD i z66).f2 ≤ 100000) = p3 := ⟨_, rfl⟩
      rw [hbob, e1, e2, e3]
      clear hbob e1 e2 e3
      cases p1
      · simp
      cases p2
      · simp
      cases p3
      · simp
      by_cases hi : i = 0
      · subst hi; simp
      · simp only [if_true, Bool.true_and]
        rw [if_pos (by omega), w64 (x := (i : Int) - 1) (by omega) (by omega), if_pos (by omega), if_pos (by omega), show (i : Int) - 1 = ((i - 1 : Nat) : Int) by omega, rdIB_nat]
        by_cases hc : (l.getD (i - 1) z66).f0 < (l.getD i z66).f0
        · rw [if_neg (by omega)]; simp only [ascB, hc, decide_true, Bool.or_true, if_true]
        · rw [if_pos (by omega)]; simp only [ascB, hc, decide_false, Bool.or_false, hi, Bool.false_eq_true, if_false])
    (fun hq k hk => by
      have hall : l.all (bobB a) = true := by
        rw [all_getD z66]
        intro j hj
        have := hq j (by omega) hj
        rw [Bool.and_eq_true] at this; exact this.1
      have hm := bob_m hall
      have hs := meters_bd hm
      simp only [spec_l21Good.l0]
      rw [if_neg (by omega), sumS_all (by omega) (by omega) hm]
      simp only [Option.bind_some]
      rw [w64 (x := metersM l + c) (by omega) (by omega), w64 (by omega) (by omega)]
      congr 1)
    l.length k 0 (by omega) (by omega) (by omega) (fun j h1 h2 => by omega)
  refine h.trans (congrArg some ?_)
  rw [bobs_eq]
theorem yarnI_eq {k : Nat} {l : List S66} (hk : l.length + 1 < k) (hl : l.length ≤ 1073741824) {a b c d : Int} : impl_IsYarnStore.f k l a b c d = some (yarnB l a b c d) := by
  obtain ⟨k, rfl, hk2⟩ := succ_of hk
  have hasc : impl_Bobbin__impl_IsYarnStore_2.f (k + 1) l = some (allR (ascB l) 1 (l.length - 1)) := by
    by_cases h0 : l.length = 0
    · simp only [impl_Bobbin__impl_IsYarnStore_2.f, impl_Bobbin__impl_IsYarnStore_2.l0]
      rw [if_neg (by omega), h0]; simp [allR]
    have h := idx_loop (fun k i => impl_Bobbin__impl_IsYarnStore_2.l0 k l i) (ascB l) 1 l.length true (by omega)
      (fun k i h0 h1 => by
        simp only [impl_Bobbin__impl_IsYarnStore_2.l0, impl_IsYarnStore_2.f, Option.bind_some]
        rw [if_pos (by omega), w64 (x := (i : Int) - 1) (by omega) (by omega), if_pos (by omega), if_pos (by omega), show (i : Int) - 1 = ((i - 1 : Nat) : Int) by omega, rdIB_nat, rdIB_nat, if_pos (by omega)]
        by_cases hc : (l.getD (i - 1) z66).f0 < (l.getD i z66).f0
        · rw [if_neg (by omega)]; simp only [ascB, hc, decide_true, if_true]
        · rw [if_pos (by omega)]; simp only [ascB, hc, decide_false, Bool.false_eq_true, if_false])
      (fun k i h1 => by simp only [impl_Bobbin__impl_IsYarnStore_2.l0]; rw [if_neg (by omega)])
      (l.length - 1) (k + 1) 1 (by omega) (by omega) (by omega)
    unfold impl_Bobbin__impl_IsYarnStore_2.f
    rw [show ((1 : Nat) : Int) = 1 from rfl] at h
    rw [h]; simp
  simp only [impl_IsYarnStore.f, hasc, isNumber_eq, Option.bind_some, yarnB, impl_IsYarnStore.j0, impl_isTally.f, in_eq]
  cases ha : numB a
  · simp
  have ha' : 1 ≤ a ∧ a ≤ 999 := of_decide_eq_true ha
  by_cases h8 : (8 : Int) < l.length
  · simp [show ¬ l.length ≤ 8 by omega, h8]
  rw [if_pos rfl, if_neg (by omega)]
  simp only [impl_Bobbin__impl_IsYarnStore_1.f]
  rw [Ho.allO_eq (q := bobB a) (fun x _ => by
    simp only [impl_IsYarnStore_1.f, in_eq, impl_isColor.f, impl_isMeters.f, Option.bind_some, bobB]
    rw [w64 (x := a - 1) (by omega) (by omega)]
    cases decide (1 ≤ x.f0 ∧ x.f0 ≤ a - 1) <;> cases decide (0 ≤ x.f1 ∧ x.f1 ≤ 5) <;> rfl)]
  simp only [Option.bind_some, show decide (l.length ≤ 8) = true by simp; omega, bobsB]
  cases hall : l.all (bobB a)
  · simp
  have hm := bob_m hall
  have hs := meters_bd hm
  cases allR (ascB l) 1 (l.length - 1)
  · simp
  simp only [if_true, Bool.not_true, Bool.false_eq_true, if_false, Bool.true_and]
  show (if tallyB b = true then _ else _) = _
  cases hb : tallyB b
  · simp
  show (if tallyB c = true then _ else _) = _
  cases hc : tallyB c
  · simp
  show (if tallyB d = true then _ else _) = _
  cases hd : tallyB d
  · simp
  have hb := of_decide_eq_true hb; have hc := of_decide_eq_true hc; have hd := of_decide_eq_true hd
  simp only [if_true, Bool.and_self, Bool.true_and]
  rw [sumI_all (by omega) (by omega) hm]
  simp only [Option.bind_some]
  rw [w64 (x := metersM l + c) (by omega) (by omega), w64 (by omega) (by omega)]
  congr 1

end Go.Proofs.Ytiomfignokichaa.Pure

-- PureFnExactIsYarnStore
namespace Go.Proofs.Ytiomfignokichaa.Pure
open Go Go.RowKit Go.Proofs Go.Proofs.Ytiomfignokichaa.X Go.Proofs.YtiomfignokichaaW.PrintWords Go.Proofs.YtiomfignokichaaW.PrintLast
set_option linter.unusedVariables false
set_option linter.unusedSimpArgs false

theorem FnExactIsYarnStore : laws_FnExactIsYarnStore.Pure := by
  intro l a b c d hl _ _ _ _
  refine ⟨2000001, ?_⟩
  simp only [laws_FnExactIsYarnStore.f, szYarn_eq hl.1 (show (0 : Int) ≤ 1048576 ∧ (1048576 : Int) ≤ 9223372036854775807 by omega), Option.bind_some]
  by_cases hs : (1048576 : Int) < l.length
  · simp [hs]
  rw [if_neg hs, if_neg (by omega)]
  have h1 : l.length ≤ 1048576 := by omega
  have h2 : (l.map toB).length ≤ 1048576 := by rw [List.length_map]; exact h1
  simp only [toYarn_eq (k := 2000001) (l := l) (by omega) h1, Option.bind_some, spec_IsYarnStore.f, yarnS_eq (k := 2000001) (l := l.map toB) (by omega) (by omega), yarnI_eq (k := 2000001) (l := l.map toB) (by omega) (by omega), eqYarn_refl (k := 2000001) (l := l.map toB) (by omega) (by omega)]
  simp

end Go.Proofs.Ytiomfignokichaa.Pure
