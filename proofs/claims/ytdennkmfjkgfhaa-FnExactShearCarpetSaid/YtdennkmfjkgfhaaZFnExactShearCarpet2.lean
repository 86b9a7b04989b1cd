/- What the law FnExactShearCarpet needs, part 3 of 3: what each function of the program that it reaches returns (printed by this session's own program, checked by Lean), and plain mathematics about it. Conditions: those of each theorem. -/
import Derived.Test.YtdennkmfjkgfhaaZFnExactShearCarpet1
import Derived.Test.YtdennkmfjkgfhaaWLast
import Derived.Test.YtdennkmfjkgfhaaWWords
-- XlawsFnExactShearCarpetF11
namespace Go.Proofs.Ytdennkmfjkgfhaa.X
open Ho (bS eS)
open Go.RowKit Go.Proofs.YtdennkmfjkgfhaaW.PrintWords Go.Proofs.YtdennkmfjkgfhaaW.PrintLast Go.Proofs.YtdennkmfjkgfhaaW.PrintMore
attribute [local go_sem] max2_int min2_int max_two min_two max_three min_three max_four min_four   -- for this text's walks alone
set_option linter.unusedVariables false
set_option linter.unusedSimpArgs false

/-! ### laws_FnExactShearCarpet: function 11 -/
mutual
def laws_FnExactShearCarpet.j0 : Nat → List (S23) → Int → Int → List (S25) → Int → Bool → List (S25) → List (S25) → Int → Bool → Bool → Option (Bool)
  | 0, _, _, _, _, _, _, _, _, _, _, _ => none
  | k + 1, x0, x1, x2, x8, x9, x10, x11, x12, x13, x14, x58 => if x58 = true then (some false) else ((laws_toWetCarpetS.f k x0).bind fun t119 => ((laws_eqWetCarpetS.f k x11 t119).bind fun t122 => (if t122 = true then ((laws_markWetCarpetS.f k x11 1).bind fun bt123 => (if bt123.1 < 0 then (laws_FnExactShearCarpet.j1 k x0 x1 x2 x8 x9 x10 x12 true) else ((laws_eqWetCarpetS.f k x12 x8).bind fun t125 => (if t125 = true then (if x13 = x9 then (laws_FnExactShearCarpet.j1 k x0 x1 x2 x8 x9 x10 x12 (x14 != x10)) else (laws_FnExactShearCarpet.j1 k x0 x1 x2 x8 x9 x10 x12 true)) else (laws_FnExactShearCarpet.j1 k x0 x1 x2 x8 x9 x10 x12 true))))) else (some false))))
def laws_FnExactShearCarpet.j1 : Nat → List (S23) → Int → Int → List (S25) → Int → Bool → List (S25) → Bool → Option (Bool)
  | 0, _, _, _, _, _, _, _, _ => none
  | k + 1, x0, x1, x2, x8, x9, x10, x12, x84 => if x84 = true then (some false) else ((laws_markWetCarpetS.f k x12 1).bind fun bt126 => ((laws_heldWetCarpetS.f k bt126.2 1).bind fun t128 => (if t128 < 0 then (some false) else (if t128 = bt126.1 then ((laws_toWetCarpetS.f k x0).bind fun t129 => ((impl_ShearCarpet.f k t129 x1 x2).bind fun bt132 => ((laws_eqWetCarpetS.f k bt132.1 x8).bind fun t137 => (if t137 = true then (if bt132.2.1 = x9 then (laws_FnExactShearCarpet.j2 k bt126.2 bt126.1 (bt132.2.2 != x10)) else (laws_FnExactShearCarpet.j2 k bt126.2 bt126.1 true)) else (laws_FnExactShearCarpet.j2 k bt126.2 bt126.1 true))))) else (some false)))))
def laws_FnExactShearCarpet.j2 : Nat → List (S25) → Int → Bool → Option (Bool)
  | 0, _, _, _ => none
  | k + 1, x12, x16, x118 => if x118 = true then (some false) else ((laws_heldWetCarpetS.f k x12 1).bind fun t138 => (if t138 < 0 then (some false) else (if t138 = x16 then (some true) else (some false))))
end
def laws_FnExactShearCarpet.f (k : Nat) (l0 : List (S23)) (a1 : Int) (a2 : Int) : Option (Bool) := (laws_szWetCarpetS.f l0 1048576).bind fun t101 => (if t101 < 0 then (some true) else ((laws_toWetCarpetS.f k l0).bind fun t102 => ((spec_ShearCarpet.f k t102 a1 a2).bind fun bt105 => ((laws_toWetCarpetS.f k l0).bind fun t110 => ((impl_ShearCarpet.f k t110 a1 a2).bind fun bt113 => ((laws_eqWetCarpetS.f k bt113.1 bt105.1).bind fun t118 => (if t118 = true then (if bt113.2.1 = bt105.2.1 then (laws_FnExactShearCarpet.j0 k l0 a1 a2 bt105.1 bt105.2.1 bt105.2.2 t110 bt113.1 bt113.2.1 bt113.2.2 (bt113.2.2 != bt105.2.2)) else (laws_FnExactShearCarpet.j0 k l0 a1 a2 bt105.1 bt105.2.1 bt105.2.2 t110 bt113.1 bt113.2.1 bt113.2.2 true)) else (laws_FnExactShearCarpet.j0 k l0 a1 a2 bt105.1 bt105.2.1 bt105.2.2 t110 bt113.1 bt113.2.1 bt113.2.2 true))))))))
theorem laws_FnExactShearCarpet.mono_l : ∀ k, (∀ y0 y1 y2 y3 y4 y5 y6 y7 y8 y9 y10, LeO (laws_FnExactShearCarpet.j0 k y0 y1 y2 y3 y4 y5 y6 y7 y8 y9 y10) (laws_FnExactShearCarpet.j0 (k + 1) y0 y1 y2 y3 y4 y5 y6 y7 y8 y9 y10)) ∧ (∀ y0 y1 y2 y3 y4 y5 y6 y7, LeO (laws_FnExactShearCarpet.j1 k y0 y1 y2 y3 y4 y5 y6 y7) (laws_FnExactShearCarpet.j1 (k + 1) y0 y1 y2 y3 y4 y5 y6 y7)) ∧ (∀ y0 y1 y2, LeO (laws_FnExactShearCarpet.j2 k y0 y1 y2) (laws_FnExactShearCarpet.j2 (k + 1) y0 y1 y2))
  | 0 => ⟨fun _ _ _ _ _ _ _ _ _ _ _ r h => by simp [laws_FnExactShearCarpet.j0] at h, fun _ _ _ _ _ _ _ _ r h => by simp [laws_FnExactShearCarpet.j1] at h, fun _ _ _ r h => by simp [laws_FnExactShearCarpet.j2] at h⟩
  | k + 1 => by
    obtain ⟨ih0, ih1, ih2⟩ := laws_FnExactShearCarpet.mono_l k
    refine ⟨?_, ?_, ?_⟩
    · intro y0 y1 y2 y3 y4 y5 y6 y7 y8 y9 y10
      unfold laws_FnExactShearCarpet.j0
      repeat' first
      | (with_reducible exact ih0 _ _ _ _ _ _ _ _ _ _ _)
      | (with_reducible exact ih1 _ _ _ _ _ _ _ _)
      | (with_reducible exact ih2 _ _ _)
      | (with_reducible exact impl_ShearCarpet.mono _ _ _ _)
      | (with_reducible exact laws_eqWetCarpetS.mono _ _ _)
      | (with_reducible exact laws_heldWetCarpetS.mono _ _ _)
      | (with_reducible exact laws_markWetCarpetS.mono _ _ _)
      | (with_reducible exact laws_toWetCarpetS.mono _ _)
      | (with_reducible exact spec_ShearCarpet.mono _ _ _ _)
      | (with_reducible exact LeO.refl _)
      | (with_reducible exact LeO.none _)
      | (with_reducible refine LeO.ite ?_ ?_)
      | (with_reducible refine LeO.bind ?_ (fun _ => ?_))
      | exact ih0 _ _ _ _ _ _ _ _ _ _ _
      | exact ih1 _ _ _ _ _ _ _ _
      | exact ih2 _ _ _
      | exact impl_ShearCarpet.mono _ _ _ _
      | exact laws_eqWetCarpetS.mono _ _ _
      | exact laws_heldWetCarpetS.mono _ _ _
      | exact laws_markWetCarpetS.mono _ _ _
      | exact laws_toWetCarpetS.mono _ _
      | exact spec_ShearCarpet.mono _ _ _ _
      | exact LeO.none _
      | refine LeO.ite ?_ ?_
      | refine LeO.bind ?_ (fun _ => ?_)
    · intro y0 y1 y2 y3 y4 y5 y6 y7
      unfold laws_FnExactShearCarpet.j1
      repeat' first
      | (with_reducible exact ih0 _ _ _ _ _ _ _ _ _ _ _)
      | (with_reducible exact ih1 _ _ _ _ _ _ _ _)
      | (with_reducible exact ih2 _ _ _)
      | (with_reducible exact impl_ShearCarpet.mono _ _ _ _)
      | (with_reducible exact laws_eqWetCarpetS.mono _ _ _)
      | (with_reducible exact laws_heldWetCarpetS.mono _ _ _)
      | (with_reducible exact laws_markWetCarpetS.mono _ _ _)
      | (with_reducible exact laws_toWetCarpetS.mono _ _)
      | (with_reducible exact spec_ShearCarpet.mono _ _ _ _)
      | (with_reducible exact LeO.refl _)
      | (with_reducible exact LeO.none _)
      | (with_reducible refine LeO.ite ?_ ?_)
      | (with_reducible refine LeO.bind ?_ (fun _ => ?_))
      | exact ih0 _ _ _ _ _ _ _ _ _ _ _
      | exact ih1 _ _ _ _ _ _ _ _
      | exact ih2 _ _ _
      | exact impl_ShearCarpet.mono _ _ _ _
      | exact laws_eqWetCarpetS.mono _ _ _
      | exact laws_heldWetCarpetS.mono _ _ _
      | exact laws_markWetCarpetS.mono _ _ _
      | exact laws_toWetCarpetS.mono _ _
      | exact spec_ShearCarpet.mono _ _ _ _
      | exact LeO.none _
      | refine LeO.ite ?_ ?_
      | refine LeO.bind ?_ (fun _ => ?_)
    · intro y0 y1 y2
      unfold laws_FnExactShearCarpet.j2
      repeat' first
      | (with_reducible exact ih0 _ _ _ _ _ _ _ _ _ _ _)
      | (with_reducible exact ih1 _ _ _ _ _ _ _ _)
      | (with_reducible exact ih2 _ _ _)
      | (with_reducible exact impl_ShearCarpet.mono _ _ _ _)
      | (with_reducible exact laws_eqWetCarpetS.mono _ _ _)
      | (with_reducible exact laws_heldWetCarpetS.mono _ _ _)
      | (with_reducible exact laws_markWetCarpetS.mono _ _ _)
      | (with_reducible exact laws_toWetCarpetS.mono _ _)
      | (with_reducible exact spec_ShearCarpet.mono _ _ _ _)
      | (with_reducible exact LeO.refl _)
      | (with_reducible exact LeO.none _)
      | (with_reducible refine LeO.ite ?_ ?_)
      | (with_reducible refine LeO.bind ?_ (fun _ => ?_))
      | exact ih0 _ _ _ _ _ _ _ _ _ _ _
      | exact ih1 _ _ _ _ _ _ _ _
      | exact ih2 _ _ _
      | exact impl_ShearCarpet.mono _ _ _ _
      | exact laws_eqWetCarpetS.mono _ _ _
      | exact laws_heldWetCarpetS.mono _ _ _
      | exact laws_markWetCarpetS.mono _ _ _
      | exact laws_toWetCarpetS.mono _ _
      | exact spec_ShearCarpet.mono _ _ _ _
      | exact LeO.none _
      | refine LeO.ite ?_ ?_
      | refine LeO.bind ?_ (fun _ => ?_)
theorem laws_FnExactShearCarpet.mono : ∀ a0 a1 a2 k, LeO (laws_FnExactShearCarpet.f k a0 a1 a2) (laws_FnExactShearCarpet.f (k + 1) a0 a1 a2) := by
  intro a0 a1 a2 k
  obtain ⟨ih0, ih1, ih2⟩ := laws_FnExactShearCarpet.mono_l k
  unfold laws_FnExactShearCarpet.f
  repeat' first
      | (with_reducible exact ih0 _ _ _ _ _ _ _ _ _ _ _)
      | (with_reducible exact ih1 _ _ _ _ _ _ _ _)
      | (with_reducible exact ih2 _ _ _)
      | (with_reducible exact impl_ShearCarpet.mono _ _ _ _)
      | (with_reducible exact laws_eqWetCarpetS.mono _ _ _)
      | (with_reducible exact laws_heldWetCarpetS.mono _ _ _)
      | (with_reducible exact laws_markWetCarpetS.mono _ _ _)
      | (with_reducible exact laws_toWetCarpetS.mono _ _)
      | (with_reducible exact spec_ShearCarpet.mono _ _ _ _)
      | (with_reducible exact LeO.refl _)
      | (with_reducible exact LeO.none _)
      | (with_reducible refine LeO.ite ?_ ?_)
      | (with_reducible refine LeO.bind ?_ (fun _ => ?_))
      | exact ih0 _ _ _ _ _ _ _ _ _ _ _
      | exact ih1 _ _ _ _ _ _ _ _
      | exact ih2 _ _ _
      | exact impl_ShearCarpet.mono _ _ _ _
      | exact laws_eqWetCarpetS.mono _ _ _
      | exact laws_heldWetCarpetS.mono _ _ _
      | exact laws_markWetCarpetS.mono _ _ _
      | exact laws_toWetCarpetS.mono _ _
      | exact spec_ShearCarpet.mono _ _ _ _
      | exact LeO.none _
      | refine LeO.ite ?_ ?_
      | refine LeO.bind ?_ (fun _ => ?_)
set_option maxHeartbeats 8000000 in
set_option maxRecDepth 100000 in
theorem laws_FnExactShearCarpet.calls (k : Nat) (A0 : Option Addr) (c0 : Nat) (l0 : List (S23)) (a1 : Int) (a2 : Int) (r : Bool) (w : World) (hr0 : Kd.C k23 w A0 l0.length l0) (hc0 : l0.length ≤ c0) (ht : r = true) (h : laws_FnExactShearCarpet.f k l0 a1 a2 = some r) :
    Calls Try.prog 11 #[.slice A0 l0.length c0, .int .i64 a1, .int .i64 a2] w fun e w' => e = .returned (.bool r) ∧ Below w.heap.size w w' := by
  have HR0 := Aside0.mk hr0
  have HC0 := Aside0.mk hc0
  clear hr0 hc0
  have HB := Aside0.mk (Below.refl w.heap.size w)
  have HT := Aside0.mk ht
  clear ht
  have H : ((laws_szWetCarpetS.f l0 1048576).bind fun t101 => (if t101 < 0 then (some true) else ((laws_toWetCarpetS.f k l0).bind fun t102 => ((spec_ShearCarpet.f k t102 a1 a2).bind fun bt105 => ((laws_toWetCarpetS.f k l0).bind fun t110 => ((impl_ShearCarpet.f k t110 a1 a2).bind fun bt113 => ((laws_eqWetCarpetS.f k bt113.1 bt105.1).bind fun t118 => (if t118 = true then (if bt113.2.1 = bt105.2.1 then (laws_FnExactShearCarpet.j0 k l0 a1 a2 bt105.1 bt105.2.1 bt105.2.2 t110 bt113.1 bt113.2.1 bt113.2.2 (bt113.2.2 != bt105.2.2)) else (laws_FnExactShearCarpet.j0 k l0 a1 a2 bt105.1 bt105.2.1 bt105.2.2 t110 bt113.1 bt113.2.1 bt113.2.2 true)) else (laws_FnExactShearCarpet.j0 k l0 a1 a2 bt105.1 bt105.2.1 bt105.2.2 t110 bt113.1 bt113.2.1 bt113.2.2 true))))))))) = some r := h
  clear h
  replace H := Option.bind_eq_some_iff.mp H
  obtain ⟨t101, A40, H⟩ := H
  replace H : (if t101 < 0 then (some true) else ((laws_toWetCarpetS.f k l0).bind fun t102 => ((spec_ShearCarpet.f k t102 a1 a2).bind fun bt105 => ((laws_toWetCarpetS.f k l0).bind fun t110 => ((impl_ShearCarpet.f k t110 a1 a2).bind fun bt113 => ((laws_eqWetCarpetS.f k bt113.1 bt105.1).bind fun t118 => (if t118 = true then (if bt113.2.1 = bt105.2.1 then (laws_FnExactShearCarpet.j0 k l0 a1 a2 bt105.1 bt105.2.1 bt105.2.2 t110 bt113.1 bt113.2.1 bt113.2.2 (bt113.2.2 != bt105.2.2)) else (laws_FnExactShearCarpet.j0 k l0 a1 a2 bt105.1 bt105.2.1 bt105.2.2 t110 bt113.1 bt113.2.1 bt113.2.2 true)) else (laws_FnExactShearCarpet.j0 k l0 a1 a2 bt105.1 bt105.2.1 bt105.2.2 t110 bt113.1 bt113.2.1 bt113.2.2 true)))))))) = some r := H
  have A4 := Aside0.mk A40
  clear A40
  by_cases c5 : t101 < 0
  · rw [if_pos c5] at H
    have c5b0 : decide (t101 < 0) = true := decide_eq_true c5
    clear c5
    as_aux_lemma =>
      obtain rfl := Option.some.inj H
      go_enter Try.func11, Try.ntmps11
      go_wp2_with (first | ((with_reducible refine gate_callee (f := 24) rfl ?_); refine goesL_ (some 23) rfl rfl Try.func24 (by kernel_rfl) rfl #[.slice A0 l0.length c0, .int .i64 1048576] rfl (by (try simp only [List.map_toArray, List.map_cons, List.map_nil]); first | done | rfl | (simp only [List.length_drop, List.length_take]; rfl)) ?_; (with_reducible refine (laws_szWetCarpetS.calls _ _ l0 1048576 t101 _ ?side1 ?side2 A4.out).mono ?_); (case side1 => repeat (first | exact HR0.out | (with_reducible refine Kd.C_alloc ?_ _) | (with_reducible refine Kd.C_drewN ?_ _) | (with_reducible refine Kd.C_drew ?_))); (case side2 => exact HC0.out); rintro e w' ⟨rfl, ⟨nd, rfl⟩⟩; refine ⟨_, rfl, ?_⟩))
      go_ret
      exact ⟨by first | rfl | (simp [errW_none, errW_some] <;> rfl) | (simp [*, errW_none, errW_some] <;> rfl), by exact eS HB.out⟩
  · rw [if_neg c5] at H
    have c5b0 : decide (t101 < 0) = false := decide_eq_false c5
    clear c5
    replace H := Option.bind_eq_some_iff.mp H
    obtain ⟨t102, A60, H⟩ := H
    replace H : ((spec_ShearCarpet.f k t102 a1 a2).bind fun bt105 => ((laws_toWetCarpetS.f k l0).bind fun t110 => ((impl_ShearCarpet.f k t110 a1 a2).bind fun bt113 => ((laws_eqWetCarpetS.f k bt113.1 bt105.1).bind fun t118 => (if t118 = true then (if bt113.2.1 = bt105.2.1 then (laws_FnExactShearCarpet.j0 k l0 a1 a2 bt105.1 bt105.2.1 bt105.2.2 t110 bt113.1 bt113.2.1 bt113.2.2 (bt113.2.2 != bt105.2.2)) else (laws_FnExactShearCarpet.j0 k l0 a1 a2 bt105.1 bt105.2.1 bt105.2.2 t110 bt113.1 bt113.2.1 bt113.2.2 true)) else (laws_FnExactShearCarpet.j0 k l0 a1 a2 bt105.1 bt105.2.1 bt105.2.2 t110 bt113.1 bt113.2.1 bt113.2.2 true)))))) = some r := H
    have A6 := Aside0.mk A60
    clear A60
    replace H := Option.bind_eq_some_iff.mp H
    obtain ⟨⟨t105, t106, t107⟩, A70, H⟩ := H
    replace H : ((laws_toWetCarpetS.f k l0).bind fun t110 => ((impl_ShearCarpet.f k t110 a1 a2).bind fun bt113 => ((laws_eqWetCarpetS.f k bt113.1 t105).bind fun t118 => (if t118 = true then (if bt113.2.1 = t106 then (laws_FnExactShearCarpet.j0 k l0 a1 a2 t105 t106 t107 t110 bt113.1 bt113.2.1 bt113.2.2 (bt113.2.2 != t107)) else (laws_FnExactShearCarpet.j0 k l0 a1 a2 t105 t106 t107 t110 bt113.1 bt113.2.1 bt113.2.2 true)) else (laws_FnExactShearCarpet.j0 k l0 a1 a2 t105 t106 t107 t110 bt113.1 bt113.2.1 bt113.2.2 true))))) = some r := H
    have A7 := Aside0.mk A70
    clear A70
    replace H := Option.bind_eq_some_iff.mp H
    obtain ⟨t110, A80, H⟩ := H
    replace H : ((impl_ShearCarpet.f k t110 a1 a2).bind fun bt113 => ((laws_eqWetCarpetS.f k bt113.1 t105).bind fun t118 => (if t118 = true then (if bt113.2.1 = t106 then (laws_FnExactShearCarpet.j0 k l0 a1 a2 t105 t106 t107 t110 bt113.1 bt113.2.1 bt113.2.2 (bt113.2.2 != t107)) else (laws_FnExactShearCarpet.j0 k l0 a1 a2 t105 t106 t107 t110 bt113.1 bt113.2.1 bt113.2.2 true)) else (laws_FnExactShearCarpet.j0 k l0 a1 a2 t105 t106 t107 t110 bt113.1 bt113.2.1 bt113.2.2 true)))) = some r := H
    have A8 := Aside0.mk A80
    clear A80
    replace H := Option.bind_eq_some_iff.mp H
    obtain ⟨⟨t113, t114, t115⟩, A90, H⟩ := H
    replace H : ((laws_eqWetCarpetS.f k t113 t105).bind fun t118 => (if t118 = true then (if t114 = t106 then (laws_FnExactShearCarpet.j0 k l0 a1 a2 t105 t106 t107 t110 t113 t114 t115 (t115 != t107)) else (laws_FnExactShearCarpet.j0 k l0 a1 a2 t105 t106 t107 t110 t113 t114 t115 true)) else (laws_FnExactShearCarpet.j0 k l0 a1 a2 t105 t106 t107 t110 t113 t114 t115 true))) = some r := H
    have A9 := Aside0.mk A90
    clear A90
    have HC10 := Aside0.mk H
    clear H
    go_enter Try.func11, Try.ntmps11
    go_upto_region 8 with (first | ((with_reducible refine gate_callee (f := 24) rfl ?_); refine goesL_ (some 23) rfl rfl Try.func24 (by kernel_rfl) rfl #[.slice A0 l0.length c0, .int .i64 1048576] rfl (by (try simp only [List.map_toArray, List.map_cons, List.map_nil]); first | done | rfl | (simp only [List.length_drop, List.length_take]; rfl)) ?_; (with_reducible refine (laws_szWetCarpetS.calls _ _ l0 1048576 t101 _ ?side1 ?side2 A4.out).mono ?_); (case side1 => repeat (first | exact HR0.out | (with_reducible refine Kd.C_alloc ?_ _) | (with_reducible refine Kd.C_drewN ?_ _) | (with_reducible refine Kd.C_drew ?_))); (case side2 => exact HC0.out); rintro e w' ⟨rfl, ⟨nd, rfl⟩⟩; refine ⟨_, rfl, ?_⟩) | ((with_reducible refine gate_callee (f := 26) rfl ?_); refine goesL_ (some 28) rfl rfl Try.func26 (by kernel_rfl) rfl #[.slice A0 l0.length c0] rfl (by (try simp only [List.map_toArray, List.map_cons, List.map_nil]); first | done | rfl | (simp only [List.length_drop, List.length_take]; rfl)) ?_; (with_reducible refine (laws_toWetCarpetS.calls k _ _ l0 t102 _ ?side1 ?side2 A6.out).mono ?_); (case side1 => repeat (first | exact HR0.out | (with_reducible refine Kd.C_alloc ?_ _) | (with_reducible refine Kd.C_drewN ?_ _) | (with_reducible refine Kd.C_drew ?_))); (case side2 => exact HC0.out); rintro e w11 ⟨v103, rfl, ho0, hb⟩; refine ⟨_, rfl, ?_⟩; have n0_ := Aside0.mk (Kd.R_lower ho0 (below_size (by exact eS HB.out))); have n1_ := Aside0.mk (below_step (by exact eS HB.out) hb); clear HB; have HO104 := n0_; have HB := n1_; clear n0_ n1_; (try clear hb); (try clear hb2); (try clear hk); (try clear hi); (try clear ho0); obtain ⟨Ao12, co12, eo12⟩ := Kd.R_slice HO104.out; subst eo12) | ((with_reducible refine gate_callee (f := 37) rfl ?_); refine goesL_ (some 31) rfl rfl Try.func37 (by kernel_rfl) rfl #[.slice Ao12 t102.length co12, .int .i64 a1, .int .i64 a2] rfl (by (try simp only [List.map_toArray, List.map_cons, List.map_nil]); first | done | rfl | (simp only [List.length_drop, List.length_take]; rfl)) ?_; (with_reducible refine (spec_ShearCarpet.calls k _ _ t102 a1 a2 t105 t106 t107 _ ?side1 ?side2 A7.out).mono ?_); (case side1 => repeat (first | exact (Kd.R_reads' HO104.out).2.2 | (with_reducible refine Kd.C_alloc ?_ _) | (with_reducible refine Kd.C_drewN ?_ _) | (with_reducible refine Kd.C_drew ?_))); (case side2 => exact (Kd.R_reads' HO104.out).2.1); rintro e w13 ⟨v108, rfl, ho0, hb⟩; refine ⟨_, rfl, ?_⟩; have n0_ := Aside0.mk (Kd.R_elder' (by exact Ho.RS <| HO104.out) (Kd.R_base ho0) hb); have n1_ := Aside0.mk (Kd.R_lower (Kd.R_new' ho0 (Kd.R_lt (by exact Ho.RS <| HO104.out))) (below_size (by exact eS HB.out))); have n2_ := Aside0.mk (below_step (by exact eS HB.out) hb); clear HO104; clear HB; have HO104 := n0_; have HO109 := n1_; have HB := n2_; clear n0_ n1_ n2_; (try clear hb); (try clear hb2); (try clear hk); (try clear hi); (try clear ho0)) | ((with_reducible refine gate_callee (f := 26) rfl ?_); refine goesL_ (some 36) rfl rfl Try.func26 (by kernel_rfl) rfl #[.slice A0 l0.length c0] rfl (by (try simp only [List.map_toArray, List.map_cons, List.map_nil]); first | done | rfl | (simp only [List.length_drop, List.length_take]; rfl)) ?_; (with_reducible refine (laws_toWetCarpetS.calls k _ _ l0 t110 _ ?side1 ?side2 A8.out).mono ?_); (case side1 => repeat (first | exact (Kd.C_below HR0.out HB.out) | (with_reducible refine Kd.C_alloc ?_ _) | (with_reducible refine Kd.C_drewN ?_ _) | (with_reducible refine Kd.C_drew ?_))); (case side2 => exact HC0.out); rintro e w14 ⟨v111, rfl, ho0, hb⟩; refine ⟨_, rfl, ?_⟩; have n0_ := Aside0.mk (Kd.R_elder' (by exact Ho.RS <| HO104.out) (Kd.R_base ho0) hb); have n1_ := Aside0.mk (Kd.R_elder' (by exact Ho.RS <| HO109.out) (Kd.R_base ho0) hb); have n2_ := Aside0.mk (Kd.R_lower (Kd.R_new' (Kd.R_new' ho0 (Kd.R_lt (by exact Ho.RS <| HO104.out))) (Kd.R_lt (by exact Ho.RS <| HO109.out))) (below_size (by exact eS HB.out))); have n3_ := Aside0.mk (below_step (by exact eS HB.out) hb); clear HO104; clear HO109; clear HB; have HO104 := n0_; have HO109 := n1_; have HO112 := n2_; have HB := n3_; clear n0_ n1_ n2_ n3_; (try clear hb); (try clear hb2); (try clear hk); (try clear hi); (try clear ho0); obtain ⟨Ao15, co15, eo15⟩ := Kd.R_slice HO112.out; subst eo15) | ((with_reducible refine gate_callee (f := 38) rfl ?_); refine goesL_ (some 41) rfl rfl Try.func38 (by kernel_rfl) rfl #[.slice Ao15 t110.length co15, .int .i64 a1, .int .i64 a2] rfl (by (try simp only [List.map_toArray, List.map_cons, List.map_nil]); first | done | rfl | (simp only [List.length_drop, List.length_take]; rfl)) ?_; (with_reducible refine (impl_ShearCarpet.calls k _ _ t110 a1 a2 t113 t114 t115 _ ?side1 ?side2 A9.out).mono ?_); (case side1 => repeat (first | exact (Kd.R_reads' HO112.out).2.2 | (with_reducible refine Kd.C_alloc ?_ _) | (with_reducible refine Kd.C_drewN ?_ _) | (with_reducible refine Kd.C_drew ?_))); (case side2 => exact (Kd.R_reads' HO112.out).2.1); rintro e w16 ⟨v116, rfl, ho0, hb⟩; refine ⟨_, rfl, ?_⟩; have n0_ := Aside0.mk (Kd.R_elder' (by exact Ho.RS <| HO104.out) (Kd.R_base ho0) hb); have n1_ := Aside0.mk (Kd.R_elder' (by exact Ho.RS <| HO109.out) (Kd.R_base ho0) hb); have n2_ := Aside0.mk (Kd.R_elder' (by exact Ho.RS <| HO112.out) (Kd.R_base ho0) hb); have n3_ := Aside0.mk (Kd.R_lower (Kd.R_new' (Kd.R_new' (Kd.R_new' ho0 (Kd.R_lt (by exact Ho.RS <| HO104.out))) (Kd.R_lt (by exact Ho.RS <| HO109.out))) (Kd.R_lt (by exact Ho.RS <| HO112.out))) (below_size (by exact eS HB.out))); have n4_ := Aside0.mk (below_step (by exact eS HB.out) hb); clear HO104; clear HO109; clear HO112; clear HB; have HO104 := n0_; have HO109 := n1_; have HO112 := n2_; have HO117 := n3_; have HB := n4_; clear n0_ n1_ n2_ n3_ n4_; (try clear hb); (try clear hb2); (try clear hk); (try clear hi); (try clear ho0)))
    (try simp only [Act.put, List.setIfInBounds_toArray, List.set_cons_zero, List.set_cons_succ])
    go_cut [58] (fun v58 wc => ∃ (kq : Nat) (x58_9 : Bool), v58 = .bool x58_9 ∧ Aside0 (laws_FnExactShearCarpet.j0 kq l0 a1 a2 t105 t106 t107 t110 t113 t114 t115 x58_9 = some r) ∧ Aside0 (kq ≤ k) ∧ Aside0 (Kd.R k25 25 wc w.heap.size (fun k_ => some k_ ≠ ((.slice Ao15 t110.length co15) : Value).ownBlock ∧ some k_ ≠ (v116 : Value).ownBlock) v108 t105) ∧ Aside0 (Kd.R k25 25 wc w.heap.size (fun k_ => some k_ ≠ (v108 : Value).ownBlock ∧ some k_ ≠ (v116 : Value).ownBlock) (.slice Ao15 t110.length co15) t110) ∧ Aside0 (Kd.R k25 25 wc w.heap.size (fun k_ => some k_ ≠ (v108 : Value).ownBlock ∧ some k_ ≠ ((.slice Ao15 t110.length co15) : Value).ownBlock) v116 t113) ∧ Aside0 (Below w.heap.size w wc))
    case first =>
      have H := HC10.out
      clear HC10
      replace H := Option.bind_eq_some_iff.mp H
      obtain ⟨t118, A170, H⟩ := H
      replace H : (if t118 = true then (if t114 = t106 then (laws_FnExactShearCarpet.j0 k l0 a1 a2 t105 t106 t107 t110 t113 t114 t115 (t115 != t107)) else (laws_FnExactShearCarpet.j0 k l0 a1 a2 t105 t106 t107 t110 t113 t114 t115 true)) else (laws_FnExactShearCarpet.j0 k l0 a1 a2 t105 t106 t107 t110 t113 t114 t115 true)) = some r := H
      have A17 := Aside0.mk A170
      clear A170
      by_cases c18 : t118 = true
      · subst c18
        have H1 : (if t114 = t106 then (laws_FnExactShearCarpet.j0 k l0 a1 a2 t105 t106 t107 t110 t113 t114 t115 (t115 != t107)) else (laws_FnExactShearCarpet.j0 k l0 a1 a2 t105 t106 t107 t110 t113 t114 t115 true)) = some r := by rw [if_pos rfl] at H; exact H
        clear H
        have H := H1
        clear H1
        by_cases c19 : t114 = t106
        · rw [if_pos c19] at H
          have c19b0 : (t114 == t106) = true := beq_iff_eq.mpr c19
          have c19b1 : (t114 != t106) = false := bne_eq_false_iff_eq.mpr c19
          clear c19
          (first | rw [c19b0] | (simp only [i64_w, i32_w]; rw [c19b0]) | skip)
          as_aux_lemma =>
            have H' := Aside0.mk H
            clear H
            obtain ⟨Ao20, co20, eo20⟩ := Kd.R_slice HO117.out
            subst eo20
            obtain ⟨Ao21, co21, eo21⟩ := Kd.R_slice HO109.out
            subst eo21
            go_wp2_with (first | ((with_reducible refine gate_callee (f := 28) rfl ?_); refine goesL_ (some 47) rfl rfl Try.func28 (by kernel_rfl) rfl #[.slice Ao20 t113.length co20, .slice Ao21 t105.length co21] rfl (by (try simp only [List.map_toArray, List.map_cons, List.map_nil]); first | done | rfl | (simp only [List.length_drop, List.length_take]; rfl)) ?_; (with_reducible refine (laws_eqWetCarpetS.calls k _ _ t113 _ _ t105 true _ ?side1 ?side2 ?side3 ?side4 A17.out).mono ?_); (case side1 => repeat (first | exact (Kd.R_reads' HO117.out).2.2 | (with_reducible refine Kd.C_alloc ?_ _) | (with_reducible refine Kd.C_drewN ?_ _) | (with_reducible refine Kd.C_drew ?_))); (case side2 => exact (Kd.R_reads' HO117.out).2.1); (case side3 => repeat (first | exact (Kd.R_reads' HO109.out).2.2 | (with_reducible refine Kd.C_alloc ?_ _) | (with_reducible refine Kd.C_drewN ?_ _) | (with_reducible refine Kd.C_drew ?_))); (case side4 => exact (Kd.R_reads' HO109.out).2.1); rintro e w22 ⟨rfl, hb⟩; refine ⟨_, rfl, ?_⟩; have n0_ := Aside0.mk (Kd.R_below (by exact Ho.RS <| HO104.out) hb); have n1_ := Aside0.mk (Kd.R_below (by exact Ho.RS <| HO109.out) hb); have n2_ := Aside0.mk (Kd.R_below (by exact Ho.RS <| HO112.out) hb); have n3_ := Aside0.mk (Kd.R_below (by exact Ho.RS <| HO117.out) hb); have n4_ := Aside0.mk (below_step (by exact eS HB.out) hb); clear HO104; clear HO109; clear HO112; clear HO117; clear HB; have HO104 := n0_; have HO109 := n1_; have HO112 := n2_; have HO117 := n3_; have HB := n4_; clear n0_ n1_ n2_ n3_ n4_; (try clear hb); (try clear hb2); (try clear hk); (try clear hi)))
            go_meet
            case rel => exact ⟨_, ((t115 != t107)), (by first | rfl | (simp; done) | (simp [*]; done)), H', ⟨by first | omega | exact Nat.le_refl _⟩, ⟨by exact Ho.RS <| Kd.R_mono HO109.out (fun _ hk => ⟨hk.1.2, hk.2⟩)⟩, ⟨by exact Ho.RS <| Kd.R_mono HO112.out (fun _ hk => ⟨hk.1.2, hk.2⟩)⟩, ⟨by exact Ho.RS <| Kd.R_mono HO117.out (fun _ hk => ⟨hk.1.2, hk.2⟩)⟩, ⟨by exact eS HB.out⟩⟩
        · rw [if_neg c19] at H
          have c19b0 : (t114 == t106) = false := beq_eq_false_iff_ne.mpr c19
          have c19b1 : (t114 != t106) = true := bne_iff_ne.mpr c19
          (first | rw [c19b0] | (simp only [i64_w, i32_w]; rw [c19b0]) | skip)
          as_aux_lemma =>
            have H' := Aside0.mk H
            clear H
            obtain ⟨Ao23, co23, eo23⟩ := Kd.R_slice HO117.out
            subst eo23
            obtain ⟨Ao24, co24, eo24⟩ := Kd.R_slice HO109.out
            subst eo24
            go_wp2_with (first | ((with_reducible refine gate_callee (f := 28) rfl ?_); refine goesL_ (some 47) rfl rfl Try.func28 (by kernel_rfl) rfl #[.slice Ao23 t113.length co23, .slice Ao24 t105.length co24] rfl (by (try simp only [List.map_toArray, List.map_cons, List.map_nil]); first | done | rfl | (simp only [List.length_drop, List.length_take]; rfl)) ?_; (with_reducible refine (laws_eqWetCarpetS.calls k _ _ t113 _ _ t105 true _ ?side1 ?side2 ?side3 ?side4 A17.out).mono ?_); (case side1 => repeat (first | exact (Kd.R_reads' HO117.out).2.2 | (with_reducible refine Kd.C_alloc ?_ _) | (with_reducible refine Kd.C_drewN ?_ _) | (with_reducible refine Kd.C_drew ?_))); (case side2 => exact (Kd.R_reads' HO117.out).2.1); (case side3 => repeat (first | exact (Kd.R_reads' HO109.out).2.2 | (with_reducible refine Kd.C_alloc ?_ _) | (with_reducible refine Kd.C_drewN ?_ _) | (with_reducible refine Kd.C_drew ?_))); (case side4 => exact (Kd.R_reads' HO109.out).2.1); rintro e w25 ⟨rfl, hb⟩; refine ⟨_, rfl, ?_⟩; have n0_ := Aside0.mk (Kd.R_below (by exact Ho.RS <| HO104.out) hb); have n1_ := Aside0.mk (Kd.R_below (by exact Ho.RS <| HO109.out) hb); have n2_ := Aside0.mk (Kd.R_below (by exact Ho.RS <| HO112.out) hb); have n3_ := Aside0.mk (Kd.R_below (by exact Ho.RS <| HO117.out) hb); have n4_ := Aside0.mk (below_step (by exact eS HB.out) hb); clear HO104; clear HO109; clear HO112; clear HO117; clear HB; have HO104 := n0_; have HO109 := n1_; have HO112 := n2_; have HO117 := n3_; have HB := n4_; clear n0_ n1_ n2_ n3_ n4_; (try clear hb); (try clear hb2); (try clear hk); (try clear hi)))
            go_meet
            case rel => exact ⟨_, (true), (by first | rfl | (simp; done) | (simp [*]; done)), H', ⟨by first | omega | exact Nat.le_refl _⟩, ⟨by exact Ho.RS <| Kd.R_mono HO109.out (fun _ hk => ⟨hk.1.2, hk.2⟩)⟩, ⟨by exact Ho.RS <| Kd.R_mono HO112.out (fun _ hk => ⟨hk.1.2, hk.2⟩)⟩, ⟨by exact Ho.RS <| Kd.R_mono HO117.out (fun _ hk => ⟨hk.1.2, hk.2⟩)⟩, ⟨by exact eS HB.out⟩⟩
      · replace c18 := Bool.eq_false_iff.mpr c18
        subst c18
        have H1 : (laws_FnExactShearCarpet.j0 k l0 a1 a2 t105 t106 t107 t110 t113 t114 t115 true) = some r := by rw [if_neg (show ¬ (false = true) by decide)] at H; exact H
        clear H
        have H := H1
        clear H1
        as_aux_lemma =>
          have H' := Aside0.mk H
          clear H
          obtain ⟨Ao26, co26, eo26⟩ := Kd.R_slice HO117.out
          subst eo26
          obtain ⟨Ao27, co27, eo27⟩ := Kd.R_slice HO109.out
          subst eo27
          go_wp2_with (first | ((with_reducible refine gate_callee (f := 28) rfl ?_); refine goesL_ (some 47) rfl rfl Try.func28 (by kernel_rfl) rfl #[.slice Ao26 t113.length co26, .slice Ao27 t105.length co27] rfl (by (try simp only [List.map_toArray, List.map_cons, List.map_nil]); first | done | rfl | (simp only [List.length_drop, List.length_take]; rfl)) ?_; (with_reducible refine (laws_eqWetCarpetS.calls k _ _ t113 _ _ t105 false _ ?side1 ?side2 ?side3 ?side4 A17.out).mono ?_); (case side1 => repeat (first | exact (Kd.R_reads' HO117.out).2.2 | (with_reducible refine Kd.C_alloc ?_ _) | (with_reducible refine Kd.C_drewN ?_ _) | (with_reducible refine Kd.C_drew ?_))); (case side2 => exact (Kd.R_reads' HO117.out).2.1); (case side3 => repeat (first | exact (Kd.R_reads' HO109.out).2.2 | (with_reducible refine Kd.C_alloc ?_ _) | (with_reducible refine Kd.C_drewN ?_ _) | (with_reducible refine Kd.C_drew ?_))); (case side4 => exact (Kd.R_reads' HO109.out).2.1); rintro e w28 ⟨rfl, hb⟩; refine ⟨_, rfl, ?_⟩; have n0_ := Aside0.mk (Kd.R_below (by exact Ho.RS <| HO104.out) hb); have n1_ := Aside0.mk (Kd.R_below (by exact Ho.RS <| HO109.out) hb); have n2_ := Aside0.mk (Kd.R_below (by exact Ho.RS <| HO112.out) hb); have n3_ := Aside0.mk (Kd.R_below (by exact Ho.RS <| HO117.out) hb); have n4_ := Aside0.mk (below_step (by exact eS HB.out) hb); clear HO104; clear HO109; clear HO112; clear HO117; clear HB; have HO104 := n0_; have HO109 := n1_; have HO112 := n2_; have HO117 := n3_; have HB := n4_; clear n0_ n1_ n2_ n3_ n4_; (try clear hb); (try clear hb2); (try clear hk); (try clear hi)))
          go_meet
          case rel => exact ⟨_, (true), (by first | rfl | (simp; done) | (simp [*]; done)), H', ⟨by first | omega | exact Nat.le_refl _⟩, ⟨by exact Ho.RS <| Kd.R_mono HO109.out (fun _ hk => ⟨hk.1.2, hk.2⟩)⟩, ⟨by exact Ho.RS <| Kd.R_mono HO112.out (fun _ hk => ⟨hk.1.2, hk.2⟩)⟩, ⟨by exact Ho.RS <| Kd.R_mono HO117.out (fun _ hk => ⟨hk.1.2, hk.2⟩)⟩, ⟨by exact eS HB.out⟩⟩
    case rest =>
      clear HC10
      try clear c1
      try clear c2
      try clear p2
      try clear c3
      try clear c5
      try clear c5b0
      try clear c11
      try clear c18
      try clear c19
      try clear c19b0
      try clear c19b1
      try clear c24
      try clear c26
      try clear c28
      obtain ⟨kq, x58_9, rfl, HA, HJ9, HO_8, HO_11, HO_12, HB⟩ := hcut
      cases kq with
      | zero => exact absurd HA.out (by simp [laws_FnExactShearCarpet.j0])
      | succ kj9 =>
        have H := HA.out
        clear HA
        simp only [laws_FnExactShearCarpet.j0] at H
        by_cases c29 : x58_9 = true
        · subst c29
          have H1 : (some false) = some r := by rw [if_pos rfl] at H; exact H
          clear H
          have H := H1
          clear H1
          as_aux_lemma =>
            exact absurd ((Option.some.inj H).trans HT.out) (by decide)
        · replace c29 := Bool.eq_false_iff.mpr c29
          subst c29
          have H1 : ((laws_toWetCarpetS.f kj9 l0).bind fun t119 => ((laws_eqWetCarpetS.f kj9 t110 t119).bind fun t122 => (if t122 = true then ((laws_markWetCarpetS.f kj9 t110 1).bind fun bt123 => (if bt123.1 < 0 then (laws_FnExactShearCarpet.j1 kj9 l0 a1 a2 t105 t106 t107 t113 true) else ((laws_eqWetCarpetS.f kj9 t113 t105).bind fun t125 => (if t125 = true then (if t114 = t106 then (laws_FnExactShearCarpet.j1 kj9 l0 a1 a2 t105 t106 t107 t113 (t115 != t107)) else (laws_FnExactShearCarpet.j1 kj9 l0 a1 a2 t105 t106 t107 t113 true)) else (laws_FnExactShearCarpet.j1 kj9 l0 a1 a2 t105 t106 t107 t113 true))))) else (some false)))) = some r := by rw [if_neg (show ¬ (false = true) by decide)] at H; exact H
          clear H
          have H := H1
          clear H1
          replace H := Option.bind_eq_some_iff.mp H
          obtain ⟨t119, A300, H⟩ := H
          replace H : ((laws_eqWetCarpetS.f kj9 t110 t119).bind fun t122 => (if t122 = true then ((laws_markWetCarpetS.f kj9 t110 1).bind fun bt123 => (if bt123.1 < 0 then (laws_FnExactShearCarpet.j1 kj9 l0 a1 a2 t105 t106 t107 t113 true) else ((laws_eqWetCarpetS.f kj9 t113 t105).bind fun t125 => (if t125 = true then (if t114 = t106 then (laws_FnExactShearCarpet.j1 kj9 l0 a1 a2 t105 t106 t107 t113 (t115 != t107)) else (laws_FnExactShearCarpet.j1 kj9 l0 a1 a2 t105 t106 t107 t113 true)) else (laws_FnExactShearCarpet.j1 kj9 l0 a1 a2 t105 t106 t107 t113 true))))) else (some false))) = some r := H
          have A30 := Aside0.mk A300
          clear A300
          replace H := Option.bind_eq_some_iff.mp H
          obtain ⟨t122, A310, H⟩ := H
          replace H : (if t122 = true then ((laws_markWetCarpetS.f kj9 t110 1).bind fun bt123 => (if bt123.1 < 0 then (laws_FnExactShearCarpet.j1 kj9 l0 a1 a2 t105 t106 t107 t113 true) else ((laws_eqWetCarpetS.f kj9 t113 t105).bind fun t125 => (if t125 = true then (if t114 = t106 then (laws_FnExactShearCarpet.j1 kj9 l0 a1 a2 t105 t106 t107 t113 (t115 != t107)) else (laws_FnExactShearCarpet.j1 kj9 l0 a1 a2 t105 t106 t107 t113 true)) else (laws_FnExactShearCarpet.j1 kj9 l0 a1 a2 t105 t106 t107 t113 true))))) else (some false)) = some r := H
          have A31 := Aside0.mk A310
          clear A310
          by_cases c32 : t122 = true
          · subst c32
            have H1 : ((laws_markWetCarpetS.f kj9 t110 1).bind fun bt123 => (if bt123.1 < 0 then (laws_FnExactShearCarpet.j1 kj9 l0 a1 a2 t105 t106 t107 t113 true) else ((laws_eqWetCarpetS.f kj9 t113 t105).bind fun t125 => (if t125 = true then (if t114 = t106 then (laws_FnExactShearCarpet.j1 kj9 l0 a1 a2 t105 t106 t107 t113 (t115 != t107)) else (laws_FnExactShearCarpet.j1 kj9 l0 a1 a2 t105 t106 t107 t113 true)) else (laws_FnExactShearCarpet.j1 kj9 l0 a1 a2 t105 t106 t107 t113 true))))) = some r := by rw [if_pos rfl] at H; exact H
            clear H
            have H := H1
            clear H1
            replace H := Option.bind_eq_some_iff.mp H
            obtain ⟨⟨t123, t124⟩, A330, H⟩ := H
            replace H : (if t123 < 0 then (laws_FnExactShearCarpet.j1 kj9 l0 a1 a2 t105 t106 t107 t113 true) else ((laws_eqWetCarpetS.f kj9 t113 t105).bind fun t125 => (if t125 = true then (if t114 = t106 then (laws_FnExactShearCarpet.j1 kj9 l0 a1 a2 t105 t106 t107 t113 (t115 != t107)) else (laws_FnExactShearCarpet.j1 kj9 l0 a1 a2 t105 t106 t107 t113 true)) else (laws_FnExactShearCarpet.j1 kj9 l0 a1 a2 t105 t106 t107 t113 true)))) = some r := H
            have A33 := Aside0.mk A330
            clear A330
            have HC34 := Aside0.mk H
            clear H
            go_upto_region 14 with (first | ((with_reducible refine gate_callee (f := 26) rfl ?_); refine goesL_ (some 61) rfl rfl Try.func26 (by kernel_rfl) rfl #[.slice A0 l0.length c0] rfl (by (try simp only [List.map_toArray, List.map_cons, List.map_nil]); first | done | rfl | (simp only [List.length_drop, List.length_take]; rfl)) ?_; (with_reducible refine (laws_toWetCarpetS.calls kj9 _ _ l0 t119 _ ?side1 ?side2 A30.out).mono ?_); (case side1 => repeat (first | exact (Kd.C_below HR0.out HB.out) | (with_reducible refine Kd.C_alloc ?_ _) | (with_reducible refine Kd.C_drewN ?_ _) | (with_reducible refine Kd.C_drew ?_))); (case side2 => exact HC0.out); rintro e w35 ⟨v120, rfl, ho0, hb⟩; refine ⟨_, rfl, ?_⟩; have n0_ := Aside0.mk (Kd.R_elder' (by exact Ho.RS <| HO_8.out) (Kd.R_base ho0) hb); have n1_ := Aside0.mk (Kd.R_elder' (by exact Ho.RS <| HO_11.out) (Kd.R_base ho0) hb); have n2_ := Aside0.mk (Kd.R_elder' (by exact Ho.RS <| HO_12.out) (Kd.R_base ho0) hb); have n3_ := Aside0.mk (Kd.R_lower (Kd.R_new' (Kd.R_new' (Kd.R_new' ho0 (Kd.R_lt (by exact Ho.RS <| HO_8.out))) (Kd.R_lt (by exact Ho.RS <| HO_11.out))) (Kd.R_lt (by exact Ho.RS <| HO_12.out))) (below_size (by exact eS HB.out))); have n4_ := Aside0.mk (below_step (by exact eS HB.out) hb); clear HO_8; clear HO_11; clear HO_12; clear HB; have HO_8 := n0_; have HO_11 := n1_; have HO_12 := n2_; have HO121 := n3_; have HB := n4_; clear n0_ n1_ n2_ n3_ n4_; (try clear hb); (try clear hb2); (try clear hk); (try clear hi); (try clear ho0); obtain ⟨Ao36, co36, eo36⟩ := Kd.R_slice HO121.out; subst eo36) | ((with_reducible refine gate_callee (f := 28) rfl ?_); refine goesL_ (some 62) rfl rfl Try.func28 (by kernel_rfl) rfl #[.slice Ao15 t110.length co15, .slice Ao36 t119.length co36] rfl (by (try simp only [List.map_toArray, List.map_cons, List.map_nil]); first | done | rfl | (simp only [List.length_drop, List.length_take]; rfl)) ?_; (with_reducible refine (laws_eqWetCarpetS.calls kj9 _ _ t110 _ _ t119 true _ ?side1 ?side2 ?side3 ?side4 A31.out).mono ?_); (case side1 => repeat (first | exact (Kd.R_reads' HO_11.out).2.2 | (with_reducible refine Kd.C_alloc ?_ _) | (with_reducible refine Kd.C_drewN ?_ _) | (with_reducible refine Kd.C_drew ?_))); (case side2 => exact (Kd.R_reads' HO_11.out).2.1); (case side3 => repeat (first | exact (Kd.R_reads' HO121.out).2.2 | (with_reducible refine Kd.C_alloc ?_ _) | (with_reducible refine Kd.C_drewN ?_ _) | (with_reducible refine Kd.C_drew ?_))); (case side4 => exact (Kd.R_reads' HO121.out).2.1); rintro e w37 ⟨rfl, hb⟩; refine ⟨_, rfl, ?_⟩; have n0_ := Aside0.mk (Kd.R_below (by exact Ho.RS <| HO_8.out) hb); have n1_ := Aside0.mk (Kd.R_below (by exact Ho.RS <| HO_11.out) hb); have n2_ := Aside0.mk (Kd.R_below (by exact Ho.RS <| HO_12.out) hb); have n3_ := Aside0.mk (Kd.R_below (by exact Ho.RS <| HO121.out) hb); have n4_ := Aside0.mk (below_step (by exact eS HB.out) hb); clear HO_8; clear HO_11; clear HO_12; clear HO121; clear HB; have HO_8 := n0_; have HO_11 := n1_; have HO_12 := n2_; have HO121 := n3_; have HB := n4_; clear n0_ n1_ n2_ n3_ n4_; (try clear hb); (try clear hb2); (try clear hk); (try clear hi)) | ((with_reducible refine gate_callee (f := 33) rfl ?_); refine goesL_ (some 66) rfl rfl Try.func33 (by kernel_rfl) rfl #[.slice Ao15 t110.length co15, .int .i64 1] rfl (by (try simp only [List.map_toArray, List.map_cons, List.map_nil]); first | done | rfl | (simp only [List.length_drop, List.length_take]; rfl)) ?_; (with_reducible refine (laws_markWetCarpetS.calls kj9 (fun k_ => some k_ = (.slice Ao15 t110.length co15 : Value).ownBlock) (.slice Ao15 t110.length co15) t110 1 t123 t124 w _ ?side1 ?side2 A33.out).mono ?_); (case side1 => exact eS HB.out); (case side2 => exact Kd.R_tight rfl HO_11.out); rintro e w38 ⟨rfl, hy0, hb, hkp⟩; refine ⟨_, rfl, ?_⟩; have n0_ := Aside0.mk (Kd.R_mono (ok' := fun k_ => some k_ ≠ (.slice Ao15 t110.length co15 : Value).ownBlock ∧ some k_ ≠ (v116 : Value).ownBlock ∧ some k_ ≠ (.slice Ao36 t119.length co36 : Value).ownBlock) (Kd.R_keptB (HO_8.out) hkp (fun k_ hk_ hs_ => (hk_.1.1) hs_)) (fun k_ hk_ => ⟨hk_.1.1.1, hk_.1.1.2, hk_.1.2⟩)); have n1_ := Aside0.mk (Kd.R_reok rfl hy0 (fun k_ e_ => HO_11.out.1 k_ e_)); have n2_ := Aside0.mk (Kd.R_mono (ok' := fun k_ => some k_ ≠ (v108 : Value).ownBlock ∧ some k_ ≠ (.slice Ao15 t110.length co15 : Value).ownBlock ∧ some k_ ≠ (.slice Ao36 t119.length co36 : Value).ownBlock) (Kd.R_keptB (HO_12.out) hkp (fun k_ hk_ hs_ => (hk_.1.2) hs_)) (fun k_ hk_ => ⟨hk_.1.1.1, hk_.1.1.2, hk_.1.2⟩)); have n3_ := Aside0.mk (Kd.R_mono (ok' := fun k_ => some k_ ≠ (v108 : Value).ownBlock ∧ some k_ ≠ (.slice Ao15 t110.length co15 : Value).ownBlock ∧ some k_ ≠ (v116 : Value).ownBlock) (Kd.R_keptB (HO121.out) hkp (fun k_ hk_ hs_ => (hk_.1.2) hs_)) (fun k_ hk_ => ⟨hk_.1.1.1.2, hk_.1.1.2, hk_.1.2⟩)); have n4_ := Aside0.mk (hb); clear HO_8; clear HO_11; clear HO_12; clear HO121; clear HB; have HO_8 := n0_; have HO_11 := n1_; have HO_12 := n2_; have HO121 := n3_; have HB := n4_; clear n0_ n1_ n2_ n3_ n4_; (try clear hb); (try clear hkp); (try clear hy0)))
            (try simp only [Act.put, List.setIfInBounds_toArray, List.set_cons_zero, List.set_cons_succ])
            go_cut [84] (fun v84 wc => ∃ (kq : Nat) (x84_33 : Bool), v84 = .bool x84_33 ∧ Aside0 (laws_FnExactShearCarpet.j1 kq l0 a1 a2 t105 t106 t107 t113 x84_33 = some r) ∧ Aside0 (kq ≤ kj9) ∧ Aside0 (Kd.R k25 25 wc w.heap.size (fun k_ => some k_ ≠ (v116 : Value).ownBlock) v108 t105) ∧ Aside0 (Kd.R k25 25 wc w.heap.size (fun k_ => some k_ ≠ (v108 : Value).ownBlock) v116 t113) ∧ Aside0 (Below w.heap.size w wc))
            case first =>
              have H := HC34.out
              clear HC34
              by_cases c39 : t123 < 0
              · rw [if_pos c39] at H
                have c39b0 : decide (t123 < 0) = true := decide_eq_true c39
                clear c39
                (first | rw [c39b0] | (simp only [i64_w, i32_w]; rw [c39b0]) | skip)
                as_aux_lemma =>
                  have H' := Aside0.mk H
                  clear H
                  go_wp2
                  go_meet
                  case rel => exact ⟨_, (true), (by first | rfl | (simp; done) | (simp [*]; done)), H', ⟨by have := HJ9.out; first | omega | exact Nat.le_refl _⟩, ⟨by exact Ho.RS <| Kd.R_mono HO_8.out (fun _ hk => hk.2.1)⟩, ⟨by exact Ho.RS <| Kd.R_mono HO_12.out (fun _ hk => hk.1)⟩, ⟨by exact eS HB.out⟩⟩
              · rw [if_neg c39] at H
                have c39b0 : decide (t123 < 0) = false := decide_eq_false c39
                clear c39
                (first | rw [c39b0] | (simp only [i64_w, i32_w]; rw [c39b0]) | skip)
                replace H := Option.bind_eq_some_iff.mp H
                obtain ⟨t125, A400, H⟩ := H
                replace H : (if t125 = true then (if t114 = t106 then (laws_FnExactShearCarpet.j1 kj9 l0 a1 a2 t105 t106 t107 t113 (t115 != t107)) else (laws_FnExactShearCarpet.j1 kj9 l0 a1 a2 t105 t106 t107 t113 true)) else (laws_FnExactShearCarpet.j1 kj9 l0 a1 a2 t105 t106 t107 t113 true)) = some r := H
                have A40 := Aside0.mk A400
                clear A400
                by_cases c41 : t125 = true
                · subst c41
                  have H1 : (if t114 = t106 then (laws_FnExactShearCarpet.j1 kj9 l0 a1 a2 t105 t106 t107 t113 (t115 != t107)) else (laws_FnExactShearCarpet.j1 kj9 l0 a1 a2 t105 t106 t107 t113 true)) = some r := by rw [if_pos rfl] at H; exact H
                  clear H
                  have H := H1
                  clear H1
                  by_cases c42 : t114 = t106
                  · rw [if_pos c42] at H
                    have c42b0 : (t114 == t106) = true := beq_iff_eq.mpr c42
                    have c42b1 : (t114 != t106) = false := bne_eq_false_iff_eq.mpr c42
                    clear c42
                    as_aux_lemma =>
                      have H' := Aside0.mk H
                      clear H
                      obtain ⟨Ao43, co43, eo43⟩ := Kd.R_slice HO_12.out
                      subst eo43
                      obtain ⟨Ao44, co44, eo44⟩ := Kd.R_slice HO_8.out
                      subst eo44
                      go_wp2_with (first | (go_at_call 28; (with_reducible refine (laws_eqWetCarpetS.calls kj9 _ _ t113 _ _ t105 true _ ?side1 ?side2 ?side3 ?side4 A40.out).mono ?_); (case side1 => repeat (first | exact (Kd.R_reads' HO_12.out).2.2 | (with_reducible refine Kd.C_alloc ?_ _) | (with_reducible refine Kd.C_drewN ?_ _) | (with_reducible refine Kd.C_drew ?_))); (case side2 => exact (Kd.R_reads' HO_12.out).2.1); (case side3 => repeat (first | exact (Kd.R_reads' HO_8.out).2.2 | (with_reducible refine Kd.C_alloc ?_ _) | (with_reducible refine Kd.C_drewN ?_ _) | (with_reducible refine Kd.C_drew ?_))); (case side4 => exact (Kd.R_reads' HO_8.out).2.1); rintro e w45 ⟨rfl, hb⟩; have n0_ := Aside0.mk (Kd.R_below (by exact Ho.RS <| HO_8.out) hb); have n1_ := Aside0.mk (Kd.R_below (by exact Ho.RS <| HO_11.out) hb); have n2_ := Aside0.mk (Kd.R_below (by exact Ho.RS <| HO_12.out) hb); have n3_ := Aside0.mk (Kd.R_below (by exact Ho.RS <| HO121.out) hb); have n4_ := Aside0.mk (below_step (by exact eS HB.out) hb); clear HO_8; clear HO_11; clear HO_12; clear HO121; clear HB; have HO_8 := n0_; have HO_11 := n1_; have HO_12 := n2_; have HO121 := n3_; have HB := n4_; clear n0_ n1_ n2_ n3_ n4_; (try clear hb); (try clear hb2); (try clear hk); (try clear hi)))
                      go_meet
                      case rel => exact ⟨_, ((t115 != t107)), (by first | rfl | (simp; done) | (simp [*]; done)), H', ⟨by have := HJ9.out; first | omega | exact Nat.le_refl _⟩, ⟨by exact Ho.RS <| Kd.R_mono HO_8.out (fun _ hk => hk.2.1)⟩, ⟨by exact Ho.RS <| Kd.R_mono HO_12.out (fun _ hk => hk.1)⟩, ⟨by exact eS HB.out⟩⟩
                  · rw [if_neg c42] at H
                    have c42b0 : (t114 == t106) = false := beq_eq_false_iff_ne.mpr c42
                    have c42b1 : (t114 != t106) = true := bne_iff_ne.mpr c42
                    as_aux_lemma =>
                      have H' := Aside0.mk H
                      clear H
                      obtain ⟨Ao46, co46, eo46⟩ := Kd.R_slice HO_12.out
                      subst eo46
                      obtain ⟨Ao47, co47, eo47⟩ := Kd.R_slice HO_8.out
                      subst eo47
                      go_wp2_with (first | (go_at_call 28; (with_reducible refine (laws_eqWetCarpetS.calls kj9 _ _ t113 _ _ t105 true _ ?side1 ?side2 ?side3 ?side4 A40.out).mono ?_); (case side1 => repeat (first | exact (Kd.R_reads' HO_12.out).2.2 | (with_reducible refine Kd.C_alloc ?_ _) | (with_reducible refine Kd.C_drewN ?_ _) | (with_reducible refine Kd.C_drew ?_))); (case side2 => exact (Kd.R_reads' HO_12.out).2.1); (case side3 => repeat (first | exact (Kd.R_reads' HO_8.out).2.2 | (with_reducible refine Kd.C_alloc ?_ _) | (with_reducible refine Kd.C_drewN ?_ _) | (with_reducible refine Kd.C_drew ?_))); (case side4 => exact (Kd.R_reads' HO_8.out).2.1); rintro e w48 ⟨rfl, hb⟩; have n0_ := Aside0.mk (Kd.R_below (by exact Ho.RS <| HO_8.out) hb); have n1_ := Aside0.mk (Kd.R_below (by exact Ho.RS <| HO_11.out) hb); have n2_ := Aside0.mk (Kd.R_below (by exact Ho.RS <| HO_12.out) hb); have n3_ := Aside0.mk (Kd.R_below (by exact Ho.RS <| HO121.out) hb); have n4_ := Aside0.mk (below_step (by exact eS HB.out) hb); clear HO_8; clear HO_11; clear HO_12; clear HO121; clear HB; have HO_8 := n0_; have HO_11 := n1_; have HO_12 := n2_; have HO121 := n3_; have HB := n4_; clear n0_ n1_ n2_ n3_ n4_; (try clear hb); (try clear hb2); (try clear hk); (try clear hi)))
                      go_meet
                      case rel => exact ⟨_, (true), (by first | rfl | (simp; done) | (simp [*]; done)), H', ⟨by have := HJ9.out; first | omega | exact Nat.le_refl _⟩, ⟨by exact Ho.RS <| Kd.R_mono HO_8.out (fun _ hk => hk.2.1)⟩, ⟨by exact Ho.RS <| Kd.R_mono HO_12.out (fun _ hk => hk.1)⟩, ⟨by exact eS HB.out⟩⟩
                · replace c41 := Bool.eq_false_iff.mpr c41
                  subst c41
                  have H1 : (laws_FnExactShearCarpet.j1 kj9 l0 a1 a2 t105 t106 t107 t113 true) = some r := by rw [if_neg (show ¬ (false = true) by decide)] at H; exact H
                  clear H
                  have H := H1
                  clear H1
                  as_aux_lemma =>
                    have H' := Aside0.mk H
                    clear H
                    obtain ⟨Ao49, co49, eo49⟩ := Kd.R_slice HO_12.out
                    subst eo49
                    obtain ⟨Ao50, co50, eo50⟩ := Kd.R_slice HO_8.out
                    subst eo50
                    go_wp2_with (first | (go_at_call 28; (with_reducible refine (laws_eqWetCarpetS.calls kj9 _ _ t113 _ _ t105 false _ ?side1 ?side2 ?side3 ?side4 A40.out).mono ?_); (case side1 => repeat (first | exact (Kd.R_reads' HO_12.out).2.2 | (with_reducible refine Kd.C_alloc ?_ _) | (with_reducible refine Kd.C_drewN ?_ _) | (with_reducible refine Kd.C_drew ?_))); (case side2 => exact (Kd.R_reads' HO_12.out).2.1); (case side3 => repeat (first | exact (Kd.R_reads' HO_8.out).2.2 | (with_reducible refine Kd.C_alloc ?_ _) | (with_reducible refine Kd.C_drewN ?_ _) | (with_reducible refine Kd.C_drew ?_))); (case side4 => exact (Kd.R_reads' HO_8.out).2.1); rintro e w51 ⟨rfl, hb⟩; have n0_ := Aside0.mk (Kd.R_below (by exact Ho.RS <| HO_8.out) hb); have n1_ := Aside0.mk (Kd.R_below (by exact Ho.RS <| HO_11.out) hb); have n2_ := Aside0.mk (Kd.R_below (by exact Ho.RS <| HO_12.out) hb); have n3_ := Aside0.mk (Kd.R_below (by exact Ho.RS <| HO121.out) hb); have n4_ := Aside0.mk (below_step (by exact eS HB.out) hb); clear HO_8; clear HO_11; clear HO_12; clear HO121; clear HB; have HO_8 := n0_; have HO_11 := n1_; have HO_12 := n2_; have HO121 := n3_; have HB := n4_; clear n0_ n1_ n2_ n3_ n4_; (try clear hb); (try clear hb2); (try clear hk); (try clear hi)))
                    go_meet
                    case rel => exact ⟨_, (true), (by first | rfl | (simp; done) | (simp [*]; done)), H', ⟨by have := HJ9.out; first | omega | exact Nat.le_refl _⟩, ⟨by exact Ho.RS <| Kd.R_mono HO_8.out (fun _ hk => hk.2.1)⟩, ⟨by exact Ho.RS <| Kd.R_mono HO_12.out (fun _ hk => hk.1)⟩, ⟨by exact eS HB.out⟩⟩
            case rest =>
              clear HC34
              try clear c1
              try clear c2
              try clear p2
              try clear c3
              try clear c4
              try clear c5
              try clear c5b0
              try clear c11
              try clear c18
              try clear c19
              try clear c19b0
              try clear c19b1
              try clear c24
              try clear c26
              try clear c28
              try clear c29
              try clear c32
              try clear c33
              try clear c37
              try clear c38
              try clear c39
              try clear c39b0
              try clear c41
              try clear c42
              try clear c42b0
              try clear c42b1
              try clear p2
              obtain ⟨kq, x84_33, rfl, HA, HJ33, HO_8, HO_12, HB⟩ := hcut
              cases kq with
              | zero => exact absurd HA.out (by simp [laws_FnExactShearCarpet.j1])
              | succ kj33 =>
                have H := HA.out
                clear HA
                simp only [laws_FnExactShearCarpet.j1] at H
                by_cases c52 : x84_33 = true
                · subst c52
                  have H1 : (some false) = some r := by rw [if_pos rfl] at H; exact H
                  clear H
                  have H := H1
                  clear H1
                  as_aux_lemma =>
                    exact absurd ((Option.some.inj H).trans HT.out) (by decide)
                · replace c52 := Bool.eq_false_iff.mpr c52
                  subst c52
                  have H1 : ((laws_markWetCarpetS.f kj33 t113 1).bind fun bt126 => ((laws_heldWetCarpetS.f kj33 bt126.2 1).bind fun t128 => (if t128 < 0 then (some false) else (if t128 = bt126.1 then ((laws_toWetCarpetS.f kj33 l0).bind fun t129 => ((impl_ShearCarpet.f kj33 t129 a1 a2).bind fun bt132 => ((laws_eqWetCarpetS.f kj33 bt132.1 t105).bind fun t137 => (if t137 = true then (if bt132.2.1 = t106 then (laws_FnExactShearCarpet.j2 kj33 bt126.2 bt126.1 (bt132.2.2 != t107)) else (laws_FnExactShearCarpet.j2 kj33 bt126.2 bt126.1 true)) else (laws_FnExactShearCarpet.j2 kj33 bt126.2 bt126.1 true))))) else (some false))))) = some r := by rw [if_neg (show ¬ (false = true) by decide)] at H; exact H
                  clear H
                  have H := H1
                  clear H1
                  replace H := Option.bind_eq_some_iff.mp H
                  obtain ⟨⟨t126, t127⟩, A530, H⟩ := H
                  replace H : ((laws_heldWetCarpetS.f kj33 t127 1).bind fun t128 => (if t128 < 0 then (some false) else (if t128 = t126 then ((laws_toWetCarpetS.f kj33 l0).bind fun t129 => ((impl_ShearCarpet.f kj33 t129 a1 a2).bind fun bt132 => ((laws_eqWetCarpetS.f kj33 bt132.1 t105).bind fun t137 => (if t137 = true then (if bt132.2.1 = t106 then (laws_FnExactShearCarpet.j2 kj33 t127 t126 (bt132.2.2 != t107)) else (laws_FnExactShearCarpet.j2 kj33 t127 t126 true)) else (laws_FnExactShearCarpet.j2 kj33 t127 t126 true))))) else (some false)))) = some r := H
                  have A53 := Aside0.mk A530
                  clear A530
                  replace H := Option.bind_eq_some_iff.mp H
                  obtain ⟨t128, A540, H⟩ := H
                  replace H : (if t128 < 0 then (some false) else (if t128 = t126 then ((laws_toWetCarpetS.f kj33 l0).bind fun t129 => ((impl_ShearCarpet.f kj33 t129 a1 a2).bind fun bt132 => ((laws_eqWetCarpetS.f kj33 bt132.1 t105).bind fun t137 => (if t137 = true then (if bt132.2.1 = t106 then (laws_FnExactShearCarpet.j2 kj33 t127 t126 (bt132.2.2 != t107)) else (laws_FnExactShearCarpet.j2 kj33 t127 t126 true)) else (laws_FnExactShearCarpet.j2 kj33 t127 t126 true))))) else (some false))) = some r := H
                  have A54 := Aside0.mk A540
                  clear A540
                  by_cases c55 : t128 < 0
                  · rw [if_pos c55] at H
                    have c55b0 : decide (t128 < 0) = true := decide_eq_true c55
                    clear c55
                    as_aux_lemma =>
                      exact absurd ((Option.some.inj H).trans HT.out) (by decide)
                  · rw [if_neg c55] at H
                    have c55b0 : decide (t128 < 0) = false := decide_eq_false c55
                    clear c55
                    by_cases c56 : t128 = t126
                    · rw [if_pos c56] at H
                      have c56b0 : (t128 == t126) = true := beq_iff_eq.mpr c56
                      have c56b1 : (t128 != t126) = false := bne_eq_false_iff_eq.mpr c56
                      clear c56
                      replace H := Option.bind_eq_some_iff.mp H
                      obtain ⟨t129, A570, H⟩ := H
                      replace H : ((impl_ShearCarpet.f kj33 t129 a1 a2).bind fun bt132 => ((laws_eqWetCarpetS.f kj33 bt132.1 t105).bind fun t137 => (if t137 = true then (if bt132.2.1 = t106 then (laws_FnExactShearCarpet.j2 kj33 t127 t126 (bt132.2.2 != t107)) else (laws_FnExactShearCarpet.j2 kj33 t127 t126 true)) else (laws_FnExactShearCarpet.j2 kj33 t127 t126 true)))) = some r := H
                      have A57 := Aside0.mk A570
                      clear A570
                      replace H := Option.bind_eq_some_iff.mp H
                      obtain ⟨⟨t132, t133, t134⟩, A580, H⟩ := H
                      replace H : ((laws_eqWetCarpetS.f kj33 t132 t105).bind fun t137 => (if t137 = true then (if t133 = t106 then (laws_FnExactShearCarpet.j2 kj33 t127 t126 (t134 != t107)) else (laws_FnExactShearCarpet.j2 kj33 t127 t126 true)) else (laws_FnExactShearCarpet.j2 kj33 t127 t126 true))) = some r := H
                      have A58 := Aside0.mk A580
                      clear A580
                      have HC59 := Aside0.mk H
                      clear H
                      obtain ⟨Ao60, co60, eo60⟩ := Kd.R_slice HO_12.out
                      subst eo60
                      go_upto_region 25 with (first | ((with_reducible refine gate_callee (f := 33) rfl ?_); refine goesL_ (some 87) rfl rfl Try.func33 (by kernel_rfl) rfl #[.slice Ao60 t113.length co60, .int .i64 1] rfl (by (try simp only [List.map_toArray, List.map_cons, List.map_nil]); first | done | rfl | (simp only [List.length_drop, List.length_take]; rfl)) ?_; (with_reducible refine (laws_markWetCarpetS.calls kj33 (fun k_ => some k_ = (.slice Ao60 t113.length co60 : Value).ownBlock) (.slice Ao60 t113.length co60) t113 1 t126 t127 w _ ?side1 ?side2 A53.out).mono ?_); (case side1 => exact eS HB.out); (case side2 => exact Kd.R_tight rfl HO_12.out); rintro e w61 ⟨rfl, hy0, hb, hkp⟩; refine ⟨_, rfl, ?_⟩; have n0_ := Aside0.mk (Kd.R_mono (ok' := fun k_ => some k_ ≠ (.slice Ao60 t113.length co60 : Value).ownBlock) (Kd.R_keptB (HO_8.out) hkp (fun k_ hk_ hs_ => (hk_) hs_)) (fun k_ hk_ => hk_.1)); have n1_ := Aside0.mk (Kd.R_reok rfl hy0 (fun k_ e_ => HO_12.out.1 k_ e_)); have n2_ := Aside0.mk (hb); clear HO_8; clear HO_12; clear HB; have HO_8 := n0_; have HO_12 := n1_; have HB := n2_; clear n0_ n1_ n2_; (try clear hb); (try clear hkp); (try clear hy0)) | ((with_reducible refine gate_callee (f := 34) rfl ?_); refine goesL_ (some 90) rfl rfl Try.func34 (by kernel_rfl) rfl #[.slice Ao60 t127.length co60, .int .i64 1] rfl (by (try simp only [List.map_toArray, List.map_cons, List.map_nil]); first | done | (rw [show t127.length = t113.length from (Kd.R_reads' HO_12.out).1.symm] <;> rfl) | rfl | (simp only [List.length_drop, List.length_take]; rfl)) ?_; (with_reducible refine (laws_heldWetCarpetS.calls kj33 _ _ t127 1 t128 _ ?side1 ?side2 A54.out).mono ?_); (case side1 => repeat (first | exact (Kd.R_reads' HO_12.out).2.2 | (with_reducible refine Kd.C_alloc ?_ _) | (with_reducible refine Kd.C_drewN ?_ _) | (with_reducible refine Kd.C_drew ?_))); (case side2 => rw [show t127.length = t113.length from (Kd.R_reads' HO_12.out).1.symm]; exact (Kd.R_reads' HO_12.out).2.1); rintro e w' ⟨rfl, ⟨nd, rfl⟩⟩; refine ⟨_, rfl, ?_⟩) | ((with_reducible refine gate_callee (f := 26) rfl ?_); refine goesL_ (some 98) rfl rfl Try.func26 (by kernel_rfl) rfl #[.slice A0 l0.length c0] rfl (by (try simp only [List.map_toArray, List.map_cons, List.map_nil]); first | done | rfl | (simp only [List.length_drop, List.length_take]; rfl)) ?_; (with_reducible refine (laws_toWetCarpetS.calls kj33 _ _ l0 t129 _ ?side1 ?side2 A57.out).mono ?_); (case side1 => repeat (first | exact (Kd.C_below HR0.out (by exact eS HB.out)) | (with_reducible refine Kd.C_alloc ?_ _) | (with_reducible refine Kd.C_drewN ?_ _) | (with_reducible refine Kd.C_drew ?_))); (case side2 => exact HC0.out); rintro e w62 ⟨v130, rfl, ho0, hb⟩; refine ⟨_, rfl, ?_⟩; have n0_ := Aside0.mk (Kd.R_elder' (by exact Ho.RS <| HO_8.out) (Kd.R_base ho0) hb); have n1_ := Aside0.mk (Kd.R_elder' (by exact Ho.RS <| HO_12.out) (Kd.R_base ho0) hb); have n2_ := Aside0.mk (Kd.R_lower (Kd.R_new' (Kd.R_new' ho0 (Kd.R_lt (by exact Ho.RS <| HO_8.out))) (Kd.R_lt (by exact Ho.RS <| HO_12.out))) (below_size (by exact eS HB.out))); have n3_ := Aside0.mk (below_step (by exact eS HB.out) hb); clear HO_8; clear HO_12; clear HB; have HO_8 := n0_; have HO_12 := n1_; have HO131 := n2_; have HB := n3_; clear n0_ n1_ n2_ n3_; (try clear hb); (try clear hb2); (try clear hk); (try clear hi); (try clear ho0); obtain ⟨Ao63, co63, eo63⟩ := Kd.R_slice HO131.out; subst eo63) | ((with_reducible refine gate_callee (f := 38) rfl ?_); refine goesL_ (some 101) rfl rfl Try.func38 (by kernel_rfl) rfl #[.slice Ao63 t129.length co63, .int .i64 a1, .int .i64 a2] rfl (by (try simp only [List.map_toArray, List.map_cons, List.map_nil]); first | done | rfl | (simp only [List.length_drop, List.length_take]; rfl)) ?_; (with_reducible refine (impl_ShearCarpet.calls kj33 _ _ t129 a1 a2 t132 t133 t134 _ ?side1 ?side2 A58.out).mono ?_); (case side1 => repeat (first | exact (Kd.R_reads' HO131.out).2.2 | (with_reducible refine Kd.C_alloc ?_ _) | (with_reducible refine Kd.C_drewN ?_ _) | (with_reducible refine Kd.C_drew ?_))); (case side2 => exact (Kd.R_reads' HO131.out).2.1); rintro e w64 ⟨v135, rfl, ho0, hb⟩; refine ⟨_, rfl, ?_⟩; have n0_ := Aside0.mk (Kd.R_elder' (by exact Ho.RS <| HO_8.out) (Kd.R_base ho0) hb); have n1_ := Aside0.mk (Kd.R_elder' (by exact Ho.RS <| HO_12.out) (Kd.R_base ho0) hb); have n2_ := Aside0.mk (Kd.R_elder' (by exact Ho.RS <| HO131.out) (Kd.R_base ho0) hb); have n3_ := Aside0.mk (Kd.R_lower (Kd.R_new' (Kd.R_new' (Kd.R_new' ho0 (Kd.R_lt (by exact Ho.RS <| HO_8.out))) (Kd.R_lt (by exact Ho.RS <| HO_12.out))) (Kd.R_lt (by exact Ho.RS <| HO131.out))) (below_size (by exact eS HB.out))); have n4_ := Aside0.mk (below_step (by exact eS HB.out) hb); clear HO_8; clear HO_12; clear HO131; clear HB; have HO_8 := n0_; have HO_12 := n1_; have HO131 := n2_; have HO136 := n3_; have HB := n4_; clear n0_ n1_ n2_ n3_ n4_; (try clear hb); (try clear hb2); (try clear hk); (try clear hi); (try clear ho0)))
                      (try simp only [Act.put, List.setIfInBounds_toArray, List.set_cons_zero, List.set_cons_succ])
                      go_cut [118] (fun v118 wc => ∃ (kq : Nat) (x118_58 : Bool), v118 = .bool x118_58 ∧ Aside0 (laws_FnExactShearCarpet.j2 kq t127 t126 x118_58 = some r) ∧ Aside0 (kq ≤ kj33) ∧ Aside0 (Kd.R k25 25 wc w.heap.size (fun _ => True) (.slice Ao60 t113.length co60) t127) ∧ Aside0 (Below w.heap.size w wc))
                      case first =>
                        have H := HC59.out
                        clear HC59
                        replace H := Option.bind_eq_some_iff.mp H
                        obtain ⟨t137, A650, H⟩ := H
                        replace H : (if t137 = true then (if t133 = t106 then (laws_FnExactShearCarpet.j2 kj33 t127 t126 (t134 != t107)) else (laws_FnExactShearCarpet.j2 kj33 t127 t126 true)) else (laws_FnExactShearCarpet.j2 kj33 t127 t126 true)) = some r := H
                        have A65 := Aside0.mk A650
                        clear A650
                        by_cases c66 : t137 = true
                        · subst c66
                          have H1 : (if t133 = t106 then (laws_FnExactShearCarpet.j2 kj33 t127 t126 (t134 != t107)) else (laws_FnExactShearCarpet.j2 kj33 t127 t126 true)) = some r := by rw [if_pos rfl] at H; exact H
                          clear H
                          have H := H1
                          clear H1
                          by_cases c67 : t133 = t106
                          · rw [if_pos c67] at H
                            have c67b0 : (t133 == t106) = true := beq_iff_eq.mpr c67
                            have c67b1 : (t133 != t106) = false := bne_eq_false_iff_eq.mpr c67
                            clear c67
                            (first | rw [c67b0] | (simp only [i64_w, i32_w]; rw [c67b0]) | skip)
                            as_aux_lemma =>
                              have H' := Aside0.mk H
                              clear H
                              obtain ⟨Ao68, co68, eo68⟩ := Kd.R_slice HO136.out
                              subst eo68
                              obtain ⟨Ao69, co69, eo69⟩ := Kd.R_slice HO_8.out
                              subst eo69
                              go_wp2_with (first | ((with_reducible refine gate_callee (f := 28) rfl ?_); refine goesL_ (some 107) rfl rfl Try.func28 (by kernel_rfl) rfl #[.slice Ao68 t132.length co68, .slice Ao69 t105.length co69] rfl (by (try simp only [List.map_toArray, List.map_cons, List.map_nil]); first | done | rfl | (simp only [List.length_drop, List.length_take]; rfl)) ?_; (with_reducible refine (laws_eqWetCarpetS.calls kj33 _ _ t132 _ _ t105 true _ ?side1 ?side2 ?side3 ?side4 A65.out).mono ?_); (case side1 => repeat (first | exact (Kd.R_reads' HO136.out).2.2 | (with_reducible refine Kd.C_alloc ?_ _) | (with_reducible refine Kd.C_drewN ?_ _) | (with_reducible refine Kd.C_drew ?_))); (case side2 => exact (Kd.R_reads' HO136.out).2.1); (case side3 => repeat (first | exact (Kd.R_reads' HO_8.out).2.2 | (with_reducible refine Kd.C_alloc ?_ _) | (with_reducible refine Kd.C_drewN ?_ _) | (with_reducible refine Kd.C_drew ?_))); (case side4 => exact (Kd.R_reads' HO_8.out).2.1); rintro e w70 ⟨rfl, hb⟩; refine ⟨_, rfl, ?_⟩; have n0_ := Aside0.mk (Kd.R_below (by exact Ho.RS <| HO_8.out) hb); have n1_ := Aside0.mk (Kd.R_below (by exact Ho.RS <| HO_12.out) hb); have n2_ := Aside0.mk (Kd.R_below (by exact Ho.RS <| HO131.out) hb); have n3_ := Aside0.mk (Kd.R_below (by exact Ho.RS <| HO136.out) hb); have n4_ := Aside0.mk (below_step (by exact eS HB.out) hb); clear HO_8; clear HO_12; clear HO131; clear HO136; clear HB; have HO_8 := n0_; have HO_12 := n1_; have HO131 := n2_; have HO136 := n3_; have HB := n4_; clear n0_ n1_ n2_ n3_ n4_; (try clear hb); (try clear hb2); (try clear hk); (try clear hi)))
                              go_meet
                              case rel => exact ⟨_, ((t134 != t107)), (by first | rfl | (simp; done) | (simp [*]; done)), H', ⟨by have := HJ9.out; have := HJ33.out; first | omega | exact Nat.le_refl _⟩, ⟨by exact Ho.RS <| Kd.R_mono HO_12.out (fun _ hk => trivial)⟩, ⟨by exact eS HB.out⟩⟩
                          · rw [if_neg c67] at H
                            have c67b0 : (t133 == t106) = false := beq_eq_false_iff_ne.mpr c67
                            have c67b1 : (t133 != t106) = true := bne_iff_ne.mpr c67
                            (first | rw [c67b0] | (simp only [i64_w, i32_w]; rw [c67b0]) | skip)
                            as_aux_lemma =>
                              have H' := Aside0.mk H
                              clear H
                              obtain ⟨Ao71, co71, eo71⟩ := Kd.R_slice HO136.out
                              subst eo71
                              obtain ⟨Ao72, co72, eo72⟩ := Kd.R_slice HO_8.out
                              subst eo72
                              go_wp2_with (first | ((with_reducible refine gate_callee (f := 28) rfl ?_); refine goesL_ (some 107) rfl rfl Try.func28 (by kernel_rfl) rfl #[.slice Ao71 t132.length co71, .slice Ao72 t105.length co72] rfl (by (try simp only [List.map_toArray, List.map_cons, List.map_nil]); first | done | rfl | (simp only [List.length_drop, List.length_take]; rfl)) ?_; (with_reducible refine (laws_eqWetCarpetS.calls kj33 _ _ t132 _ _ t105 true _ ?side1 ?side2 ?side3 ?side4 A65.out).mono ?_); (case side1 => repeat (first | exact (Kd.R_reads' HO136.out).2.2 | (with_reducible refine Kd.C_alloc ?_ _) | (with_reducible refine Kd.C_drewN ?_ _) | (with_reducible refine Kd.C_drew ?_))); (case side2 => exact (Kd.R_reads' HO136.out).2.1); (case side3 => repeat (first | exact (Kd.R_reads' HO_8.out).2.2 | (with_reducible refine Kd.C_alloc ?_ _) | (with_reducible refine Kd.C_drewN ?_ _) | (with_reducible refine Kd.C_drew ?_))); (case side4 => exact (Kd.R_reads' HO_8.out).2.1); rintro e w73 ⟨rfl, hb⟩; refine ⟨_, rfl, ?_⟩; have n0_ := Aside0.mk (Kd.R_below (by exact Ho.RS <| HO_8.out) hb); have n1_ := Aside0.mk (Kd.R_below (by exact Ho.RS <| HO_12.out) hb); have n2_ := Aside0.mk (Kd.R_below (by exact Ho.RS <| HO131.out) hb); have n3_ := Aside0.mk (Kd.R_below (by exact Ho.RS <| HO136.out) hb); have n4_ := Aside0.mk (below_step (by exact eS HB.out) hb); clear HO_8; clear HO_12; clear HO131; clear HO136; clear HB; have HO_8 := n0_; have HO_12 := n1_; have HO131 := n2_; have HO136 := n3_; have HB := n4_; clear n0_ n1_ n2_ n3_ n4_; (try clear hb); (try clear hb2); (try clear hk); (try clear hi)))
                              go_meet
                              case rel => exact ⟨_, (true), (by first | rfl | (simp; done) | (simp [*]; done)), H', ⟨by have := HJ9.out; have := HJ33.out; first | omega | exact Nat.le_refl _⟩, ⟨by exact Ho.RS <| Kd.R_mono HO_12.out (fun _ hk => trivial)⟩, ⟨by exact eS HB.out⟩⟩
                        · replace c66 := Bool.eq_false_iff.mpr c66
                          subst c66
                          have H1 : (laws_FnExactShearCarpet.j2 kj33 t127 t126 true) = some r := by rw [if_neg (show ¬ (false = true) by decide)] at H; exact H
                          clear H
                          have H := H1
                          clear H1
                          as_aux_lemma =>
                            have H' := Aside0.mk H
                            clear H
                            obtain ⟨Ao74, co74, eo74⟩ := Kd.R_slice HO136.out
                            subst eo74
                            obtain ⟨Ao75, co75, eo75⟩ := Kd.R_slice HO_8.out
                            subst eo75
                            go_wp2_with (first | ((with_reducible refine gate_callee (f := 28) rfl ?_); refine goesL_ (some 107) rfl rfl Try.func28 (by kernel_rfl) rfl #[.slice Ao74 t132.length co74, .slice Ao75 t105.length co75] rfl (by (try simp only [List.map_toArray, List.map_cons, List.map_nil]); first | done | rfl | (simp only [List.length_drop, List.length_take]; rfl)) ?_; (with_reducible refine (laws_eqWetCarpetS.calls kj33 _ _ t132 _ _ t105 false _ ?side1 ?side2 ?side3 ?side4 A65.out).mono ?_); (case side1 => repeat (first | exact (Kd.R_reads' HO136.out).2.2 | (with_reducible refine Kd.C_alloc ?_ _) | (with_reducible refine Kd.C_drewN ?_ _) | (with_reducible refine Kd.C_drew ?_))); (case side2 => exact (Kd.R_reads' HO136.out).2.1); (case side3 => repeat (first | exact (Kd.R_reads' HO_8.out).2.2 | (with_reducible refine Kd.C_alloc ?_ _) | (with_reducible refine Kd.C_drewN ?_ _) | (with_reducible refine Kd.C_drew ?_))); (case side4 => exact (Kd.R_reads' HO_8.out).2.1); rintro e w76 ⟨rfl, hb⟩; refine ⟨_, rfl, ?_⟩; have n0_ := Aside0.mk (Kd.R_below (by exact Ho.RS <| HO_8.out) hb); have n1_ := Aside0.mk (Kd.R_below (by exact Ho.RS <| HO_12.out) hb); have n2_ := Aside0.mk (Kd.R_below (by exact Ho.RS <| HO131.out) hb); have n3_ := Aside0.mk (Kd.R_below (by exact Ho.RS <| HO136.out) hb); have n4_ := Aside0.mk (below_step (by exact eS HB.out) hb); clear HO_8; clear HO_12; clear HO131; clear HO136; clear HB; have HO_8 := n0_; have HO_12 := n1_; have HO131 := n2_; have HO136 := n3_; have HB := n4_; clear n0_ n1_ n2_ n3_ n4_; (try clear hb); (try clear hb2); (try clear hk); (try clear hi)))
                            go_meet
                            case rel => exact ⟨_, (true), (by first | rfl | (simp; done) | (simp [*]; done)), H', ⟨by have := HJ9.out; have := HJ33.out; first | omega | exact Nat.le_refl _⟩, ⟨by exact Ho.RS <| Kd.R_mono HO_12.out (fun _ hk => trivial)⟩, ⟨by exact eS HB.out⟩⟩
                      case rest =>
                        clear HC59
                        try clear c1
                        try clear c2
                        try clear p2
                        try clear c3
                        try clear c4
                        try clear c5
                        try clear c5b0
                        try clear c6
                        try clear c11
                        try clear c18
                        try clear c19
                        try clear c19b0
                        try clear c19b1
                        try clear c24
                        try clear c26
                        try clear c28
                        try clear c29
                        try clear c32
                        try clear c33
                        try clear c34
                        try clear c37
                        try clear c38
                        try clear c39
                        try clear c39b0
                        try clear c41
                        try clear c42
                        try clear c42b0
                        try clear c42b1
                        try clear c52
                        try clear c55
                        try clear c55b0
                        try clear c56
                        try clear c56b0
                        try clear c56b1
                        try clear c66
                        try clear c67
                        try clear c67b0
                        try clear c67b1
                        try clear p2
                        obtain ⟨kq, x118_58, rfl, HA, HJ58, HO_12, HB⟩ := hcut
                        have hl12_58 := (Kd.R_reads' HO_12.out).1
                        rw [hl12_58] at HO_12
                        (try simp only [hl12_58])
                        cases kq with
                        | zero => exact absurd HA.out (by simp [laws_FnExactShearCarpet.j2])
                        | succ kj58 =>
                          have H := HA.out
                          clear HA
                          simp only [laws_FnExactShearCarpet.j2] at H
                          by_cases c77 : x118_58 = true
                          · subst c77
                            have H1 : (some false) = some r := by rw [if_pos rfl] at H; exact H
                            clear H
                            have H := H1
                            clear H1
                            as_aux_lemma =>
                              exact absurd ((Option.some.inj H).trans HT.out) (by decide)
                          · replace c77 := Bool.eq_false_iff.mpr c77
                            subst c77
                            have H1 : ((laws_heldWetCarpetS.f kj58 t127 1).bind fun t138 => (if t138 < 0 then (some false) else (if t138 = t126 then (some true) else (some false)))) = some r := by rw [if_neg (show ¬ (false = true) by decide)] at H; exact H
                            clear H
                            have H := H1
                            clear H1
                            replace H := Option.bind_eq_some_iff.mp H
                            obtain ⟨t138, A780, H⟩ := H
                            replace H : (if t138 < 0 then (some false) else (if t138 = t126 then (some true) else (some false))) = some r := H
                            have A78 := Aside0.mk A780
                            clear A780
                            by_cases c79 : t138 < 0
                            · rw [if_pos c79] at H
                              have c79b0 : decide (t138 < 0) = true := decide_eq_true c79
                              clear c79
                              as_aux_lemma =>
                                exact absurd ((Option.some.inj H).trans HT.out) (by decide)
                            · rw [if_neg c79] at H
                              have c79b0 : decide (t138 < 0) = false := decide_eq_false c79
                              clear c79
                              by_cases c80 : t138 = t126
                              · rw [if_pos c80] at H
                                have c80b0 : (t138 == t126) = true := beq_iff_eq.mpr c80
                                have c80b1 : (t138 != t126) = false := bne_eq_false_iff_eq.mpr c80
                                clear c80
                                as_aux_lemma =>
                                  obtain rfl := Option.some.inj H
                                  go_wp2_with (first | ((with_reducible refine gate_callee (f := 34) rfl ?_); refine goesL_ (some 121) rfl rfl Try.func34 (by kernel_rfl) rfl #[.slice Ao60 t127.length co60, .int .i64 1] rfl (by (try simp only [List.map_toArray, List.map_cons, List.map_nil]); first | done | rfl | (simp only [List.length_drop, List.length_take]; rfl)) ?_; (with_reducible refine (laws_heldWetCarpetS.calls kj58 _ _ t127 1 t138 _ ?side1 ?side2 A78.out).mono ?_); (case side1 => repeat (first | exact (Kd.R_reads' HO_12.out).2.2 | (with_reducible refine Kd.C_alloc ?_ _) | (with_reducible refine Kd.C_drewN ?_ _) | (with_reducible refine Kd.C_drew ?_))); (case side2 => exact (Kd.R_reads' HO_12.out).2.1); rintro e w' ⟨rfl, ⟨nd, rfl⟩⟩; refine ⟨_, rfl, ?_⟩))
                                  go_ret
                                  exact ⟨by first | rfl | (simp [errW_none, errW_some] <;> rfl) | (simp [*, errW_none, errW_some] <;> rfl), by exact eS HB.out⟩
                              · rw [if_neg c80] at H
                                have c80b0 : (t138 == t126) = false := beq_eq_false_iff_ne.mpr c80
                                have c80b1 : (t138 != t126) = true := bne_iff_ne.mpr c80
                                as_aux_lemma =>
                                  exact absurd ((Option.some.inj H).trans HT.out) (by decide)
                    · rw [if_neg c56] at H
                      have c56b0 : (t128 == t126) = false := beq_eq_false_iff_ne.mpr c56
                      have c56b1 : (t128 != t126) = true := bne_iff_ne.mpr c56
                      as_aux_lemma =>
                        exact absurd ((Option.some.inj H).trans HT.out) (by decide)
          · replace c32 := Bool.eq_false_iff.mpr c32
            subst c32
            have H1 : (some false) = some r := by rw [if_neg (show ¬ (false = true) by decide)] at H; exact H
            clear H
            have H := H1
            clear H1
            as_aux_lemma =>
              exact absurd ((Option.some.inj H).trans HT.out) (by decide)

/-- THE ONE PURE STATEMENT of laws_FnExactShearCarpet: yours. -/
def laws_FnExactShearCarpet.Pure : Prop := ∀ (l0 : List (S23)) (a1 : Int) (a2 : Int), (l0.length ≤ 9223372036854775807 ∧ ∀ y_ ∈ l0, ok23 y_) → (Lit.int .i64 a1).wf = true → (Lit.int .i64 a2).wf = true → ∃ k, laws_FnExactShearCarpet.f k l0 a1 a2 = some true

end Go.Proofs.Ytdennkmfjkgfhaa.X

-- Qbase
namespace Go.Proofs.Ytdennkmfjkgfhaa.Pure
open Go Go.RowKit Go.Proofs Go.Proofs.YtdennkmfjkgfhaaW.PrintWords Go.Proofs.YtdennkmfjkgfhaaW.PrintLast
set_option linter.unusedVariables false
set_option linter.unusedSimpArgs false

theorem w64 {x : Int} (h1 : -9223372036854775808 ≤ x) (h2 : x ≤ 9223372036854775807) : wrap64 x = x := by unfold wrap64; omega
theorem w64b {x : Int} (h : -9223372036854775808 ≤ x ∧ x ≤ 9223372036854775807) : wrap64 x = x := w64 h.1 h.2
theorem ite_sf (a b : Bool) : (if a = true then some b else some false) = some (a && b) := by cases a <;> rfl
theorem ite_sf2 (a b : Bool) : (if a = true then some false else some b) = some (!a && b) := by cases a <;> rfl
theorem wf_bd {x : Int} (h : (Lit.int .i64 x).wf = true) : -9223372036854775808 ≤ x ∧ x ≤ 9223372036854775807 := by
  have h1 := h
  simp [Lit.wf] at h1
  exact ⟨h1.1, h1.2⟩
/-- a product of two numbers within bounds -/
theorem mul_bd {a b A B : Int} (ha : 0 ≤ a) (hA : a ≤ A) (hb : 0 ≤ b) (hB : b ≤ B) : 0 ≤ a * b ∧ a * b ≤ A * B :=
  ⟨Int.mul_nonneg ha hb, Int.mul_le_mul hA hB hb (Int.le_trans ha hA)⟩
theorem drop_step {α : Type} {l : List α} {i : Nat} (h : i < l.length) (d : α) : l.drop i = l.getD i d :: l.drop (i + 1) := by
  rw [List.drop_eq_getElem_cons h]; congr 1; simp [List.getD_eq_getElem?_getD, List.getElem?_eq_getElem h]
theorem wstep {i : Nat} {n : Nat} (h : i < n) (hn : n ≤ 9223372036854775807) : wrap64 ((i : Int) + 1) = ((i + 1 : Nat) : Int) := by unfold wrap64; omega
theorem nat_of {i : Int} (h : 0 ≤ i) : ∃ n : Nat, i = n := ⟨i.toNat, by omega⟩
theorem succ_of {k d : Nat} (h : d < k) : ∃ m, k = m + 1 ∧ d ≤ m := ⟨k - 1, by omega, by omega⟩

end Go.Proofs.Ytdennkmfjkgfhaa.Pure

-- Qloops
namespace Go.Proofs.Ytdennkmfjkgfhaa.Pure
open Go Go.RowKit Go.Proofs Go.Proofs.YtdennkmfjkgfhaaW.PrintWords Go.Proofs.YtdennkmfjkgfhaaW.PrintLast
set_option linter.unusedVariables false
set_option linter.unusedSimpArgs false

/-- A loop that copies element by element into a new row. -/
theorem copy_loop {α β : Type} (L : Nat → List α → List β → Int → Option (List β)) (f : α → β) (d : α) (l : List α) (hb : l.length ≤ 9223372036854775806)
    (hs : ∀ k x3 (i : Nat), i < l.length → x3.length = l.length → L (k + 1) l x3 i = L k l (x3.set i (f (l.getD i d))) (wrap64 ((i : Int) + 1)))
    (he : ∀ k x3 (i : Nat), l.length ≤ i → L (k + 1) l x3 i = some x3) :
    ∀ n k (i : Nat) (x3 : List β), i + n = l.length → n < k → x3.length = l.length → x3.take i = (l.take i).map f → L k l x3 i = some (l.map f) := by
  intro n
  induction n with
  | zero =>
    intro k i x3 hi hk hl ht
    obtain ⟨k, rfl, _⟩ := succ_of hk
    rw [he k x3 i (by omega)]
    rw [List.take_of_length_le (by omega), List.take_of_length_le (by omega)] at ht
    rw [ht]
  | succ n ih =>
    intro k i x3 hi hk hl ht
    obtain ⟨k, rfl, hk⟩ := succ_of hk
    rw [hs k x3 i (by omega) hl, wstep (show i < l.length by omega) (by omega)]
    refine ih k (i + 1) _ (by omega) (by omega) (by rw [List.length_set]; exact hl) ?_
    rw [List.take_succ_eq_append_getElem (by rw [List.length_set]; omega), List.take_succ_eq_append_getElem (by omega), List.map_append, ← ht]
    congr 1
    · rw [List.take_set_of_le (Nat.le_refl _)]
    · simp [List.getD_eq_getElem?_getD, List.getElem?_eq_getElem (show i < l.length by omega)]
/-- A loop that compares a row with itself. -/
theorem refl_loop {α : Type} (L : Nat → List α → List α → Int → Option Bool) (l : List α) (hb : l.length ≤ 9223372036854775806)
    (hs : ∀ k (i : Nat), i < l.length → L (k + 1) l l i = L k l l (wrap64 ((i : Int) + 1))) (he : ∀ k (i : Nat), l.length ≤ i → L (k + 1) l l i = some true) :
    ∀ n k (i : Nat), i + n = l.length → n < k → L k l l i = some true := by
  intro n
  induction n with
  | zero =>
    intro k i hi hk
    obtain ⟨k, rfl, _⟩ := succ_of hk
    exact he k i (by omega)
  | succ n ih =>
    intro k i hi hk
    obtain ⟨k, rfl, hk⟩ := succ_of hk
    rw [hs k i (by omega), wstep (show i < l.length by omega) (by omega)]
    exact ih k (i + 1) (by omega) (by omega)
/-- A loop that asks of all elements, from i on. -/
theorem all_loop {α : Type} (L : Nat → Int → Option Bool) (q : α → Bool) (d : α) (l : List α) (e : Bool) (hb : l.length ≤ 9223372036854775806)
    (hs : ∀ k (i : Nat), i < l.length → L (k + 1) i = if q (l.getD i d) = true then L k (wrap64 ((i : Int) + 1)) else some false) (he : ∀ k (i : Nat), l.length ≤ i → L (k + 1) i = some e) :
    ∀ n k (i : Nat), i + n = l.length → n < k → L k i = some ((l.drop i).all q && e) := by
  intro n
  induction n with
  | zero =>
    intro k i hi hk
    obtain ⟨k, rfl, _⟩ := succ_of hk
    rw [he k i (by omega), List.drop_eq_nil_of_le (by omega)]; rfl
  | succ n ih =>
    intro k i hi hk
    obtain ⟨k, rfl, hk⟩ := succ_of hk
    rw [hs k i (by omega), wstep (show i < l.length by omega) (by omega), drop_step (by omega) d, List.all_cons, ih k (i + 1) (by omega) (by omega)]
    cases q (l.getD i d) <;> simp
/-- What marks leave: each element tells its own number. -/
def markM {α : Type} (g : Int → α) (c : Int) (n : Nat) (s : Int) : List α := (List.range n).map fun (j : Nat) => g (s + c * (j : Int))
theorem markM_length {α : Type} (g : Int → α) (c : Int) (n : Nat) (s : Int) : (markM g c n s).length = n := by simp [markM]
theorem markM_getD {α : Type} (g : Int → α) (c : Int) (n : Nat) (s : Int) (d : α) {i : Nat} (h : i < n) : (markM g c n s).getD i d = g (s + c * i) := by
  simp [markM, List.getD_eq_getElem?_getD, List.getElem?_map, List.getElem?_range h]
/-- A loop that marks. -/
theorem mark_loop {α : Type} (L : Nat → List α → Int → Int → Option (Int × List α)) (g : Int → α) (c : Int) (n0 : Nat) (s : Int) (hb : n0 ≤ 9223372036854775806) 
    (hs : ∀ k x (i : Nat), i < n0 → x.length = n0 → L (k + 1) x (s + c * i) i = L k (x.set i (g (s + c * i))) (s + c * ((i + 1 : Nat) : Int)) (wrap64 ((i : Int) + 1)))
    (he : ∀ k x m (i : Nat), n0 ≤ i → x.length = n0 → L (k + 1) x m i = some (m, x)) :
    ∀ n k (i : Nat) (x : List α), i + n = n0 → n < k → x.length = n0 → x.take i = (markM g c n0 s).take i → L k x (s + c * i) i = some (s + c * n0, markM g c n0 s) := by
  intro n
  induction n with
  | zero =>
    intro k i x hi hk hl ht
    obtain ⟨k, rfl, _⟩ := succ_of hk
    rw [he k x _ i (by omega) hl]
    rw [List.take_of_length_le (by omega), List.take_of_length_le (by rw [markM_length]; omega)] at ht
    rw [ht]; simp [show i = n0 by omega]
  | succ n ih =>
    intro k i x hi hk hl ht
    obtain ⟨k, rfl, hk⟩ := succ_of hk
    rw [hs k x i (by omega) hl, wstep (show i < n0 by omega) (by omega)]
    refine ih k (i + 1) _ (by omega) (by omega) (by rw [List.length_set]; exact hl) ?_
    rw [List.take_succ_eq_append_getElem (by rw [List.length_set]; omega), List.take_succ_eq_append_getElem (by rw [markM_length]; omega), ← ht]
    congr 1
    · rw [List.take_set_of_le (Nat.le_refl _)]
    · simp [markM]
/-- A loop that asks for the marks. -/
theorem held_loop {α : Type} (L : Nat → List α → Int → Int → Option Int) (g : Int → α) (c : Int) (n0 : Nat) (s : Int) (hb : n0 ≤ 9223372036854775806)
    (hs : ∀ k (i : Nat), i < n0 → L (k + 1) (markM g c n0 s) (s + c * i) i = L k (markM g c n0 s) (s + c * ((i + 1 : Nat) : Int)) (wrap64 ((i : Int) + 1)))
    (he : ∀ k m (i : Nat), n0 ≤ i → L (k + 1) (markM g c n0 s) m i = some m) :
    ∀ n k (i : Nat), i + n = n0 → n < k → L k (markM g c n0 s) (s + c * i) i = some (s + c * n0) := by
  intro n
  induction n with
  | zero =>
    intro k i hi hk
    obtain ⟨k, rfl, _⟩ := succ_of hk
    rw [he k _ i (by omega), show i = n0 by omega]
  | succ n ih =>
    intro k i hi hk
    obtain ⟨k, rfl, hk⟩ := succ_of hk
    rw [hs k i (by omega), wstep (show i < n0 by omega) (by omega)]
    exact ih k (i + 1) (by omega) (by omega)
theorem rd_nat (l : List Int) (i : Nat) : rd l (i : Int) = l.getD i 0 := by simp [rd]

end Go.Proofs.Ytdennkmfjkgfhaa.Pure

-- Qwetlist
namespace Go.Proofs.Ytdennkmfjkgfhaa.Pure
open Go Go.RowKit Go.Proofs Go.Proofs.Ytdennkmfjkgfhaa.X Go.Proofs.YtdennkmfjkgfhaaW.PrintWords Go.Proofs.YtdennkmfjkgfhaaW.PrintLast
set_option linter.unusedVariables false
set_option linter.unusedSimpArgs false

def toW (x : S23) : S25 := ⟨x.f0, x.f1, x.f2, x.f3, x.f4⟩
theorem rdVW_nat (l : List S23) (i : Nat) : rd_T23 l (i : Int) = l.getD i z23 := by simp [rd_T23]
theorem rdIW_nat (l : List S25) (i : Nat) : rd_T25 l (i : Int) = l.getD i z25 := by simp [rd_T25]
theorem szWetS_eq {l : List S23} {a : Int} (hl : l.length ≤ 9223372036854775807) (ha : 0 ≤ a ∧ a ≤ 9223372036854775807) : laws_szWetCarpetS.f l a = some (if a < l.length then -1 else a - l.length) := by
  unfold laws_szWetCarpetS.f
  rw [w64 (by omega) (by omega)]
  by_cases h : a < l.length
  · rw [if_pos (by omega), if_pos h]
  · rw [if_neg (by omega), if_neg h]
theorem toWetS_eq {k : Nat} {l : List S23} (hk : l.length < k) (hl : l.length ≤ 1048576) : laws_toWetCarpetS.f k l = some (l.map toW) := by
  unfold laws_toWetCarpetS.f
  rw [if_pos (by omega), if_pos (by simp; omega)]
  exact copy_loop laws_toWetCarpetS.l0 toW z23 l (by omega)
    (fun k x3 i h1 h2 => by
      simp only [laws_toWetCarpetS.l0, laws_toWetCarpet.f, Option.bind_some]
      rw [if_pos (by omega), if_pos (by omega), if_pos (by omega), rdVW_nat]
      simp [toW])
    (fun k x3 i h1 => by simp only [laws_toWetCarpetS.l0]; rw [if_neg (by omega)])
    l.length k 0 _ (by omega) hk (by simp) (by simp)
theorem eqWet_refl (a b c d e : Int) : laws_eqWetCarpet.f a b c d e a b c d e = some true := by simp [laws_eqWetCarpet.f]
theorem eqWetS_refl {k : Nat} {l : List S25} (hk : l.length < k) (hl : l.length ≤ 9223372036854775806) : laws_eqWetCarpetS.f k l l = some true := by
  unfold laws_eqWetCarpetS.f
  rw [if_pos rfl]
  exact refl_loop laws_eqWetCarpetS.l0 l hl
    (fun k i h => by simp only [laws_eqWetCarpetS.l0, eqWet_refl, Option.bind_some]; rw [if_pos (by omega), if_pos (by omega), if_pos (by omega)]; simp)
    (fun k i h => by simp only [laws_eqWetCarpetS.l0]; rw [if_neg (by omega)])
    l.length k 0 (by omega) hk
/-- the marks of a carpet -/
def markW (s : Int) : S25 := ⟨s, s + 1, s + 2, s + 3, s + 4⟩
theorem markWS_eq {k : Nat} {l : List S25} (hk : l.length < k) (hl : l.length ≤ 1048576) : laws_markWetCarpetS.f k l 1 = some (1 + 5 * (l.length : Int), markM markW 5 l.length 1) := by
  unfold laws_markWetCarpetS.f
  have h := mark_loop laws_markWetCarpetS.l0 markW 5 l.length 1 (by omega)
    (fun k x i h1 h2 => by
      have hg : ∀ (y : List S25) (v : S25), y.length = l.length → (y.set i v).getD i z25 = v := by
        intro y v hy
        rw [List.getD_eq_getElem?_getD, List.getElem?_set_self (by omega)]; rfl
      simp only [laws_markWetCarpetS.l0, Option.bind_some, rdIW_nat, Int.toNat_natCast]
      rw [if_pos (by omega), if_pos (by omega)]
      simp only [hg, List.length_set, h2, List.set_set]
      rw [w64 (x := 1 + 5 * (i : Int) + 1) (by omega) (by omega), w64 (x := 1 + 5 * (i : Int) + 1 + 1) (by omega) (by omega), w64 (x := 1 + 5 * (i : Int) + 1 + 1 + 1) (by omega) (by omega), w64 (x := 1 + 5 * (i : Int) + 1 + 1 + 1 + 1) (by omega) (by omega), w64 (x := 1 + 5 * (i : Int) + 1 + 1 + 1 + 1 + 1) (by omega) (by omega)]
      have e1 : markW (1 + 5 * (i : Int)) = ⟨1 + 5 * (i : Int), 1 + 5 * (i : Int) + 1, 1 + 5 * (i : Int) + 1 + 1, 1 + 5 * (i : Int) + 1 + 1 + 1, 1 + 5 * (i : Int) + 1 + 1 + 1 + 1⟩ := by
        unfold markW; congr 1 <;> omega
      have e2 : 1 + 5 * ((i + 1 : Nat) : Int) = 1 + 5 * (i : Int) + 1 + 1 + 1 + 1 + 1 := by push_cast; omega
      rw [e1, e2])
    (fun k x m i h1 h2 => by simp only [laws_markWetCarpetS.l0]; rw [if_neg (by omega)])
    l.length k 0 l (by omega) hk rfl (by simp)
  simpa using h
theorem heldWS_eq {k n : Nat} (hk : n < k) (hl : n ≤ 1048576) : laws_heldWetCarpetS.f k (markM markW 5 n 1) 1 = some (1 + 5 * (n : Int)) := by
  unfold laws_heldWetCarpetS.f
  have h := held_loop laws_heldWetCarpetS.l0 markW 5 n 1 (by omega)
    (fun k i h1 => by
      simp only [laws_heldWetCarpetS.l0, markM_length, rdIW_nat, markM_getD _ _ _ _ _ h1, markW]
      rw [if_pos (by omega), if_pos (by omega)]
      rw [w64 (x := 1 + 5 * (i : Int) + 1) (by omega) (by omega), w64 (x := 1 + 5 * (i : Int) + 1 + 1) (by omega) (by omega), w64 (x := 1 + 5 * (i : Int) + 1 + 1 + 1) (by omega) (by omega), w64 (x := 1 + 5 * (i : Int) + 1 + 1 + 1 + 1) (by omega) (by omega), w64 (x := 1 + 5 * (i : Int) + 1 + 1 + 1 + 1 + 1) (by omega) (by omega)]
      rw [if_pos (by trivial), if_pos (by trivial), if_pos (by omega), if_pos (by omega), if_pos (by omega)]
      have e2 : 1 + 5 * ((i + 1 : Nat) : Int) = 1 + 5 * (i : Int) + 1 + 1 + 1 + 1 + 1 := by push_cast; omega
      rw [e2])
    (fun k m i h1 => by simp only [laws_heldWetCarpetS.l0, markM_length]; rw [if_neg (by omega)])
    n k 0 (by omega) hk
  simpa using h

end Go.Proofs.Ytdennkmfjkgfhaa.Pure

-- Qidxall
namespace Go.Proofs.Ytdennkmfjkgfhaa.Pure
open Go Go.RowKit Go.Proofs Go.Proofs.YtdennkmfjkgfhaaW.PrintWords Go.Proofs.YtdennkmfjkgfhaaW.PrintLast
set_option linter.unusedVariables false
set_option linter.unusedSimpArgs false

/-- q at all numbers from i on, n of them -/
def allR (q : Nat → Bool) (i n : Nat) : Bool := (List.range' i n).all q
theorem allR_iff {q : Nat → Bool} {i n : Nat} : allR q i n = true ↔ ∀ j, i ≤ j → j < i + n → q j = true := by
  unfold allR
  rw [List.all_eq_true]
  exact ⟨fun h j h1 h2 => h j (List.mem_range'_1.mpr ⟨h1, h2⟩), fun h j hj => h j (List.mem_range'_1.mp hj).1 (List.mem_range'_1.mp hj).2⟩
theorem allR_succ (q : Nat → Bool) (i n : Nat) : allR q i (n + 1) = (q i && allR q (i + 1) n) := by
  unfold allR; rw [List.range'_succ, List.all_cons]
/-- A loop that asks of all numbers, from i on. -/
theorem idx_loop (L : Nat → Int → Option Bool) (q : Nat → Bool) (i0 n0 : Nat) (e : Bool) (hb : n0 ≤ 9223372036854775806)
    (hs : ∀ k (i : Nat), i0 ≤ i → i < n0 → L (k + 1) i = if q i = true then L k (wrap64 ((i : Int) + 1)) else some false) (he : ∀ k (i : Nat), n0 ≤ i → L (k + 1) i = some e) :
    ∀ n k (i : Nat), i0 ≤ i → i + n = n0 → n < k → L k i = some (allR q i n && e) := by
  intro n
  induction n with
  | zero =>
    intro k i h0 hi hk
    obtain ⟨k, rfl, _⟩ := succ_of hk
    rw [he k i (by omega)]; simp [allR]
  | succ n ih =>
    intro k i h0 hi hk
    obtain ⟨k, rfl, hk⟩ := succ_of hk
    rw [hs k i h0 (by omega), wstep (show i < n0 by omega) (by omega), allR_succ, ih k (i + 1) (by omega) (by omega) (by omega)]
    cases q i <;> simp
theorem all_getD {α : Type} {p : α → Bool} {l : List α} (d : α) : l.all p = true ↔ ∀ j, j < l.length → p (l.getD j d) = true := by
  rw [List.all_eq_true]
  constructor
  · intro h j hj
    rw [List.getD_eq_getElem?_getD, List.getElem?_eq_getElem hj]
    exact h _ (List.getElem_mem hj)
  · intro h x hx
    obtain ⟨j, hj, rfl⟩ := List.mem_iff_getElem.mp hx
    have := h j hj
    rwa [List.getD_eq_getElem?_getD, List.getElem?_eq_getElem hj] at this
/-- A loop that adds up. -/
theorem sum_loop {α β : Type} (L : Nat → Int → Int → Option β) (v : α → Int) (r : Int → Option β) (d : α) (B : Int) (l : List α) (hb : l.length ≤ 9223372036854775806) (hv : ∀ x ∈ l, 0 ≤ v x ∧ v x ≤ B)
    (hs : ∀ k (acc : Int) (i : Nat), i < l.length → 0 ≤ acc → acc ≤ B * i → L (k + 1) acc i = L k (acc + v (l.getD i d)) (wrap64 ((i : Int) + 1)))
    (he : ∀ k (acc : Int) (i : Nat), l.length ≤ i → L (k + 1) acc i = r acc) :
    ∀ n k (acc : Int) (i : Nat), i + n = l.length → n < k → 0 ≤ acc → acc ≤ B * i → L k acc i = r (acc + ((l.drop i).map v).sum) := by
  intro n
  induction n with
  | zero =>
    intro k acc i hi hk h0 h1
    obtain ⟨k, rfl, _⟩ := succ_of hk
    rw [he k acc i (by omega), List.drop_eq_nil_of_le (by omega)]; simp
  | succ n ih =>
    intro k acc i hi hk h0 h1
    obtain ⟨k, rfl, hk⟩ := succ_of hk
    have hlt : i < l.length := by omega
    have hm : l.getD i d ∈ l := by rw [List.getD_eq_getElem?_getD, List.getElem?_eq_getElem hlt]; exact List.getElem_mem hlt
    have := hv _ hm
    rw [hs k acc i hlt h0 h1, wstep hlt (by omega), drop_step hlt d, List.map_cons, List.sum_cons]
    have hB : B * ((i + 1 : Nat) : Int) = B * i + B := by push_cast; rw [Int.mul_add, Int.mul_one]
    rw [ih k _ (i + 1) (by omega) (by omega) (by omega) (by omega), Int.add_assoc]

end Go.Proofs.Ytdennkmfjkgfhaa.Pure

-- Qinrange
namespace Go.Proofs.Ytdennkmfjkgfhaa.Pure
open Go Go.RowKit Go.Proofs Go.Proofs.Ytdennkmfjkgfhaa.X Go.Proofs.YtdennkmfjkgfhaaW.PrintWords Go.Proofs.YtdennkmfjkgfhaaW.PrintLast
set_option linter.unusedVariables false
set_option linter.unusedSimpArgs false

theorem in_eq (x a b : Int) : impl_in.f x a b = some (decide (a ≤ x ∧ x ≤ b)) := by
  unfold impl_in.f
  by_cases h1 : a ≤ x <;> simp [h1]

end Go.Proofs.Ytdennkmfjkgfhaa.Pure

-- Qspecin
namespace Go.Proofs.Ytdennkmfjkgfhaa.Pure
open Go Go.RowKit Go.Proofs Go.Proofs.Ytdennkmfjkgfhaa.X Go.Proofs.YtdennkmfjkgfhaaW.PrintWords Go.Proofs.YtdennkmfjkgfhaaW.PrintLast
set_option linter.unusedVariables false
set_option linter.unusedSimpArgs false

theorem l1In_eq (x a b : Int) : spec_l1In.f x a b = some (decide (a ≤ x ∧ x ≤ b)) := by
  unfold spec_l1In.f
  by_cases h1 : a ≤ x <;> simp [h1]

end Go.Proofs.Ytdennkmfjkgfhaa.Pure

-- Qwet
namespace Go.Proofs.Ytdennkmfjkgfhaa.Pure
open Go Go.RowKit Go.Proofs Go.Proofs.Ytdennkmfjkgfhaa.X Go.Proofs.YtdennkmfjkgfhaaW.PrintWords Go.Proofs.YtdennkmfjkgfhaaW.PrintLast
set_option linter.unusedVariables false
set_option linter.unusedSimpArgs false

def wetB (i a d w p : Int) : Bool := decide (1 ≤ i ∧ i ≤ 999) && (decide (1 ≤ a ∧ a ≤ 4000) && (decide (1 ≤ d ∧ d ≤ 200000) && (decide (0 ≤ w ∧ w ≤ 2 * d) && decide (20 ≤ p ∧ p ≤ 300))))
theorem wet_of {i a d w p : Int} (h : wetB i a d w p = true) : (1 ≤ i ∧ i ≤ 999) ∧ (1 ≤ a ∧ a ≤ 4000) ∧ (1 ≤ d ∧ d ≤ 200000) ∧ (0 ≤ w ∧ w ≤ 2 * d) ∧ (20 ≤ p ∧ p ≤ 300) := by
  simpa [wetB] using h
theorem l18One_eq (i a d w p : Int) : spec_l18One.f i a d w p = some (wetB i a d w p) := by
  simp only [spec_l18One.f, l1In_eq, Option.bind_some, wetB]
  cases decide (1 ≤ i ∧ i ≤ 999)
  · rfl
  cases decide (1 ≤ a ∧ a ≤ 4000)
  · rfl
  cases h : decide (1 ≤ d ∧ d ≤ 200000)
  · rfl
  have := of_decide_eq_true h
  rw [w64 (x := 2 * d) (by omega) (by omega)]
  cases decide (0 ≤ w ∧ w ≤ 2 * d) <;> rfl
theorem IsWetCarpet_eq (i a d w p : Int) : impl_IsWetCarpet.f i a d w p = some (wetB i a d w p) := by
  simp only [impl_IsWetCarpet.f, impl_isNumber.f, in_eq, Option.bind_some, wetB]
  cases decide (1 ≤ i ∧ i ≤ 999)
  · rfl
  cases decide (1 ≤ a ∧ a ≤ 4000)
  · rfl
  cases h : decide (1 ≤ d ∧ d ≤ 200000)
  · rfl
  have := of_decide_eq_true h
  rw [w64 (x := 2 * d) (by omega) (by omega)]
  cases decide (0 ≤ w ∧ w ≤ 2 * d) <;> rfl

end Go.Proofs.Ytdennkmfjkgfhaa.Pure

-- Qwets
namespace Go.Proofs.Ytdennkmfjkgfhaa.Pure
open Go Go.RowKit Go.Proofs Go.Proofs.Ytdennkmfjkgfhaa.X Go.Proofs.YtdennkmfjkgfhaaW.PrintWords Go.Proofs.YtdennkmfjkgfhaaW.PrintLast
set_option linter.unusedVariables false
set_option linter.unusedSimpArgs false

def wetS (x : S25) : Bool := wetB x.f0 x.f1 x.f2 x.f3 x.f4
/-- the one before has the lower number -/
def ascW (l : List S25) (j : Nat) : Bool := decide ((l.getD (j - 1) z25).f0 < (l.getD j z25).f0)
def wetsB (l : List S25) : Bool := decide (l.length ≤ 10) && (l.all wetS && allR (ascW l) 1 (l.length - 1))
theorem rdW_nat (l : List S25) (i : Nat) : rd_T25 l (i : Int) = l.getD i z25 := by simp [rd_T25]
theorem goodW_eq {k : Nat} {l : List S25} (hk : l.length < k) (hl : l.length ≤ 1073741824) : spec_l18Good.f k l = some (wetsB l) := by
  unfold spec_l18Good.f
  have h := idx_loop (fun k i => spec_l18Good.l0 k l i) (fun j => wetS (l.getD j z25) && (decide (j = 0) || ascW l j)) 0 l.length (decide ((l.length : Int) ≤ 10)) (by omega)
    (fun k i _ h1 => by
      simp only [spec_l18Good.l0]
      rw [if_pos (by omega), if_pos (by omega), l18One_eq, rdW_nat]
      simp only [Option.bind_some]
      show (if wetS (l.getD i z25) = true then _ else _) = _
      cases wetS (l.getD i z25)
      · simp
      by_cases hi : i = 0
      · subst hi; simp
      · rw [if_pos rfl, if_pos (by omega), w64 (x := (i : Int) - 1) (by omega) (by omega), if_pos (by omega), if_pos (by omega), show (i : Int) - 1 = ((i - 1 : Nat) : Int) by omega, rdW_nat]
        by_cases hc : (l.getD (i - 1) z25).f0 < (l.getD i z25).f0
        · rw [if_neg (by omega)]; simp only [ascW, hc, decide_true, Bool.or_true, Bool.and_self, if_true]
        · rw [if_pos (by omega)]; simp only [ascW, hc, decide_false, Bool.or_false, hi, Bool.and_false, Bool.false_eq_true, if_false])
    (fun k i h1 => by simp only [spec_l18Good.l0]; rw [if_neg (by omega)])
    l.length k 0 (by omega) (by omega) hk
  refine h.trans (congrArg some ?_)
  unfold wetsB
  have e1 : decide ((l.length : Int) ≤ 10) = decide (l.length ≤ 10) := by
    congr 1; exact propext ⟨fun h => by omega, fun h => by omega⟩
  rw [e1, Bool.and_comm]
  congr 1
  rw [Bool.eq_iff_iff, Bool.and_eq_true, allR_iff, allR_iff, all_getD z25]
  constructor
  · intro h
    refine ⟨fun j hj => ?_, fun j h1 h2 => ?_⟩
    · have := h j (by omega) (by omega)
      rw [Bool.and_eq_true] at this; exact this.1
    · have := h j (by omega) (by omega)
      rw [Bool.and_eq_true, Bool.or_eq_true] at this
      rcases this.2 with h3 | h3
      · have := of_decide_eq_true h3; omega
      · exact h3
  · intro h j h1 h2
    rw [Bool.and_eq_true, Bool.or_eq_true]
    refine ⟨h.1 j (by omega), ?_⟩
    by_cases hj : j = 0
    · exact .inl (by simp [hj])
    · exact .inr (h.2 j (by omega) (by omega))
theorem AreWetCarpets_eq {k : Nat} {l : List S25} (hk : l.length < k) (hl : l.length ≤ 1073741824) : impl_AreWetCarpets.f k l = some (wetsB l) := by
  unfold impl_AreWetCarpets.f
  by_cases h10 : (10 : Int) < l.length
  · rw [if_neg (by omega)]; unfold wetsB; simp [show ¬ l.length ≤ 10 by omega]
  rw [if_pos (by omega)]
  simp only [impl_WetCarpet__impl_IsWetCarpet.f]
  rw [Ho.allO_eq (q := wetS) (fun x _ => IsWetCarpet_eq _ _ _ _ _)]
  simp only [Option.bind_some]
  unfold wetsB
  rw [show decide (l.length ≤ 10) = true by simp; omega]
  cases hall : l.all wetS
  · simp
  simp only [if_true, Bool.true_and]
  by_cases h0 : l.length = 0
  · obtain ⟨k, rfl, _⟩ := succ_of hk
    simp only [impl_WetCarpet__impl_AreWetCarpets_1.f, impl_WetCarpet__impl_AreWetCarpets_1.l0]
    rw [if_neg (by omega), h0]; simp [allR]
  have h := idx_loop (fun k i => impl_WetCarpet__impl_AreWetCarpets_1.l0 k l i) (ascW l) 1 l.length true (by omega)
    (fun k i h0 h1 => by
      simp only [impl_WetCarpet__impl_AreWetCarpets_1.l0, impl_AreWetCarpets_1.f, Option.bind_some]
      rw [if_pos (by omega), w64 (x := (i : Int) - 1) (by omega) (by omega), if_pos (by omega), if_pos (by omega), show (i : Int) - 1 = ((i - 1 : Nat) : Int) by omega, rdW_nat, rdW_nat, if_pos (by omega)]
      by_cases hc : (l.getD (i - 1) z25).f0 < (l.getD i z25).f0
      · rw [if_neg (by omega)]; simp only [ascW, hc, decide_true, if_true]
      · rw [if_pos (by omega)]; simp only [ascW, hc, decide_false, Bool.false_eq_true, if_false])
    (fun k i h1 => by simp only [impl_WetCarpet__impl_AreWetCarpets_1.l0]; rw [if_neg (by omega)])
    (l.length - 1) k 1 (by omega) (by omega) (by omega)
  unfold impl_WetCarpet__impl_AreWetCarpets_1.f
  rw [show ((1 : Nat) : Int) = 1 from rfl] at h
  rw [h]; simp
theorem wets_of {l : List S25} (h : wetsB l = true) : l.length ≤ 10 ∧ ∀ x ∈ l, wetS x = true := by
  simp only [wetsB, Bool.and_eq_true, decide_eq_true_eq, List.all_eq_true] at h
  exact ⟨h.1, h.2.1⟩

end Go.Proofs.Ytdennkmfjkgfhaa.Pure

-- Qfindw
namespace Go.Proofs.Ytdennkmfjkgfhaa.Pure
open Go Go.RowKit Go.Proofs Go.Proofs.Ytdennkmfjkgfhaa.X Go.Proofs.YtdennkmfjkgfhaaW.PrintWords Go.Proofs.YtdennkmfjkgfhaaW.PrintLast
set_option linter.unusedVariables false
set_option linter.unusedSimpArgs false

def findW (l : List S25) (n : Int) : Int := if wetsB l then (match l.findIdx? (fun x => x.f0 == n) with | some j => (j : Int) | none => -1) else -1
theorem findW_of {l : List S25} {n : Int} (h : 0 ≤ findW l n) : ∃ j : Nat, findW l n = j ∧ j < l.length ∧ (l.getD j z25).f0 = n ∧ wetsB l = true ∧ wetS (l.getD j z25) = true := by
  unfold findW at h ⊢
  cases hw : wetsB l
  · simp [hw] at h
  simp only [hw, if_true] at h ⊢
  cases hf : l.findIdx? (fun x => x.f0 == n) with
  | none => simp [hf] at h
  | some j =>
    obtain ⟨hj, h1, _⟩ := List.findIdx?_eq_some_iff_getElem.mp hf
    have e : l.getD j z25 = l[j] := by simp [List.getD_eq_getElem?_getD, List.getElem?_eq_getElem hj]
    refine ⟨j, rfl, hj, ?_, by trivial, ?_⟩
    · rw [e]; simpa using h1
    · rw [e]; exact (wets_of hw).2 _ (List.getElem_mem hj)
theorem findW_none {l : List S25} {n : Int} (h : ¬ 0 ≤ findW l n) : findW l n = -1 := by
  unfold findW at h ⊢
  cases hw : wetsB l
  · simp
  simp only [hw, if_true] at h ⊢
  cases hf : l.findIdx? (fun x => x.f0 == n) with
  | none => rfl
  | some j => simp [hf] at h
theorem findWI_eq {k : Nat} {l : List S25} (hk : l.length < k) (hl : l.length ≤ 1073741824) (n : Int) : impl_findCarpet.f k l n = some (findW l n) := by
  simp only [impl_findCarpet.f, AreWetCarpets_eq hk hl, Option.bind_some, findW]
  cases hw : wetsB l
  · simp
  simp only [if_true, impl_WetCarpet__impl_findCarpet_1.f]
  simp only [impl_findCarpet_1.f]
  rw [Ho.idxO_eq (p := fun x : S25 => some (x.f0 == n)) (q := fun x => x.f0 == n) (fun x _ => rfl)]
  simp only [Option.bind_some]
  cases l.findIdx? (fun x => x.f0 == n) with
  | none => rfl
  | some j => simp
theorem findWS_eq {k : Nat} {l : List S25} (hk : 3 * l.length + 2 < k) (hl : l.length ≤ 1073741824) (n : Int) : spec_l18Find.f k l n = some (findW l n) := by
  unfold spec_l18Find.f findW
  have hx : ∀ (m k i : Nat), i + m = l.length → 2 * m + l.length + 2 < k → spec_l18Find.l0 k l n i = some (if wetsB l then (match (l.drop i).findIdx? (fun x => x.f0 == n) with | some j => ((i + j : Nat) : Int) | none => -1) else -1) := by
    intro m
    induction m with
    | zero =>
      intro k i hi hk
      obtain ⟨k, rfl, _⟩ := succ_of hk
      obtain ⟨k, rfl, _⟩ := succ_of (show 0 < k by omega)
      simp only [spec_l18Find.l0, spec_l18Find.j1]
      rw [if_neg (by omega), List.drop_eq_nil_of_le (by omega)]
      cases wetsB l <;> simp
    | succ m ih =>
      intro k i hi hk
      obtain ⟨k, rfl, hk⟩ := succ_of hk
      obtain ⟨k, rfl, _⟩ := succ_of (show 0 < k by omega)
      simp only [spec_l18Find.l0, goodW_eq (k := k + 1) (l := l) (by omega) hl, Option.bind_some, spec_l18Find.j1, rdIW_nat]
      rw [if_pos (show (i : Int) < l.length by omega)]
      cases hw : wetsB l
      · simp
      rw [if_pos rfl, if_pos (show (0 : Int) ≤ i by omega), if_pos (show (i : Int) < l.length by omega), wstep (n := l.length) (by omega) (by omega), ih k (i + 1) (by omega) (by omega), drop_step (show i < l.length by omega) z25, List.findIdx?_cons]
      rw [hw]
      by_cases hc : (l.getD i z25).f0 = n
      · rw [if_pos hc, if_pos (show ((l.getD i z25).f0 == n) = true from beq_iff_eq.mpr hc)]; rfl
      · rw [if_neg hc, if_neg (show ¬ ((l.getD i z25).f0 == n) = true from fun h => hc (beq_iff_eq.mp h))]
        simp only [if_true]
        cases (l.drop (i + 1)).findIdx? (fun x => x.f0 == n) with
        | none => rfl
        | some j =>
          show some (((i + 1 + j : Nat) : Int)) = some (((i + (j + 1) : Nat)) : Int)
          congr 1; omega
  have := hx l.length k 0 (by omega) (by omega)
  refine this.trans ?_
  simp
theorem withWS_eq {l : List S25} (hl : l.length ≤ 1073741824) {j : Nat} (hj : j < l.length) (a b c d e : Int) : spec_l18With.f l (j : Int) a b c d e = some (l.set j ⟨a, b, c, d, e⟩) := by
  simp only [spec_l18With.f, Option.bind_some, List.length_nil, Nat.zero_add, List.nil_append, Int.toNat_natCast]
  rw [if_pos (by omega), if_pos (by omega), if_pos (by omega)]
theorem withWI_eq {l : List S25} (hl : l.length ≤ 1073741824) {j : Nat} (hj : j < l.length) (a b c d e : Int) : impl_withCarpet.f l (j : Int) a b c d e = some (l.set j ⟨a, b, c, d, e⟩) := by
  simp only [impl_withCarpet.f, Option.bind_some, impl_WetCarpet_77.f, List.length_nil, Nat.zero_add, List.nil_append, Int.toNat_natCast]
  rw [if_pos (by omega)]
  simp only [Option.bind_some]
  rw [if_pos (by omega), if_pos (by omega)]

end Go.Proofs.Ytdennkmfjkgfhaa.Pure

-- XimplMostShearF21
namespace Go.Proofs.Ytdennkmfjkgfhaa.X
open Ho (bS eS)
open Go.RowKit Go.Proofs.YtdennkmfjkgfhaaW.PrintWords Go.Proofs.YtdennkmfjkgfhaaW.PrintLast Go.Proofs.YtdennkmfjkgfhaaW.PrintMore
attribute [local go_sem] max2_int min2_int max_two min_two max_three min_three max_four min_four   -- for this text's walks alone
set_option linter.unusedVariables false
set_option linter.unusedSimpArgs false

attribute [local go_sem ↓] Ho.isSome_setCell_   -- a store leaves all places there
/-! ### impl_MostShear: function 21 -/
mutual
def impl_MostShear.j0 : Nat → Bool → Int → Int → Int → Int → Int → Option (Int × Bool)
  | 0, _, _, _, _, _, _ => none
  | k + 1, x12, x102000, x102001, x102002, x102003, x102004 => if x12 = true then (some (0, false)) else (impl_MostShear.l0 k 20 x102000 x102001 x102002 x102003 x102004)
def impl_MostShear.l0 : Nat → Int → Int → Int → Int → Int → Int → Option (Int × Bool)
  | 0, _, _, _, _, _, _ => none
  | k + 1, x4, x102000, x102001, x102002, x102003, x102004 => (impl_WetCarpet_sheared.f x102000 x102001 x102002 x102003 x102004 x4).bind fun bt104 => ((impl_IsWetCarpet.f bt104.1 bt104.2.1 bt104.2.2.1 bt104.2.2.2.1 bt104.2.2.2.2).bind fun t109 => (if t109 = true then (some (x4, true)) else (impl_MostShear.l0 k (wrap64 (x4 - 1)) x102000 x102001 x102002 x102003 x102004)))
end
def impl_MostShear.f (k : Nat) (a0_0 : Int) (a0_1 : Int) (a0_2 : Int) (a0_3 : Int) (a0_4 : Int) : Option (Int × Bool) := (impl_IsWetCarpet.f a0_0 a0_1 a0_2 a0_3 a0_4).bind fun t102 => (if t102 = true then ((impl_WetCarpet_isDry.f a0_0 a0_1 a0_2 a0_3 a0_4).bind fun t103 => (impl_MostShear.j0 k (!t103) a0_0 a0_1 a0_2 a0_3 a0_4)) else (impl_MostShear.j0 k true a0_0 a0_1 a0_2 a0_3 a0_4))
theorem impl_MostShear.mono_l : ∀ k, (∀ y0 y1 y2 y3 y4 y5, LeO (impl_MostShear.j0 k y0 y1 y2 y3 y4 y5) (impl_MostShear.j0 (k + 1) y0 y1 y2 y3 y4 y5)) ∧ (∀ y0 y1 y2 y3 y4 y5, LeO (impl_MostShear.l0 k y0 y1 y2 y3 y4 y5) (impl_MostShear.l0 (k + 1) y0 y1 y2 y3 y4 y5))
  | 0 => ⟨fun _ _ _ _ _ _ r h => by simp [impl_MostShear.j0] at h, fun _ _ _ _ _ _ r h => by simp [impl_MostShear.l0] at h⟩
  | k + 1 => by
    obtain ⟨ih0, ih1⟩ := impl_MostShear.mono_l k
    refine ⟨?_, ?_⟩
    · intro y0 y1 y2 y3 y4 y5
      unfold impl_MostShear.j0
      repeat' first
      | (with_reducible exact ih0 _ _ _ _ _ _)
      | (with_reducible exact ih1 _ _ _ _ _ _)
      | (with_reducible exact LeO.refl _)
      | (with_reducible exact LeO.none _)
      | (with_reducible refine LeO.ite ?_ ?_)
      | (with_reducible refine LeO.bind ?_ (fun _ => ?_))
      | exact ih0 _ _ _ _ _ _
      | exact ih1 _ _ _ _ _ _
      | exact LeO.none _
      | refine LeO.ite ?_ ?_
      | refine LeO.bind ?_ (fun _ => ?_)
    · intro y0 y1 y2 y3 y4 y5
      unfold impl_MostShear.l0
      repeat' first
      | (with_reducible exact ih0 _ _ _ _ _ _)
      | (with_reducible exact ih1 _ _ _ _ _ _)
      | (with_reducible exact LeO.refl _)
      | (with_reducible exact LeO.none _)
      | (with_reducible refine LeO.ite ?_ ?_)
      | (with_reducible refine LeO.bind ?_ (fun _ => ?_))
      | exact ih0 _ _ _ _ _ _
      | exact ih1 _ _ _ _ _ _
      | exact LeO.none _
      | refine LeO.ite ?_ ?_
      | refine LeO.bind ?_ (fun _ => ?_)
theorem impl_MostShear.mono : ∀ a0 a1 a2 a3 a4 k, LeO (impl_MostShear.f k a0 a1 a2 a3 a4) (impl_MostShear.f (k + 1) a0 a1 a2 a3 a4) := by
  intro a0 a1 a2 a3 a4 k
  obtain ⟨ih0, ih1⟩ := impl_MostShear.mono_l k
  unfold impl_MostShear.f
  repeat' first
      | (with_reducible exact ih0 _ _ _ _ _ _)
      | (with_reducible exact ih1 _ _ _ _ _ _)
      | (with_reducible exact LeO.refl _)
      | (with_reducible exact LeO.none _)
      | (with_reducible refine LeO.ite ?_ ?_)
      | (with_reducible refine LeO.bind ?_ (fun _ => ?_))
      | exact ih0 _ _ _ _ _ _
      | exact ih1 _ _ _ _ _ _
      | exact LeO.none _
      | refine LeO.ite ?_ ?_
      | refine LeO.bind ?_ (fun _ => ?_)
set_option maxHeartbeats 8000000 in
set_option maxRecDepth 100000 in
theorem impl_MostShear.calls (k : Nat) (a0_0 : Int) (a0_1 : Int) (a0_2 : Int) (a0_3 : Int) (a0_4 : Int) (r1 : Int) (r2 : Bool) (w : World) (h : impl_MostShear.f k a0_0 a0_1 a0_2 a0_3 a0_4 = some (r1, r2)) :
    Calls Try.prog 21 #[.agg #[.int .i64 a0_0, .int .i64 a0_1, .int .i64 a0_2, .int .i64 a0_3, .int .i64 a0_4]] w fun e w' => e = .returned (.tuple #[.int .i64 r1, .bool r2]) ∧ Below w.heap.size w w' := by
  have hu25 := Try.underlying25
  have HB := Aside0.mk (Below.refl w.heap.size w)
  have H : ((impl_IsWetCarpet.f a0_0 a0_1 a0_2 a0_3 a0_4).bind fun t102 => (if t102 = true then ((impl_WetCarpet_isDry.f a0_0 a0_1 a0_2 a0_3 a0_4).bind fun t103 => (impl_MostShear.j0 k (!t103) a0_0 a0_1 a0_2 a0_3 a0_4)) else (impl_MostShear.j0 k true a0_0 a0_1 a0_2 a0_3 a0_4))) = some (r1, r2) := h
  clear h
  have HC2 := Aside0.mk H
  clear H
  go_enter Try.func21, Try.ntmps21
  go_upto_region 1 with (first | ((with_reducible refine gate_dst (N := 1) rfl ?_); refine box_event ?hg (N := 1) ?hd (cs := #[.int .i64 a0_0, .int .i64 a0_1, .int .i64 a0_2, .int .i64 a0_3, .int .i64 a0_4]) (t := 25) ?hr ?_; (case hd => rfl); (case hg => rfl); (case hr => first | (go_simp; done) | (go_simp; rfl)); intro gb101 hg w3 hbox hb; have n0_ := Aside0.mk (below_step (by exact eS HB.out) hb); have n1_ := Aside0.mk (hbox); have n2_ := Aside0.mk ((by rw [hg]; exact (below_size (by exact eS HB.out)) : w.heap.size ≤ gb101)); have n3_ := Aside0.mk ((by rw [hg]; exact (below_size (by exact eS HB.out)) : w.heap.size ≤ gb101)); clear HB; have HB := n0_; have BK101 := n1_; have GW101 := n2_; have GE101 := n3_; clear n0_ n1_ n2_ n3_; clear hb hbox hg))
  (try simp only [Act.put, List.setIfInBounds_toArray, List.set_cons_zero, List.set_cons_succ])
  go_cut [12] (fun v12 wc => ∃ (kq : Nat) (x12_1 : Bool), v12 = .bool x12_1 ∧ Aside0 (impl_MostShear.j0 kq x12_1 a0_0 a0_1 a0_2 a0_3 a0_4 = some (r1, r2)) ∧ Aside0 (kq ≤ k) ∧ Aside0 (wc.heap[gb101]? = some (.cells #[.int .i64 a0_0, .int .i64 a0_1, .int .i64 a0_2, .int .i64 a0_3, .int .i64 a0_4] 25 (0, 0))) ∧ Aside0 (Below w.heap.size w wc))
  case first =>
    have H := HC2.out
    clear HC2
    replace H := Option.bind_eq_some_iff.mp H
    obtain ⟨t102, A40, H⟩ := H
    replace H : (if t102 = true then ((impl_WetCarpet_isDry.f a0_0 a0_1 a0_2 a0_3 a0_4).bind fun t103 => (impl_MostShear.j0 k (!t103) a0_0 a0_1 a0_2 a0_3 a0_4)) else (impl_MostShear.j0 k true a0_0 a0_1 a0_2 a0_3 a0_4)) = some (r1, r2) := H
    have A4 := Aside0.mk A40
    clear A40
    by_cases c5 : t102 = true
    · subst c5
      have H1 : ((impl_WetCarpet_isDry.f a0_0 a0_1 a0_2 a0_3 a0_4).bind fun t103 => (impl_MostShear.j0 k (!t103) a0_0 a0_1 a0_2 a0_3 a0_4)) = some (r1, r2) := by rw [if_pos rfl] at H; exact H
      clear H
      have H := H1
      clear H1
      replace H := Option.bind_eq_some_iff.mp H
      obtain ⟨t103, A60, H⟩ := H
      replace H : (impl_MostShear.j0 k (!t103) a0_0 a0_1 a0_2 a0_3 a0_4) = some (r1, r2) := H
      have A6 := Aside0.mk A60
      clear A60
      have H' := Aside0.mk H
      clear H
      have hcz7_0 : w3.cell? ⟨gb101, 0, none⟩ = some (.int .i64 a0_0) := (blk_cell BK101.out 0).trans rfl
      have hcz7_1 : w3.cell? ⟨gb101, 1, none⟩ = some (.int .i64 a0_1) := (blk_cell BK101.out 1).trans rfl
      have hcz7_2 : w3.cell? ⟨gb101, 2, none⟩ = some (.int .i64 a0_2) := (blk_cell BK101.out 2).trans rfl
      have hcz7_3 : w3.cell? ⟨gb101, 3, none⟩ = some (.int .i64 a0_3) := (blk_cell BK101.out 3).trans rfl
      have hcz7_4 : w3.cell? ⟨gb101, 4, none⟩ = some (.int .i64 a0_4) := (blk_cell BK101.out 4).trans rfl
      have hfz7_0 := blk_frozen BK101.out 0
      have hfz7_1 := blk_frozen BK101.out 1
      have hfz7_2 := blk_frozen BK101.out 2
      have hfz7_3 := blk_frozen BK101.out 3
      have hfz7_4 := blk_frozen BK101.out 4
      go_wp2_with (first | ((with_reducible refine gate_callee (f := 17) rfl ?_); refine goesL_ (some 6) rfl rfl Try.func17 (by kernel_rfl) rfl #[.agg #[.int .i64 a0_0, .int .i64 a0_1, .int .i64 a0_2, .int .i64 a0_3, .int .i64 a0_4]] rfl (by (try simp only [List.map_toArray, List.map_cons, List.map_nil]); first | done | rfl | (simp only [List.length_drop, List.length_take]; rfl)) ?_; (with_reducible refine (impl_IsWetCarpet.calls a0_0 a0_1 a0_2 a0_3 a0_4 true _ A4.out).mono ?_); rintro e w8 ⟨rfl, hb⟩; refine ⟨_, rfl, ?_⟩; have n0_ := Aside0.mk (blk_below (bS BK101.out) hb); have n1_ := Aside0.mk (below_step (by exact eS HB.out) hb); clear BK101; clear HB; have BK101 := n0_; have HB := n1_; clear n0_ n1_; (try clear hb); (try clear hb2); (try clear hk); (try clear hi); have hcz9_0 : w8.cell? ⟨gb101, 0, none⟩ = some (.int .i64 a0_0) := (blk_cell BK101.out 0).trans rfl; have hcz9_1 : w8.cell? ⟨gb101, 1, none⟩ = some (.int .i64 a0_1) := (blk_cell BK101.out 1).trans rfl; have hcz9_2 : w8.cell? ⟨gb101, 2, none⟩ = some (.int .i64 a0_2) := (blk_cell BK101.out 2).trans rfl; have hcz9_3 : w8.cell? ⟨gb101, 3, none⟩ = some (.int .i64 a0_3) := (blk_cell BK101.out 3).trans rfl; have hcz9_4 : w8.cell? ⟨gb101, 4, none⟩ = some (.int .i64 a0_4) := (blk_cell BK101.out 4).trans rfl; have hfz9_0 := blk_frozen BK101.out 0; have hfz9_1 := blk_frozen BK101.out 1; have hfz9_2 := blk_frozen BK101.out 2; have hfz9_3 := blk_frozen BK101.out 3; have hfz9_4 := blk_frozen BK101.out 4) | (go_at_call 61; (with_reducible refine (impl_WetCarpet_isDry.calls a0_0 a0_1 a0_2 a0_3 a0_4 t103 _ A6.out).mono ?_); rintro e w10 ⟨rfl, hb⟩; have n0_ := Aside0.mk (blk_below (bS BK101.out) hb); have n1_ := Aside0.mk (below_step (by exact eS HB.out) hb); clear BK101; clear HB; have BK101 := n0_; have HB := n1_; clear n0_ n1_; (try clear hb); (try clear hb2); (try clear hk); (try clear hi)))
      go_meet
      case rel => exact ⟨_, (!t103), (by first | rfl | (simp; done) | (simp [*]; done)), H', ⟨by first | omega | exact Nat.le_refl _⟩, ⟨by exact bS BK101.out⟩, ⟨by exact eS HB.out⟩⟩
    · replace c5 := Bool.eq_false_iff.mpr c5
      subst c5
      have H1 : (impl_MostShear.j0 k true a0_0 a0_1 a0_2 a0_3 a0_4) = some (r1, r2) := by rw [if_neg (show ¬ (false = true) by decide)] at H; exact H
      clear H
      have H := H1
      clear H1
      have H' := Aside0.mk H
      clear H
      have hcz11_0 : w3.cell? ⟨gb101, 0, none⟩ = some (.int .i64 a0_0) := (blk_cell BK101.out 0).trans rfl
      have hcz11_1 : w3.cell? ⟨gb101, 1, none⟩ = some (.int .i64 a0_1) := (blk_cell BK101.out 1).trans rfl
      have hcz11_2 : w3.cell? ⟨gb101, 2, none⟩ = some (.int .i64 a0_2) := (blk_cell BK101.out 2).trans rfl
      have hcz11_3 : w3.cell? ⟨gb101, 3, none⟩ = some (.int .i64 a0_3) := (blk_cell BK101.out 3).trans rfl
      have hcz11_4 : w3.cell? ⟨gb101, 4, none⟩ = some (.int .i64 a0_4) := (blk_cell BK101.out 4).trans rfl
      have hfz11_0 := blk_frozen BK101.out 0
      have hfz11_1 := blk_frozen BK101.out 1
      have hfz11_2 := blk_frozen BK101.out 2
      have hfz11_3 := blk_frozen BK101.out 3
      have hfz11_4 := blk_frozen BK101.out 4
      go_wp2_with (first | ((with_reducible refine gate_callee (f := 17) rfl ?_); refine goesL_ (some 6) rfl rfl Try.func17 (by kernel_rfl) rfl #[.agg #[.int .i64 a0_0, .int .i64 a0_1, .int .i64 a0_2, .int .i64 a0_3, .int .i64 a0_4]] rfl (by (try simp only [List.map_toArray, List.map_cons, List.map_nil]); first | done | rfl | (simp only [List.length_drop, List.length_take]; rfl)) ?_; (with_reducible refine (impl_IsWetCarpet.calls a0_0 a0_1 a0_2 a0_3 a0_4 false _ A4.out).mono ?_); rintro e w12 ⟨rfl, hb⟩; refine ⟨_, rfl, ?_⟩; have n0_ := Aside0.mk (blk_below (bS BK101.out) hb); have n1_ := Aside0.mk (below_step (by exact eS HB.out) hb); clear BK101; clear HB; have BK101 := n0_; have HB := n1_; clear n0_ n1_; (try clear hb); (try clear hb2); (try clear hk); (try clear hi)))
      go_meet
      case rel => exact ⟨_, (true), (by first | rfl | (simp; done) | (simp [*]; done)), H', ⟨by first | omega | exact Nat.le_refl _⟩, ⟨by exact bS BK101.out⟩, ⟨by exact eS HB.out⟩⟩
  case rest =>
    clear HC2
    try clear c1
    try clear c2
    try clear p2
    try clear c5
    try clear hcz11_0
    try clear hcz11_1
    try clear hcz11_2
    try clear hcz11_3
    try clear hcz11_4
    try clear hcz7_0
    try clear hcz7_1
    try clear hcz7_2
    try clear hcz7_3
    try clear hcz7_4
    try clear hcz9_0
    try clear hcz9_1
    try clear hcz9_2
    try clear hcz9_3
    try clear hcz9_4
    try clear hfz11_0
    try clear hfz11_1
    try clear hfz11_2
    try clear hfz11_3
    try clear hfz11_4
    try clear hfz7_0
    try clear hfz7_1
    try clear hfz7_2
    try clear hfz7_3
    try clear hfz7_4
    try clear hfz9_0
    try clear hfz9_1
    try clear hfz9_2
    try clear hfz9_3
    try clear hfz9_4
    obtain ⟨kq, x12_1, rfl, HA, HJ1, BK101, HB⟩ := hcut
    cases kq with
    | zero => exact absurd HA.out (by simp [impl_MostShear.j0])
    | succ kj1 =>
      have H := HA.out
      clear HA
      simp only [impl_MostShear.j0] at H
      by_cases c13 : x12_1 = true
      · subst c13
        have H1 : (some (0, false)) = some (r1, r2) := by rw [if_pos rfl] at H; exact H
        clear H
        have H := H1
        clear H1
        simp only [Option.some.injEq, Prod.mk.injEq] at H
        obtain ⟨rfl, rfl⟩ := H
        go_wp2
        go_ret2
        exact ⟨by first | rfl | (simp [errW_none, errW_some] <;> rfl) | (simp [*, errW_none, errW_some] <;> rfl), by exact eS HB.out⟩
      · replace c13 := Bool.eq_false_iff.mpr c13
        subst c13
        have H1 : (impl_MostShear.l0 kj1 20 a0_0 a0_1 a0_2 a0_3 a0_4) = some (r1, r2) := by rw [if_neg (show ¬ (false = true) by decide)] at H; exact H
        clear H
        have H := H1
        clear H1
        have H' := Aside0.mk H
        clear H
        go_wp2
        go_loopg [4] kj1 (fun kq v4 w' => ∃ (x4_2 : Int), v4 = .int .i64 x4_2 ∧ Aside0 (impl_MostShear.l0 kq x4_2 a0_0 a0_1 a0_2 a0_3 a0_4 = some (r1, r2)) ∧ Aside0 (kq ≤ kj1) ∧ Aside0 (w'.heap[gb101]? = some (.cells #[.int .i64 a0_0, .int .i64 a0_1, .int .i64 a0_2, .int .i64 a0_3, .int .i64 a0_4] 25 (0, 0))) ∧ Aside0 (Below w.heap.size w w'))
        case atStart => exact ⟨(20), (by first | rfl | (simp; done) | (simp [*]; done)), H', ⟨Nat.le_refl _⟩, ⟨by exact bS BK101.out⟩, ⟨by exact eS HB.out⟩⟩
        case round =>
          clear H'
          try clear c1
          try clear c2
          try clear p2
          try clear c5
          try clear c13
          try clear hcz11_0
          try clear hcz11_1
          try clear hcz11_2
          try clear hcz11_3
          try clear hcz11_4
          try clear hcz7_0
          try clear hcz7_1
          try clear hcz7_2
          try clear hcz7_3
          try clear hcz7_4
          try clear hcz9_0
          try clear hcz9_1
          try clear hcz9_2
          try clear hcz9_3
          try clear hcz9_4
          try clear hfz11_0
          try clear hfz11_1
          try clear hfz11_2
          try clear hfz11_3
          try clear hfz11_4
          try clear hfz7_0
          try clear hfz7_1
          try clear hfz7_2
          try clear hfz7_3
          try clear hfz7_4
          try clear hfz9_0
          try clear hfz9_1
          try clear hfz9_2
          try clear hfz9_3
          try clear hfz9_4
          try clear p2
          obtain ⟨x4_2, rfl, HA, HK2, BK101, HB⟩ := hrel
          cases gk with
          | zero => exact absurd HA.out (by simp [impl_MostShear.l0])
          | succ k2 =>
            have H := HA.out
            clear HA
            simp only [impl_MostShear.l0] at H
            replace H := Option.bind_eq_some_iff.mp H
            obtain ⟨⟨t104, t105, t106, t107, t108⟩, A140, H⟩ := H
            replace H : ((impl_IsWetCarpet.f t104 t105 t106 t107 t108).bind fun t109 => (if t109 = true then (some (x4_2, true)) else (impl_MostShear.l0 k2 (wrap64 (x4_2 - 1)) a0_0 a0_1 a0_2 a0_3 a0_4))) = some (r1, r2) := H
            have A14 := Aside0.mk A140
            clear A140
            replace H := Option.bind_eq_some_iff.mp H
            obtain ⟨t109, A150, H⟩ := H
            replace H : (if t109 = true then (some (x4_2, true)) else (impl_MostShear.l0 k2 (wrap64 (x4_2 - 1)) a0_0 a0_1 a0_2 a0_3 a0_4)) = some (r1, r2) := H
            have A15 := Aside0.mk A150
            clear A150
            by_cases c16 : t109 = true
            · subst c16
              have H1 : (some (x4_2, true)) = some (r1, r2) := by rw [if_pos rfl] at H; exact H
              clear H
              have H := H1
              clear H1
              simp only [Option.some.injEq, Prod.mk.injEq] at H
              obtain ⟨rfl, rfl⟩ := H
              have hcz17_0 : wr.cell? ⟨gb101, 0, none⟩ = some (.int .i64 a0_0) := (blk_cell BK101.out 0).trans rfl
              have hcz17_1 : wr.cell? ⟨gb101, 1, none⟩ = some (.int .i64 a0_1) := (blk_cell BK101.out 1).trans rfl
              have hcz17_2 : wr.cell? ⟨gb101, 2, none⟩ = some (.int .i64 a0_2) := (blk_cell BK101.out 2).trans rfl
              have hcz17_3 : wr.cell? ⟨gb101, 3, none⟩ = some (.int .i64 a0_3) := (blk_cell BK101.out 3).trans rfl
              have hcz17_4 : wr.cell? ⟨gb101, 4, none⟩ = some (.int .i64 a0_4) := (blk_cell BK101.out 4).trans rfl
              have hfz17_0 := blk_frozen BK101.out 0
              have hfz17_1 := blk_frozen BK101.out 1
              have hfz17_2 := blk_frozen BK101.out 2
              have hfz17_3 := blk_frozen BK101.out 3
              have hfz17_4 := blk_frozen BK101.out 4
              go_wp2_with (first | ((with_reducible refine gate_callee (f := 62) rfl ?_); refine goesL_ (some 15) rfl rfl Try.func62 (by kernel_rfl) rfl #[.agg #[.int .i64 a0_0, .int .i64 a0_1, .int .i64 a0_2, .int .i64 a0_3, .int .i64 a0_4], .int .i64 x4_2] rfl (by (try simp only [List.map_toArray, List.map_cons, List.map_nil]); first | done | rfl | (simp only [List.length_drop, List.length_take]; rfl)) ?_; (with_reducible refine (impl_WetCarpet_sheared.calls a0_0 a0_1 a0_2 a0_3 a0_4 x4_2 t104 t105 t106 t107 t108 _ A14.out).mono ?_); rintro e w18 ⟨rfl, hb⟩; refine ⟨_, rfl, ?_⟩; have n0_ := Aside0.mk (blk_below (bS BK101.out) hb); have n1_ := Aside0.mk (below_step (by exact eS HB.out) hb); clear BK101; clear HB; have BK101 := n0_; have HB := n1_; clear n0_ n1_; (try clear hb); (try clear hb2); (try clear hk); (try clear hi)) | ((with_reducible refine gate_callee (f := 17) rfl ?_); refine goesL_ (some 16) rfl rfl Try.func17 (by kernel_rfl) rfl #[.agg #[.int .i64 t104, .int .i64 t105, .int .i64 t106, .int .i64 t107, .int .i64 t108]] rfl (by (try simp only [List.map_toArray, List.map_cons, List.map_nil]); first | done | rfl | (simp only [List.length_drop, List.length_take]; rfl)) ?_; (with_reducible refine (impl_IsWetCarpet.calls t104 t105 t106 t107 t108 true _ A15.out).mono ?_); rintro e w19 ⟨rfl, hb⟩; refine ⟨_, rfl, ?_⟩; have n0_ := Aside0.mk (blk_below (bS BK101.out) hb); have n1_ := Aside0.mk (below_step (by exact eS HB.out) hb); clear BK101; clear HB; have BK101 := n0_; have HB := n1_; clear n0_ n1_; (try clear hb); (try clear hb2); (try clear hk); (try clear hi)))
              go_ret2
              exact ⟨by first | rfl | (simp [errW_none, errW_some] <;> rfl) | (simp [*, errW_none, errW_some] <;> rfl), by exact eS HB.out⟩
            · replace c16 := Bool.eq_false_iff.mpr c16
              subst c16
              have H1 : (impl_MostShear.l0 k2 (wrap64 (x4_2 - 1)) a0_0 a0_1 a0_2 a0_3 a0_4) = some (r1, r2) := by rw [if_neg (show ¬ (false = true) by decide)] at H; exact H
              clear H
              have H := H1
              clear H1
              have H' := Aside0.mk H
              clear H
              have hcz20_0 : wr.cell? ⟨gb101, 0, none⟩ = some (.int .i64 a0_0) := (blk_cell BK101.out 0).trans rfl
              have hcz20_1 : wr.cell? ⟨gb101, 1, none⟩ = some (.int .i64 a0_1) := (blk_cell BK101.out 1).trans rfl
              have hcz20_2 : wr.cell? ⟨gb101, 2, none⟩ = some (.int .i64 a0_2) := (blk_cell BK101.out 2).trans rfl
              have hcz20_3 : wr.cell? ⟨gb101, 3, none⟩ = some (.int .i64 a0_3) := (blk_cell BK101.out 3).trans rfl
              have hcz20_4 : wr.cell? ⟨gb101, 4, none⟩ = some (.int .i64 a0_4) := (blk_cell BK101.out 4).trans rfl
              have hfz20_0 := blk_frozen BK101.out 0
              have hfz20_1 := blk_frozen BK101.out 1
              have hfz20_2 := blk_frozen BK101.out 2
              have hfz20_3 := blk_frozen BK101.out 3
              have hfz20_4 := blk_frozen BK101.out 4
              go_wp2_with (first | ((with_reducible refine gate_callee (f := 62) rfl ?_); refine goesL_ (some 15) rfl rfl Try.func62 (by kernel_rfl) rfl #[.agg #[.int .i64 a0_0, .int .i64 a0_1, .int .i64 a0_2, .int .i64 a0_3, .int .i64 a0_4], .int .i64 x4_2] rfl (by (try simp only [List.map_toArray, List.map_cons, List.map_nil]); first | done | rfl | (simp only [List.length_drop, List.length_take]; rfl)) ?_; (with_reducible refine (impl_WetCarpet_sheared.calls a0_0 a0_1 a0_2 a0_3 a0_4 x4_2 t104 t105 t106 t107 t108 _ A14.out).mono ?_); rintro e w21 ⟨rfl, hb⟩; refine ⟨_, rfl, ?_⟩; have n0_ := Aside0.mk (blk_below (bS BK101.out) hb); have n1_ := Aside0.mk (below_step (by exact eS HB.out) hb); clear BK101; clear HB; have BK101 := n0_; have HB := n1_; clear n0_ n1_; (try clear hb); (try clear hb2); (try clear hk); (try clear hi)) | ((with_reducible refine gate_callee (f := 17) rfl ?_); refine goesL_ (some 16) rfl rfl Try.func17 (by kernel_rfl) rfl #[.agg #[.int .i64 t104, .int .i64 t105, .int .i64 t106, .int .i64 t107, .int .i64 t108]] rfl (by (try simp only [List.map_toArray, List.map_cons, List.map_nil]); first | done | rfl | (simp only [List.length_drop, List.length_take]; rfl)) ?_; (with_reducible refine (impl_IsWetCarpet.calls t104 t105 t106 t107 t108 false _ A15.out).mono ?_); rintro e w22 ⟨rfl, hb⟩; refine ⟨_, rfl, ?_⟩; have n0_ := Aside0.mk (blk_below (bS BK101.out) hb); have n1_ := Aside0.mk (below_step (by exact eS HB.out) hb); clear BK101; clear HB; have BK101 := n0_; have HB := n1_; clear n0_ n1_; (try clear hb); (try clear hb2); (try clear hk); (try clear hi)))
              go_roundg k2
              case measure => have := HJ1.out; have := HK2.out; omega
              case rel => exact ⟨(wrap64 (x4_2 - 1)), (by first | rfl | (simp; done) | (simp [*]; done)), H', ⟨by have := HJ1.out; have := HK2.out; omega⟩, ⟨by exact bS BK101.out⟩, ⟨by exact eS HB.out⟩⟩

end Go.Proofs.Ytdennkmfjkgfhaa.X

-- XspecMostShearF20
namespace Go.Proofs.Ytdennkmfjkgfhaa.X
open Ho (bS eS)
open Go.RowKit Go.Proofs.YtdennkmfjkgfhaaW.PrintWords Go.Proofs.YtdennkmfjkgfhaaW.PrintLast Go.Proofs.YtdennkmfjkgfhaaW.PrintMore
attribute [local go_sem] max2_int min2_int max_two min_two max_three min_three max_four min_four   -- for this text's walks alone
set_option linter.unusedVariables false
set_option linter.unusedSimpArgs false

attribute [local go_sem ↓] Ho.isSome_setCell_   -- a store leaves all places there
/-! ### spec_MostShear: function 20 -/
mutual
def spec_MostShear.j0 : Nat → Bool → Int → Int → Int → Int → Int → Option (Int × Bool)
  | 0, _, _, _, _, _, _ => none
  | k + 1, x15, x102000, x102001, x102002, x102003, x102004 => if x15 = true then (some (0, false)) else (spec_MostShear.l0 k 0 1 x102000 x102001 x102002 x102003 x102004)
def spec_MostShear.l0 : Nat → Int → Int → Int → Int → Int → Int → Int → Option (Int × Bool)
  | 0, _, _, _, _, _, _, _ => none
  | k + 1, x4, x5, x102000, x102001, x102002, x102003, x102004 => if x5 ≤ 20 then ((spec_l18Shorn.f x102000 x102001 x102002 x102003 x102004 x5).bind fun bt104 => (if bt104.2.2.2.2.2 = true then (spec_MostShear.l0 k x5 (wrap64 (x5 + 1)) x102000 x102001 x102002 x102003 x102004) else (spec_MostShear.l0 k x4 (wrap64 (x5 + 1)) x102000 x102001 x102002 x102003 x102004))) else (some (x4, true))
end
def spec_MostShear.f (k : Nat) (a0_0 : Int) (a0_1 : Int) (a0_2 : Int) (a0_3 : Int) (a0_4 : Int) : Option (Int × Bool) := (spec_l18One.f a0_0 a0_1 a0_2 a0_3 a0_4).bind fun t102 => (if t102 = true then ((spec_l18Dry.f a0_0 a0_1 a0_2 a0_3 a0_4).bind fun t103 => (spec_MostShear.j0 k (!t103) a0_0 a0_1 a0_2 a0_3 a0_4)) else (spec_MostShear.j0 k true a0_0 a0_1 a0_2 a0_3 a0_4))
theorem spec_MostShear.mono_l : ∀ k, (∀ y0 y1 y2 y3 y4 y5, LeO (spec_MostShear.j0 k y0 y1 y2 y3 y4 y5) (spec_MostShear.j0 (k + 1) y0 y1 y2 y3 y4 y5)) ∧ (∀ y0 y1 y2 y3 y4 y5 y6, LeO (spec_MostShear.l0 k y0 y1 y2 y3 y4 y5 y6) (spec_MostShear.l0 (k + 1) y0 y1 y2 y3 y4 y5 y6))
  | 0 => ⟨fun _ _ _ _ _ _ r h => by simp [spec_MostShear.j0] at h, fun _ _ _ _ _ _ _ r h => by simp [spec_MostShear.l0] at h⟩
  | k + 1 => by
    obtain ⟨ih0, ih1⟩ := spec_MostShear.mono_l k
    refine ⟨?_, ?_⟩
    · intro y0 y1 y2 y3 y4 y5
      unfold spec_MostShear.j0
      repeat' first
      | (with_reducible exact ih0 _ _ _ _ _ _)
      | (with_reducible exact ih1 _ _ _ _ _ _ _)
      | (with_reducible exact LeO.refl _)
      | (with_reducible exact LeO.none _)
      | (with_reducible refine LeO.ite ?_ ?_)
      | (with_reducible refine LeO.bind ?_ (fun _ => ?_))
      | exact ih0 _ _ _ _ _ _
      | exact ih1 _ _ _ _ _ _ _
      | exact LeO.none _
      | refine LeO.ite ?_ ?_
      | refine LeO.bind ?_ (fun _ => ?_)
    · intro y0 y1 y2 y3 y4 y5 y6
      unfold spec_MostShear.l0
      repeat' first
      | (with_reducible exact ih0 _ _ _ _ _ _)
      | (with_reducible exact ih1 _ _ _ _ _ _ _)
      | (with_reducible exact LeO.refl _)
      | (with_reducible exact LeO.none _)
      | (with_reducible refine LeO.ite ?_ ?_)
      | (with_reducible refine LeO.bind ?_ (fun _ => ?_))
      | exact ih0 _ _ _ _ _ _
      | exact ih1 _ _ _ _ _ _ _
      | exact LeO.none _
      | refine LeO.ite ?_ ?_
      | refine LeO.bind ?_ (fun _ => ?_)
theorem spec_MostShear.mono : ∀ a0 a1 a2 a3 a4 k, LeO (spec_MostShear.f k a0 a1 a2 a3 a4) (spec_MostShear.f (k + 1) a0 a1 a2 a3 a4) := by
  intro a0 a1 a2 a3 a4 k
  obtain ⟨ih0, ih1⟩ := spec_MostShear.mono_l k
  unfold spec_MostShear.f
  repeat' first
      | (with_reducible exact ih0 _ _ _ _ _ _)
      | (with_reducible exact ih1 _ _ _ _ _ _ _)
      | (with_reducible exact LeO.refl _)
      | (with_reducible exact LeO.none _)
      | (with_reducible refine LeO.ite ?_ ?_)
      | (with_reducible refine LeO.bind ?_ (fun _ => ?_))
      | exact ih0 _ _ _ _ _ _
      | exact ih1 _ _ _ _ _ _ _
      | exact LeO.none _
      | refine LeO.ite ?_ ?_
      | refine LeO.bind ?_ (fun _ => ?_)
set_option maxHeartbeats 8000000 in
set_option maxRecDepth 100000 in
theorem spec_MostShear.calls (k : Nat) (a0_0 : Int) (a0_1 : Int) (a0_2 : Int) (a0_3 : Int) (a0_4 : Int) (r1 : Int) (r2 : Bool) (w : World) (h : spec_MostShear.f k a0_0 a0_1 a0_2 a0_3 a0_4 = some (r1, r2)) :
    Calls Try.prog 20 #[.agg #[.int .i64 a0_0, .int .i64 a0_1, .int .i64 a0_2, .int .i64 a0_3, .int .i64 a0_4]] w fun e w' => e = .returned (.tuple #[.int .i64 r1, .bool r2]) ∧ Below w.heap.size w w' := by
  have hu25 := Try.underlying25
  have HB := Aside0.mk (Below.refl w.heap.size w)
  have H : ((spec_l18One.f a0_0 a0_1 a0_2 a0_3 a0_4).bind fun t102 => (if t102 = true then ((spec_l18Dry.f a0_0 a0_1 a0_2 a0_3 a0_4).bind fun t103 => (spec_MostShear.j0 k (!t103) a0_0 a0_1 a0_2 a0_3 a0_4)) else (spec_MostShear.j0 k true a0_0 a0_1 a0_2 a0_3 a0_4))) = some (r1, r2) := h
  clear h
  have HC2 := Aside0.mk H
  clear H
  go_enter Try.func20, Try.ntmps20
  go_upto_region 1 with (first | ((with_reducible refine gate_dst (N := 1) rfl ?_); refine box_event ?hg (N := 1) ?hd (cs := #[.int .i64 a0_0, .int .i64 a0_1, .int .i64 a0_2, .int .i64 a0_3, .int .i64 a0_4]) (t := 25) ?hr ?_; (case hd => rfl); (case hg => rfl); (case hr => first | (go_simp; done) | (go_simp; rfl)); intro gb101 hg w3 hbox hb; have n0_ := Aside0.mk (below_step (by exact eS HB.out) hb); have n1_ := Aside0.mk (hbox); have n2_ := Aside0.mk ((by rw [hg]; exact (below_size (by exact eS HB.out)) : w.heap.size ≤ gb101)); have n3_ := Aside0.mk ((by rw [hg]; exact (below_size (by exact eS HB.out)) : w.heap.size ≤ gb101)); clear HB; have HB := n0_; have BK101 := n1_; have GW101 := n2_; have GE101 := n3_; clear n0_ n1_ n2_ n3_; clear hb hbox hg))
  (try simp only [Act.put, List.setIfInBounds_toArray, List.set_cons_zero, List.set_cons_succ])
  go_cut [15] (fun v15 wc => ∃ (kq : Nat) (x15_1 : Bool), v15 = .bool x15_1 ∧ Aside0 (spec_MostShear.j0 kq x15_1 a0_0 a0_1 a0_2 a0_3 a0_4 = some (r1, r2)) ∧ Aside0 (kq ≤ k) ∧ Aside0 (wc.heap[gb101]? = some (.cells #[.int .i64 a0_0, .int .i64 a0_1, .int .i64 a0_2, .int .i64 a0_3, .int .i64 a0_4] 25 (0, 0))) ∧ Aside0 (Below w.heap.size w wc))
  case first =>
    have H := HC2.out
    clear HC2
    replace H := Option.bind_eq_some_iff.mp H
    obtain ⟨t102, A40, H⟩ := H
    replace H : (if t102 = true then ((spec_l18Dry.f a0_0 a0_1 a0_2 a0_3 a0_4).bind fun t103 => (spec_MostShear.j0 k (!t103) a0_0 a0_1 a0_2 a0_3 a0_4)) else (spec_MostShear.j0 k true a0_0 a0_1 a0_2 a0_3 a0_4)) = some (r1, r2) := H
    have A4 := Aside0.mk A40
    clear A40
    by_cases c5 : t102 = true
    · subst c5
      have H1 : ((spec_l18Dry.f a0_0 a0_1 a0_2 a0_3 a0_4).bind fun t103 => (spec_MostShear.j0 k (!t103) a0_0 a0_1 a0_2 a0_3 a0_4)) = some (r1, r2) := by rw [if_pos rfl] at H; exact H
      clear H
      have H := H1
      clear H1
      replace H := Option.bind_eq_some_iff.mp H
      obtain ⟨t103, A60, H⟩ := H
      replace H : (spec_MostShear.j0 k (!t103) a0_0 a0_1 a0_2 a0_3 a0_4) = some (r1, r2) := H
      have A6 := Aside0.mk A60
      clear A60
      have H' := Aside0.mk H
      clear H
      have hcz7_0 : w3.cell? ⟨gb101, 0, none⟩ = some (.int .i64 a0_0) := (blk_cell BK101.out 0).trans rfl
      have hcz7_1 : w3.cell? ⟨gb101, 1, none⟩ = some (.int .i64 a0_1) := (blk_cell BK101.out 1).trans rfl
      have hcz7_2 : w3.cell? ⟨gb101, 2, none⟩ = some (.int .i64 a0_2) := (blk_cell BK101.out 2).trans rfl
      have hcz7_3 : w3.cell? ⟨gb101, 3, none⟩ = some (.int .i64 a0_3) := (blk_cell BK101.out 3).trans rfl
      have hcz7_4 : w3.cell? ⟨gb101, 4, none⟩ = some (.int .i64 a0_4) := (blk_cell BK101.out 4).trans rfl
      have hfz7_0 := blk_frozen BK101.out 0
      have hfz7_1 := blk_frozen BK101.out 1
      have hfz7_2 := blk_frozen BK101.out 2
      have hfz7_3 := blk_frozen BK101.out 3
      have hfz7_4 := blk_frozen BK101.out 4
      go_wp2_with (first | ((with_reducible refine gate_callee (f := 55) rfl ?_); refine goesL_ (some 9) rfl rfl Try.func55 (by kernel_rfl) rfl #[.agg #[.int .i64 a0_0, .int .i64 a0_1, .int .i64 a0_2, .int .i64 a0_3, .int .i64 a0_4]] rfl (by (try simp only [List.map_toArray, List.map_cons, List.map_nil]); first | done | rfl | (simp only [List.length_drop, List.length_take]; rfl)) ?_; (with_reducible refine (spec_l18One.calls a0_0 a0_1 a0_2 a0_3 a0_4 true _ A4.out).mono ?_); rintro e w8 ⟨rfl, hb⟩; refine ⟨_, rfl, ?_⟩; have n0_ := Aside0.mk (blk_below (bS BK101.out) hb); have n1_ := Aside0.mk (below_step (by exact eS HB.out) hb); clear BK101; clear HB; have BK101 := n0_; have HB := n1_; clear n0_ n1_; (try clear hb); (try clear hb2); (try clear hk); (try clear hi); have hcz9_0 : w8.cell? ⟨gb101, 0, none⟩ = some (.int .i64 a0_0) := (blk_cell BK101.out 0).trans rfl; have hcz9_1 : w8.cell? ⟨gb101, 1, none⟩ = some (.int .i64 a0_1) := (blk_cell BK101.out 1).trans rfl; have hcz9_2 : w8.cell? ⟨gb101, 2, none⟩ = some (.int .i64 a0_2) := (blk_cell BK101.out 2).trans rfl; have hcz9_3 : w8.cell? ⟨gb101, 3, none⟩ = some (.int .i64 a0_3) := (blk_cell BK101.out 3).trans rfl; have hcz9_4 : w8.cell? ⟨gb101, 4, none⟩ = some (.int .i64 a0_4) := (blk_cell BK101.out 4).trans rfl; have hfz9_0 := blk_frozen BK101.out 0; have hfz9_1 := blk_frozen BK101.out 1; have hfz9_2 := blk_frozen BK101.out 2; have hfz9_3 := blk_frozen BK101.out 3; have hfz9_4 := blk_frozen BK101.out 4) | (go_at_call 59; (with_reducible refine (spec_l18Dry.calls a0_0 a0_1 a0_2 a0_3 a0_4 t103 _ A6.out).mono ?_); rintro e w10 ⟨rfl, hb⟩; have n0_ := Aside0.mk (blk_below (bS BK101.out) hb); have n1_ := Aside0.mk (below_step (by exact eS HB.out) hb); clear BK101; clear HB; have BK101 := n0_; have HB := n1_; clear n0_ n1_; (try clear hb); (try clear hb2); (try clear hk); (try clear hi)))
      go_meet
      case rel => exact ⟨_, (!t103), (by first | rfl | (simp; done) | (simp [*]; done)), H', ⟨by first | omega | exact Nat.le_refl _⟩, ⟨by exact bS BK101.out⟩, ⟨by exact eS HB.out⟩⟩
    · replace c5 := Bool.eq_false_iff.mpr c5
      subst c5
      have H1 : (spec_MostShear.j0 k true a0_0 a0_1 a0_2 a0_3 a0_4) = some (r1, r2) := by rw [if_neg (show ¬ (false = true) by decide)] at H; exact H
      clear H
      have H := H1
      clear H1
      have H' := Aside0.mk H
      clear H
      have hcz11_0 : w3.cell? ⟨gb101, 0, none⟩ = some (.int .i64 a0_0) := (blk_cell BK101.out 0).trans rfl
      have hcz11_1 : w3.cell? ⟨gb101, 1, none⟩ = some (.int .i64 a0_1) := (blk_cell BK101.out 1).trans rfl
      have hcz11_2 : w3.cell? ⟨gb101, 2, none⟩ = some (.int .i64 a0_2) := (blk_cell BK101.out 2).trans rfl
      have hcz11_3 : w3.cell? ⟨gb101, 3, none⟩ = some (.int .i64 a0_3) := (blk_cell BK101.out 3).trans rfl
      have hcz11_4 : w3.cell? ⟨gb101, 4, none⟩ = some (.int .i64 a0_4) := (blk_cell BK101.out 4).trans rfl
      have hfz11_0 := blk_frozen BK101.out 0
      have hfz11_1 := blk_frozen BK101.out 1
      have hfz11_2 := blk_frozen BK101.out 2
      have hfz11_3 := blk_frozen BK101.out 3
      have hfz11_4 := blk_frozen BK101.out 4
      go_wp2_with (first | ((with_reducible refine gate_callee (f := 55) rfl ?_); refine goesL_ (some 9) rfl rfl Try.func55 (by kernel_rfl) rfl #[.agg #[.int .i64 a0_0, .int .i64 a0_1, .int .i64 a0_2, .int .i64 a0_3, .int .i64 a0_4]] rfl (by (try simp only [List.map_toArray, List.map_cons, List.map_nil]); first | done | rfl | (simp only [List.length_drop, List.length_take]; rfl)) ?_; (with_reducible refine (spec_l18One.calls a0_0 a0_1 a0_2 a0_3 a0_4 false _ A4.out).mono ?_); rintro e w12 ⟨rfl, hb⟩; refine ⟨_, rfl, ?_⟩; have n0_ := Aside0.mk (blk_below (bS BK101.out) hb); have n1_ := Aside0.mk (below_step (by exact eS HB.out) hb); clear BK101; clear HB; have BK101 := n0_; have HB := n1_; clear n0_ n1_; (try clear hb); (try clear hb2); (try clear hk); (try clear hi)))
      go_meet
      case rel => exact ⟨_, (true), (by first | rfl | (simp; done) | (simp [*]; done)), H', ⟨by first | omega | exact Nat.le_refl _⟩, ⟨by exact bS BK101.out⟩, ⟨by exact eS HB.out⟩⟩
  case rest =>
    clear HC2
    try clear c2
    try clear p2
    try clear c5
    try clear hcz11_0
    try clear hcz11_1
    try clear hcz11_2
    try clear hcz11_3
    try clear hcz11_4
    try clear hcz7_0
    try clear hcz7_1
    try clear hcz7_2
    try clear hcz7_3
    try clear hcz7_4
    try clear hcz9_0
    try clear hcz9_1
    try clear hcz9_2
    try clear hcz9_3
    try clear hcz9_4
    try clear hfz11_0
    try clear hfz11_1
    try clear hfz11_2
    try clear hfz11_3
    try clear hfz11_4
    try clear hfz7_0
    try clear hfz7_1
    try clear hfz7_2
    try clear hfz7_3
    try clear hfz7_4
    try clear hfz9_0
    try clear hfz9_1
    try clear hfz9_2
    try clear hfz9_3
    try clear hfz9_4
    obtain ⟨kq, x15_1, rfl, HA, HJ1, BK101, HB⟩ := hcut
    cases kq with
    | zero => exact absurd HA.out (by simp [spec_MostShear.j0])
    | succ kj1 =>
      have H := HA.out
      clear HA
      simp only [spec_MostShear.j0] at H
      by_cases c13 : x15_1 = true
      · subst c13
        have H1 : (some (0, false)) = some (r1, r2) := by rw [if_pos rfl] at H; exact H
        clear H
        have H := H1
        clear H1
        simp only [Option.some.injEq, Prod.mk.injEq] at H
        obtain ⟨rfl, rfl⟩ := H
        go_wp2
        go_ret2
        exact ⟨by first | rfl | (simp [errW_none, errW_some] <;> rfl) | (simp [*, errW_none, errW_some] <;> rfl), by exact eS HB.out⟩
      · replace c13 := Bool.eq_false_iff.mpr c13
        subst c13
        have H1 : (spec_MostShear.l0 kj1 0 1 a0_0 a0_1 a0_2 a0_3 a0_4) = some (r1, r2) := by rw [if_neg (show ¬ (false = true) by decide)] at H; exact H
        clear H
        have H := H1
        clear H1
        have H' := Aside0.mk H
        clear H
        go_wp2
        go_loopg [4, 5] kj1 (fun kq v4 v5 w' => ∃ (x4_2 : Int) (x5_2 : Int), v4 = .int .i64 x4_2 ∧ v5 = .int .i64 x5_2 ∧ Aside0 (spec_MostShear.l0 kq x4_2 x5_2 a0_0 a0_1 a0_2 a0_3 a0_4 = some (r1, r2)) ∧ Aside0 (kq ≤ kj1) ∧ Aside0 (w'.heap[gb101]? = some (.cells #[.int .i64 a0_0, .int .i64 a0_1, .int .i64 a0_2, .int .i64 a0_3, .int .i64 a0_4] 25 (0, 0))) ∧ Aside0 (Below w.heap.size w w'))
        case atStart => exact ⟨(0), (1), (by first | rfl | (simp; done) | (simp [*]; done)), (by first | rfl | (simp; done) | (simp [*]; done)), H', ⟨Nat.le_refl _⟩, ⟨by exact bS BK101.out⟩, ⟨by exact eS HB.out⟩⟩
        case round =>
          clear H'
          try clear c1
          try clear c2
          try clear p2
          try clear c5
          try clear c13
          try clear hcz11_0
          try clear hcz11_1
          try clear hcz11_2
          try clear hcz11_3
          try clear hcz11_4
          try clear hcz7_0
          try clear hcz7_1
          try clear hcz7_2
          try clear hcz7_3
          try clear hcz7_4
          try clear hcz9_0
          try clear hcz9_1
          try clear hcz9_2
          try clear hcz9_3
          try clear hcz9_4
          try clear hfz11_0
          try clear hfz11_1
          try clear hfz11_2
          try clear hfz11_3
          try clear hfz11_4
          try clear hfz7_0
          try clear hfz7_1
          try clear hfz7_2
          try clear hfz7_3
          try clear hfz7_4
          try clear hfz9_0
          try clear hfz9_1
          try clear hfz9_2
          try clear hfz9_3
          try clear hfz9_4
          try clear p2
          obtain ⟨x4_2, x5_2, rfl, rfl, HA, HK2, BK101, HB⟩ := hrel
          cases gk with
          | zero => exact absurd HA.out (by simp [spec_MostShear.l0])
          | succ k2 =>
            have H := HA.out
            clear HA
            simp only [spec_MostShear.l0] at H
            by_cases c14 : x5_2 ≤ 20
            · rw [if_pos c14] at H
              have c14b0 : decide (x5_2 ≤ 20) = true := decide_eq_true c14
              clear c14
              replace H := Option.bind_eq_some_iff.mp H
              obtain ⟨⟨t104, t105, t106, t107, t108, t109⟩, A150, H⟩ := H
              replace H : (if t109 = true then (spec_MostShear.l0 k2 x5_2 (wrap64 (x5_2 + 1)) a0_0 a0_1 a0_2 a0_3 a0_4) else (spec_MostShear.l0 k2 x4_2 (wrap64 (x5_2 + 1)) a0_0 a0_1 a0_2 a0_3 a0_4)) = some (r1, r2) := H
              have A15 := Aside0.mk A150
              clear A150
              by_cases c16 : t109 = true
              · subst c16
                have H1 : (spec_MostShear.l0 k2 x5_2 (wrap64 (x5_2 + 1)) a0_0 a0_1 a0_2 a0_3 a0_4) = some (r1, r2) := by rw [if_pos rfl] at H; exact H
                clear H
                have H := H1
                clear H1
                have H' := Aside0.mk H
                clear H
                have hcz17_0 : wr.cell? ⟨gb101, 0, none⟩ = some (.int .i64 a0_0) := (blk_cell BK101.out 0).trans rfl
                have hcz17_1 : wr.cell? ⟨gb101, 1, none⟩ = some (.int .i64 a0_1) := (blk_cell BK101.out 1).trans rfl
                have hcz17_2 : wr.cell? ⟨gb101, 2, none⟩ = some (.int .i64 a0_2) := (blk_cell BK101.out 2).trans rfl
                have hcz17_3 : wr.cell? ⟨gb101, 3, none⟩ = some (.int .i64 a0_3) := (blk_cell BK101.out 3).trans rfl
                have hcz17_4 : wr.cell? ⟨gb101, 4, none⟩ = some (.int .i64 a0_4) := (blk_cell BK101.out 4).trans rfl
                have hfz17_0 := blk_frozen BK101.out 0
                have hfz17_1 := blk_frozen BK101.out 1
                have hfz17_2 := blk_frozen BK101.out 2
                have hfz17_3 := blk_frozen BK101.out 3
                have hfz17_4 := blk_frozen BK101.out 4
                go_wp2_with (first | ((with_reducible refine gate_callee (f := 60) rfl ?_); refine goesL_ (some 23) rfl rfl Try.func60 (by kernel_rfl) rfl #[.agg #[.int .i64 a0_0, .int .i64 a0_1, .int .i64 a0_2, .int .i64 a0_3, .int .i64 a0_4], .int .i64 x5_2] rfl (by (try simp only [List.map_toArray, List.map_cons, List.map_nil]); first | done | rfl | (simp only [List.length_drop, List.length_take]; rfl)) ?_; (with_reducible refine (spec_l18Shorn.calls a0_0 a0_1 a0_2 a0_3 a0_4 x5_2 t104 t105 t106 t107 t108 true _ A15.out).mono ?_); rintro e w18 ⟨rfl, hb⟩; refine ⟨_, rfl, ?_⟩; have n0_ := Aside0.mk (blk_below (bS BK101.out) hb); have n1_ := Aside0.mk (below_step (by exact eS HB.out) hb); clear BK101; clear HB; have BK101 := n0_; have HB := n1_; clear n0_ n1_; (try clear hb); (try clear hb2); (try clear hk); (try clear hi)) | ((with_reducible refine gate_dst (N := 6) rfl ?_); refine box_event ?hg (N := 6) ?hd (cs := #[.int .i64 0, .int .i64 0, .int .i64 0, .int .i64 0, .int .i64 0]) (t := 25) ?hr ?_; (case hd => rfl); (case hg => rfl); (case hr => first | (go_simp; done) | (go_simp; rfl)); intro gb110 hg w19 hbox hb; have n0_ := Aside0.mk (blk_below (bS BK101.out) hb); have n1_ := Aside0.mk (below_step (by exact eS HB.out) hb); have n2_ := Aside0.mk (hbox); have n3_ := Aside0.mk ((by rw [hg]; exact (below_size (by exact eS HB.out)) : w.heap.size ≤ gb110)); have n4_ := Aside0.mk ((by rw [hg]; exact (below_size (by exact eS HB.out)) : w.heap.size ≤ gb110)); have n5_ := Aside0.mk ((by rw [hg]; exact Nat.ne_of_lt (blk_lt (bS BK101.out)) : gb101 ≠ gb110)); have n6_ := Aside0.mk ((by rw [hg]; exact Nat.ne_of_gt (blk_lt (bS BK101.out)) : gb110 ≠ gb101)); clear BK101; clear HB; have BK101 := n0_; have HB := n1_; have BK110 := n2_; have GW110 := n3_; have GE110 := n4_; have NB101_110 := n5_; have NB110_101 := n6_; clear n0_ n1_ n2_ n3_ n4_ n5_ n6_; clear hb hbox hg; have hnb20 := NB110_101.out; have hnc20 := NB101_110.out; have hcz21_0 : w19.cell? ⟨gb110, 0, none⟩ = some (.int .i64 0) := (blk_cell BK110.out 0).trans rfl; have hcz21_1 : w19.cell? ⟨gb110, 1, none⟩ = some (.int .i64 0) := (blk_cell BK110.out 1).trans rfl; have hcz21_2 : w19.cell? ⟨gb110, 2, none⟩ = some (.int .i64 0) := (blk_cell BK110.out 2).trans rfl; have hcz21_3 : w19.cell? ⟨gb110, 3, none⟩ = some (.int .i64 0) := (blk_cell BK110.out 3).trans rfl; have hcz21_4 : w19.cell? ⟨gb110, 4, none⟩ = some (.int .i64 0) := (blk_cell BK110.out 4).trans rfl; have hfz21_0 := blk_frozen BK110.out 0; have hfz21_1 := blk_frozen BK110.out 1; have hfz21_2 := blk_frozen BK110.out 2; have hfz21_3 := blk_frozen BK110.out 3; have hfz21_4 := blk_frozen BK110.out 4))
                go_roundg k2
                case measure => have := HJ1.out; have := HK2.out; omega
                case rel => exact ⟨(x5_2), (wrap64 (x5_2 + 1)), (by first | rfl | (simp; done) | (simp [*]; done)), (by first | rfl | (simp; done) | (simp [*]; done)), H', ⟨by have := HJ1.out; have := HK2.out; omega⟩, ⟨by (with_reducible repeat (first | refine blk_drewN ?_ _ | refine blk_drew ?_ | refine blk_alloc ?_ _)); refine blk_far ?_ NB101_110.out _; (with_reducible repeat (first | refine blk_drewN ?_ _ | refine blk_drew ?_ | refine blk_alloc ?_ _)); refine blk_far ?_ NB101_110.out _; (with_reducible repeat (first | refine blk_drewN ?_ _ | refine blk_drew ?_ | refine blk_alloc ?_ _)); refine blk_far ?_ NB101_110.out _; (with_reducible repeat (first | refine blk_drewN ?_ _ | refine blk_drew ?_ | refine blk_alloc ?_ _)); refine blk_far ?_ NB101_110.out _; (with_reducible repeat (first | refine blk_drewN ?_ _ | refine blk_drew ?_ | refine blk_alloc ?_ _)); refine blk_far ?_ NB101_110.out _; exact bS BK101.out⟩, ⟨by repeat (first | (with_reducible first | exact HB.out | apply below_alloc | apply pw_below_drewN | apply below_drew1 | refine below_set ?_ GE101.out | refine below_set ?_ GE110.out) | exact HB.out)⟩⟩
              · replace c16 := Bool.eq_false_iff.mpr c16
                subst c16
                have H1 : (spec_MostShear.l0 k2 x4_2 (wrap64 (x5_2 + 1)) a0_0 a0_1 a0_2 a0_3 a0_4) = some (r1, r2) := by rw [if_neg (show ¬ (false = true) by decide)] at H; exact H
                clear H
                have H := H1
                clear H1
                have H' := Aside0.mk H
                clear H
                have hcz22_0 : wr.cell? ⟨gb101, 0, none⟩ = some (.int .i64 a0_0) := (blk_cell BK101.out 0).trans rfl
                have hcz22_1 : wr.cell? ⟨gb101, 1, none⟩ = some (.int .i64 a0_1) := (blk_cell BK101.out 1).trans rfl
                have hcz22_2 : wr.cell? ⟨gb101, 2, none⟩ = some (.int .i64 a0_2) := (blk_cell BK101.out 2).trans rfl
                have hcz22_3 : wr.cell? ⟨gb101, 3, none⟩ = some (.int .i64 a0_3) := (blk_cell BK101.out 3).trans rfl
                have hcz22_4 : wr.cell? ⟨gb101, 4, none⟩ = some (.int .i64 a0_4) := (blk_cell BK101.out 4).trans rfl
                have hfz22_0 := blk_frozen BK101.out 0
                have hfz22_1 := blk_frozen BK101.out 1
                have hfz22_2 := blk_frozen BK101.out 2
                have hfz22_3 := blk_frozen BK101.out 3
                have hfz22_4 := blk_frozen BK101.out 4
                go_wp2_with (first | ((with_reducible refine gate_callee (f := 60) rfl ?_); refine goesL_ (some 23) rfl rfl Try.func60 (by kernel_rfl) rfl #[.agg #[.int .i64 a0_0, .int .i64 a0_1, .int .i64 a0_2, .int .i64 a0_3, .int .i64 a0_4], .int .i64 x5_2] rfl (by (try simp only [List.map_toArray, List.map_cons, List.map_nil]); first | done | rfl | (simp only [List.length_drop, List.length_take]; rfl)) ?_; (with_reducible refine (spec_l18Shorn.calls a0_0 a0_1 a0_2 a0_3 a0_4 x5_2 t104 t105 t106 t107 t108 false _ A15.out).mono ?_); rintro e w23 ⟨rfl, hb⟩; refine ⟨_, rfl, ?_⟩; have n0_ := Aside0.mk (blk_below (bS BK101.out) hb); have n1_ := Aside0.mk (below_step (by exact eS HB.out) hb); clear BK101; clear HB; have BK101 := n0_; have HB := n1_; clear n0_ n1_; (try clear hb); (try clear hb2); (try clear hk); (try clear hi)) | ((with_reducible refine gate_dst (N := 6) rfl ?_); refine box_event ?hg (N := 6) ?hd (cs := #[.int .i64 0, .int .i64 0, .int .i64 0, .int .i64 0, .int .i64 0]) (t := 25) ?hr ?_; (case hd => rfl); (case hg => rfl); (case hr => first | (go_simp; done) | (go_simp; rfl)); intro gb110 hg w24 hbox hb; have n0_ := Aside0.mk (blk_below (bS BK101.out) hb); have n1_ := Aside0.mk (below_step (by exact eS HB.out) hb); have n2_ := Aside0.mk (hbox); have n3_ := Aside0.mk ((by rw [hg]; exact (below_size (by exact eS HB.out)) : w.heap.size ≤ gb110)); have n4_ := Aside0.mk ((by rw [hg]; exact (below_size (by exact eS HB.out)) : w.heap.size ≤ gb110)); have n5_ := Aside0.mk ((by rw [hg]; exact Nat.ne_of_lt (blk_lt (bS BK101.out)) : gb101 ≠ gb110)); have n6_ := Aside0.mk ((by rw [hg]; exact Nat.ne_of_gt (blk_lt (bS BK101.out)) : gb110 ≠ gb101)); clear BK101; clear HB; have BK101 := n0_; have HB := n1_; have BK110 := n2_; have GW110 := n3_; have GE110 := n4_; have NB101_110 := n5_; have NB110_101 := n6_; clear n0_ n1_ n2_ n3_ n4_ n5_ n6_; clear hb hbox hg; have hnb25 := NB110_101.out; have hnc25 := NB101_110.out; have hcz26_0 : w24.cell? ⟨gb110, 0, none⟩ = some (.int .i64 0) := (blk_cell BK110.out 0).trans rfl; have hcz26_1 : w24.cell? ⟨gb110, 1, none⟩ = some (.int .i64 0) := (blk_cell BK110.out 1).trans rfl; have hcz26_2 : w24.cell? ⟨gb110, 2, none⟩ = some (.int .i64 0) := (blk_cell BK110.out 2).trans rfl; have hcz26_3 : w24.cell? ⟨gb110, 3, none⟩ = some (.int .i64 0) := (blk_cell BK110.out 3).trans rfl; have hcz26_4 : w24.cell? ⟨gb110, 4, none⟩ = some (.int .i64 0) := (blk_cell BK110.out 4).trans rfl; have hfz26_0 := blk_frozen BK110.out 0; have hfz26_1 := blk_frozen BK110.out 1; have hfz26_2 := blk_frozen BK110.out 2; have hfz26_3 := blk_frozen BK110.out 3; have hfz26_4 := blk_frozen BK110.out 4))
                go_roundg k2
                case measure => have := HJ1.out; have := HK2.out; omega
                case rel => exact ⟨(x4_2), (wrap64 (x5_2 + 1)), (by first | rfl | (simp; done) | (simp [*]; done)), (by first | rfl | (simp; done) | (simp [*]; done)), H', ⟨by have := HJ1.out; have := HK2.out; omega⟩, ⟨by (with_reducible repeat (first | refine blk_drewN ?_ _ | refine blk_drew ?_ | refine blk_alloc ?_ _)); refine blk_far ?_ NB101_110.out _; (with_reducible repeat (first | refine blk_drewN ?_ _ | refine blk_drew ?_ | refine blk_alloc ?_ _)); refine blk_far ?_ NB101_110.out _; (with_reducible repeat (first | refine blk_drewN ?_ _ | refine blk_drew ?_ | refine blk_alloc ?_ _)); refine blk_far ?_ NB101_110.out _; (with_reducible repeat (first | refine blk_drewN ?_ _ | refine blk_drew ?_ | refine blk_alloc ?_ _)); refine blk_far ?_ NB101_110.out _; (with_reducible repeat (first | refine blk_drewN ?_ _ | refine blk_drew ?_ | refine blk_alloc ?_ _)); refine blk_far ?_ NB101_110.out _; exact bS BK101.out⟩, ⟨by repeat (first | (with_reducible first | exact HB.out | apply below_alloc | apply pw_below_drewN | apply below_drew1 | refine below_set ?_ GE101.out | refine below_set ?_ GE110.out) | exact HB.out)⟩⟩
            · rw [if_neg c14] at H
              have c14b0 : decide (x5_2 ≤ 20) = false := decide_eq_false c14
              clear c14
              simp only [Option.some.injEq, Prod.mk.injEq] at H
              obtain ⟨rfl, rfl⟩ := H
              go_wp2
              go_ret2
              exact ⟨by first | rfl | (simp [errW_none, errW_some] <;> rfl) | (simp [*, errW_none, errW_some] <;> rfl), by exact eS HB.out⟩

end Go.Proofs.Ytdennkmfjkgfhaa.X

-- Qshear
namespace Go.Proofs.Ytdennkmfjkgfhaa.Pure
open Go Go.RowKit Go.Proofs Go.Proofs.Ytdennkmfjkgfhaa.X Go.Proofs.YtdennkmfjkgfhaaW.PrintWords Go.Proofs.YtdennkmfjkgfhaaW.PrintLast
set_option linter.unusedVariables false
set_option linter.unusedSimpArgs false

/-- the largest number up to n that q holds of, or 0 -/
def downM (q : Nat → Bool) : Nat → Nat
  | 0 => 0
  | n + 1 => if q (n + 1) = true then n + 1 else downM q n
theorem downM_le (q : Nat → Bool) : ∀ n, downM q n ≤ n
  | 0 => Nat.le_refl _
  | n + 1 => by have := downM_le q n; simp only [downM]; split <;> omega
theorem up_loop {α : Type} (L : Nat → Int → Int → Option α) (r : Int → Option α) (q : Nat → Bool) (n0 : Nat) (hb : n0 ≤ 1000000)
    (hs : ∀ k x (i : Nat), 1 ≤ i → i ≤ n0 → L (k + 1) x (i : Int) = if q i = true then L k (i : Int) (wrap64 ((i : Int) + 1)) else L k x (wrap64 ((i : Int) + 1)))
    (he : ∀ k x (i : Nat), n0 < i → L (k + 1) x (i : Int) = r x) :
    ∀ n k (j : Nat), j + n = n0 → n < k → L k ((downM q j : Nat) : Int) ((j + 1 : Nat) : Int) = r ((downM q n0 : Nat) : Int) := by
  intro n
  induction n with
  | zero =>
    intro k j hj hk
    obtain ⟨k, rfl, _⟩ := succ_of hk
    rw [he k _ (j + 1) (by omega), show j = n0 by omega]
  | succ n ih =>
    intro k j hj hk
    obtain ⟨k, rfl, hk⟩ := succ_of hk
    have h := ih k (j + 1) (by omega) (by omega)
    rw [hs k _ (j + 1) (by omega) (by omega), wstep (n := j + 2) (by omega) (by omega)]
    simp only [downM] at h
    cases hq : q (j + 1)
    · rw [hq] at h; simpa using h
    · rw [hq] at h; simpa using h
theorem down_loop {α : Type} (L : Nat → Int → Option α) (r : Int → Option α) (q : Nat → Bool) (n0 : Nat) (hb : n0 ≤ 1000000)
    (hs : ∀ k (i : Nat), i ≤ n0 → L (k + 1) (i : Int) = if q i = true then r (i : Int) else L k (wrap64 ((i : Int) - 1))) (h0 : q 0 = true) :
    ∀ (n : Nat) k, n ≤ n0 → n < k → L k (n : Int) = r ((downM q n : Nat) : Int) := by
  intro n
  induction n with
  | zero =>
    intro k _ hk
    obtain ⟨k, rfl, _⟩ := succ_of hk
    rw [hs k 0 (by omega), h0]; rfl
  | succ n ih =>
    intro k hn hk
    obtain ⟨k, rfl, hk⟩ := succ_of hk
    rw [hs k (n + 1) hn]
    simp only [downM]
    cases hq : q (n + 1)
    · simp only [Bool.false_eq_true, if_false]
      rw [w64 (by omega) (by omega), show ((n + 1 : Nat) : Int) - 1 = (n : Int) by omega]
      exact ih k (by omega) (by omega)
    · simp
def dryB (d w : Int) : Bool := decide (50 * w ≤ d)
theorem l18Dry_eq {d w : Int} (hw : 0 ≤ w ∧ w ≤ 400000) (i a p : Int) : spec_l18Dry.f i a d w p = some (dryB d w) := by
  unfold spec_l18Dry.f; rw [w64 (by omega) (by omega)]; rfl
theorem isDry_eq {d w : Int} (hw : 0 ≤ w ∧ w ≤ 400000) (i a p : Int) : impl_WetCarpet_isDry.f i a d w p = some (dryB d w) := by
  unfold impl_WetCarpet_isDry.f; rw [w64 (by omega) (by omega)]; rfl
theorem shorn_w {i a d w p n : Int} (h : wetB i a d w p = true) (hn : 0 ≤ n ∧ n ≤ 20) : wrap64 (d - (wrap64 ((wrap64 (a * n)) * 2))) = d - 2 * a * n ∧ wrap64 (d - (wrap64 ((wrap64 (2 * a)) * n))) = d - 2 * a * n ∧ wrap64 (p - n) = p - n := by
  have hw := wet_of h
  have h1 := mul_bd (a := a) (b := n) (A := 4000) (B := 20) (by omega) (by omega) (by omega) (by omega)
  have h2 : 2 * a * n = 2 * (a * n) := Int.mul_assoc _ _ _
  rw [w64 (x := a * n) (by omega) (by omega), w64 (x := 2 * a) (by omega) (by omega), h2, w64 (x := 2 * (a * n)) (by omega) (by omega), w64 (x := a * n * 2) (by omega) (by omega), w64 (x := p - n) (by omega) (by omega), Int.mul_comm (a * n) 2, w64 (by omega) (by omega)]
  exact ⟨rfl, rfl, rfl⟩
theorem shorn_eq {i a d w p n : Int} (h : wetB i a d w p = true) (hd : dryB d w = true) (hn : 0 ≤ n ∧ n ≤ 20) : spec_l18Shorn.f i a d w p n = some (i, a, d - 2 * a * n, w, p - n, wetB i a (d - 2 * a * n) w (p - n)) := by
  have hw := wet_of h
  obtain ⟨h1, h2, h3⟩ := shorn_w h hn
  unfold spec_l18Shorn.f
  rw [l18Dry_eq (by omega), hd, h1, h3, l18One_eq]
  rfl
theorem sheared_eq {i a d w p n : Int} (h : wetB i a d w p = true) (hn : 0 ≤ n ∧ n ≤ 20) : impl_WetCarpet_sheared.f i a d w p n = some (i, a, d - 2 * a * n, w, p - n) := by
  obtain ⟨h1, h2, h3⟩ := shorn_w h hn
  unfold impl_WetCarpet_sheared.f
  rw [h2, h3]
def shearM (i a d w p : Int) : Int × Bool := if wetB i a d w p && dryB d w then ((downM (fun n => wetB i a (d - 2 * a * n) w (p - n)) 20 : Nat), true) else (0, false)
theorem shearS_eq {k : Nat} (hk : 30 < k) (i a d w p : Int) : spec_MostShear.f k i a d w p = some (shearM i a d w p) := by
  obtain ⟨k, rfl, hk2⟩ := succ_of hk
  simp only [spec_MostShear.f, l18One_eq, Option.bind_some, shearM]
  cases hw : wetB i a d w p
  · simp [spec_MostShear.j0]
  have hw' := wet_of hw
  rw [l18Dry_eq (by omega)]
  cases hd : dryB d w
  · simp [spec_MostShear.j0]
  simp only [if_true, spec_MostShear.j0, Option.bind_some, Bool.not_true, Bool.false_eq_true, if_false, Bool.and_self]
  have := up_loop (fun k x n => spec_MostShear.l0 k x n i a d w p) (fun c => some (c, true)) (fun n => wetB i a (d - 2 * a * n) w (p - n)) 20 (by omega)
    (fun k x j h1 h2 => by simp only [spec_MostShear.l0]; rw [if_pos (by omega), shorn_eq hw hd (by omega)]; rfl)
    (fun k x j h1 => by simp only [spec_MostShear.l0]; rw [if_neg (by omega)])
    20 k 0 rfl (by omega)
  simpa [downM] using this
theorem shearI_eq {k : Nat} (hk : 30 < k) (i a d w p : Int) : impl_MostShear.f k i a d w p = some (shearM i a d w p) := by
  obtain ⟨k, rfl, hk2⟩ := succ_of hk
  simp only [impl_MostShear.f, IsWetCarpet_eq, Option.bind_some, shearM]
  cases hw : wetB i a d w p
  · simp [impl_MostShear.j0]
  have hw' := wet_of hw
  rw [isDry_eq (by omega)]
  cases hd : dryB d w
  · simp [impl_MostShear.j0]
  simp only [if_true, impl_MostShear.j0, Option.bind_some, Bool.not_true, Bool.false_eq_true, if_false, Bool.and_self]
  exact down_loop (fun k n => impl_MostShear.l0 k n i a d w p) (fun c => some (c, true)) (fun n => wetB i a (d - 2 * a * n) w (p - n)) 20 (by omega)
    (fun k j h1 => by
      simp only [impl_MostShear.l0]
      rw [sheared_eq hw (by omega)]
      simp only [Option.bind_some, IsWetCarpet_eq])
    (by simpa using hw) 20 k (by omega) (by omega)

end Go.Proofs.Ytdennkmfjkgfhaa.Pure

-- XimplceilDivF76
namespace Go.Proofs.Ytdennkmfjkgfhaa.X
open Ho (bS eS)
open Go.RowKit Go.Proofs.YtdennkmfjkgfhaaW.PrintWords Go.Proofs.YtdennkmfjkgfhaaW.PrintLast Go.Proofs.YtdennkmfjkgfhaaW.PrintMore
attribute [local go_sem] max2_int min2_int max_two min_two max_three min_three max_four min_four   -- for this text's walks alone
set_option linter.unusedVariables false
set_option linter.unusedSimpArgs false

/-! ### impl_ceilDiv: function 76 -/
def impl_ceilDiv.f (a0 : Int) (a1 : Int) : Option (Int) := if a1 = 0 then (none) else (some (wrap64 (Int.tdiv (wrap64 ((wrap64 (a0 + a1)) - 1)) a1)))
set_option maxHeartbeats 8000000 in
set_option maxRecDepth 100000 in
theorem impl_ceilDiv.calls (a0 : Int) (a1 : Int) (r : Int) (w : World) (h : impl_ceilDiv.f a0 a1 = some r) :
    Calls Try.prog 76 #[.int .i64 a0, .int .i64 a1] w fun e w' => e = .returned (.int .i64 r) ∧ Drawn0 w w' := by
  have H : (if a1 = 0 then (none) else (some (wrap64 (Int.tdiv (wrap64 ((wrap64 (a0 + a1)) - 1)) a1)))) = some r := h
  clear h
  by_cases c3 : a1 = 0
  · rw [if_pos c3] at H
    exact absurd H (by simp)
  · rw [if_neg c3] at H
    have c3b0 : (a1 == 0) = false := beq_eq_false_iff_ne.mpr c3
    have c3b1 : (a1 != 0) = true := bne_iff_ne.mpr c3
    obtain rfl := Option.some.inj H
    go_enter Try.func76, Try.ntmps76
    go_wp2
    go_ret
    exact ⟨by first | rfl | (simp; done) | (simp [*]; done), by repeat (first | exact Drawn0.refl _ | apply Drawn0.step)⟩

end Go.Proofs.Ytdennkmfjkgfhaa.X

-- XimplSpinCarpetF36
namespace Go.Proofs.Ytdennkmfjkgfhaa.X
open Ho (bS eS)
open Go.RowKit Go.Proofs.YtdennkmfjkgfhaaW.PrintWords Go.Proofs.YtdennkmfjkgfhaaW.PrintLast Go.Proofs.YtdennkmfjkgfhaaW.PrintMore
attribute [local go_sem] max2_int min2_int max_two min_two max_three min_three max_four min_four   -- for this text's walks alone
set_option linter.unusedVariables false
set_option linter.unusedSimpArgs false

attribute [local go_sem ↓] Ho.isSome_setCell_   -- a store leaves all places there
/-! ### impl_SpinCarpet: function 36 -/
def impl_SpinCarpet.f (k : Nat) (l0 : List (S25)) (a1 : Int) : Option ((List (S25)) × Int × Bool) := (impl_findCarpet.f k l0 a1).bind fun t101 => (if t101 < 0 then (some (([] : List (S25)), 0, false)) else (if 0 ≤ t101 then (if t101 < (l0.length : Int) then ((impl_ceilDiv.f ((rd_T25 l0 t101).f3) 2).bind fun t104 => ((impl_withCarpet.f l0 t101 ((rd_T25 l0 t101).f0) ((rd_T25 l0 t101).f1) ((rd_T25 l0 t101).f2) (wrap64 (((rd_T25 l0 t101).f3) - t104)) ((rd_T25 l0 t101).f4)).bind fun t105 => (some (t105, t104, true)))) else (none)) else (none)))
theorem impl_SpinCarpet.mono : ∀ a0 a1 k, LeO (impl_SpinCarpet.f k a0 a1) (impl_SpinCarpet.f (k + 1) a0 a1) := by
  intro a0 a1 k
  unfold impl_SpinCarpet.f
  repeat' first
      | (with_reducible exact impl_findCarpet.mono _ _ _)
      | (with_reducible exact LeO.refl _)
      | (with_reducible exact LeO.none _)
      | (with_reducible refine LeO.ite ?_ ?_)
      | (with_reducible refine LeO.bind ?_ (fun _ => ?_))
      | exact impl_findCarpet.mono _ _ _
      | exact LeO.none _
      | refine LeO.ite ?_ ?_
      | refine LeO.bind ?_ (fun _ => ?_)
set_option maxHeartbeats 8000000 in
set_option maxRecDepth 100000 in
theorem impl_SpinCarpet.calls (k : Nat) (A0 : Option Addr) (c0 : Nat) (l0 : List (S25)) (a1 : Int) (r1 : List (S25)) (r2 : Int) (r3 : Bool) (w : World) (hr0 : Kd.C k25 w A0 l0.length l0) (hc0 : l0.length ≤ c0) (h : impl_SpinCarpet.f k l0 a1 = some (r1, r2, r3)) :
    Calls Try.prog 36 #[.slice A0 l0.length c0, .int .i64 a1] w fun e w' => ∃ v0_ : Value, e = .returned (.tuple #[v0_, .int .i64 r2, .bool r3]) ∧ Kd.R k25 25 w' w.heap.size (fun _ => True) v0_ r1 ∧ Below w.heap.size w w' := by
  have hu25 := Try.underlying25
  have HR0 := Aside0.mk hr0
  have HC0 := Aside0.mk hc0
  clear hr0 hc0
  have HB := Aside0.mk (Below.refl w.heap.size w)
  have H : ((impl_findCarpet.f k l0 a1).bind fun t101 => (if t101 < 0 then (some (([] : List (S25)), 0, false)) else (if 0 ≤ t101 then (if t101 < (l0.length : Int) then ((impl_ceilDiv.f ((rd_T25 l0 t101).f3) 2).bind fun t104 => ((impl_withCarpet.f l0 t101 ((rd_T25 l0 t101).f0) ((rd_T25 l0 t101).f1) ((rd_T25 l0 t101).f2) (wrap64 (((rd_T25 l0 t101).f3) - t104)) ((rd_T25 l0 t101).f4)).bind fun t105 => (some (t105, t104, true)))) else (none)) else (none)))) = some (r1, r2, r3) := h
  clear h
  replace H := Option.bind_eq_some_iff.mp H
  obtain ⟨t101, A30, H⟩ := H
  replace H : (if t101 < 0 then (some (([] : List (S25)), 0, false)) else (if 0 ≤ t101 then (if t101 < (l0.length : Int) then ((impl_ceilDiv.f ((rd_T25 l0 t101).f3) 2).bind fun t104 => ((impl_withCarpet.f l0 t101 ((rd_T25 l0 t101).f0) ((rd_T25 l0 t101).f1) ((rd_T25 l0 t101).f2) (wrap64 (((rd_T25 l0 t101).f3) - t104)) ((rd_T25 l0 t101).f4)).bind fun t105 => (some (t105, t104, true)))) else (none)) else (none))) = some (r1, r2, r3) := H
  have A3 := Aside0.mk A30
  clear A30
  by_cases c4 : t101 < 0
  · rw [if_pos c4] at H
    have c4b0 : decide (t101 < 0) = true := decide_eq_true c4
    clear c4
    simp only [Option.some.injEq, Prod.mk.injEq] at H
    obtain ⟨rfl, rfl, rfl⟩ := H
    go_enter Try.func36, Try.ntmps36
    go_wp2_with (first | ((with_reducible refine gate_callee (f := 74) rfl ?_); refine goesL_ (some 12) rfl rfl Try.func74 (by kernel_rfl) rfl #[.slice A0 l0.length c0, .int .i64 a1] rfl (by (try simp only [List.map_toArray, List.map_cons, List.map_nil]); first | done | rfl | (simp only [List.length_drop, List.length_take]; rfl)) ?_; (with_reducible refine (impl_findCarpet.calls k _ _ l0 a1 t101 _ ?side1 ?side2 A3.out).mono ?_); (case side1 => repeat (first | exact HR0.out | (with_reducible refine Kd.C_alloc ?_ _) | (with_reducible refine Kd.C_drewN ?_ _) | (with_reducible refine Kd.C_drew ?_))); (case side2 => exact HC0.out); rintro e w5 ⟨rfl, hb⟩; refine ⟨_, rfl, ?_⟩; have n0_ := Aside0.mk (below_step (by exact eS HB.out) hb); clear HB; have HB := n0_; clear n0_; (try clear hb); (try clear hb2); (try clear hk); (try clear hi)))
    go_ret3
    exact ⟨_, by first | rfl | (simp [errW_none, errW_some] <;> rfl) | (simp [*, errW_none, errW_some] <;> rfl), by first | exact Kd.R_nil _ _ _ _ _ | exact Kd.N_nil _ _ _ _ _ | exact Kd.V_nil _ _ _ _ _ | exact Kd.Q_nil _ _ _ _ _ | exact Kd.S_nil _ _ _ _ _, by exact eS HB.out⟩
  · rw [if_neg c4] at H
    have c4b0 : decide (t101 < 0) = false := decide_eq_false c4
    clear c4
    by_cases c6 : 0 ≤ t101
    · rw [if_pos c6] at H
      have c6b0 : decide (0 ≤ t101) = true := decide_eq_true c6
      clear c6
      by_cases c7 : t101 < (l0.length : Int)
      · rw [if_pos c7] at H
        have c7b0 : decide (t101 < (l0.length : Int)) = true := decide_eq_true c7
        clear c7
        replace H := Option.bind_eq_some_iff.mp H
        obtain ⟨t104, A80, H⟩ := H
        replace H : ((impl_withCarpet.f l0 t101 ((rd_T25 l0 t101).f0) ((rd_T25 l0 t101).f1) ((rd_T25 l0 t101).f2) (wrap64 (((rd_T25 l0 t101).f3) - t104)) ((rd_T25 l0 t101).f4)).bind fun t105 => (some (t105, t104, true))) = some (r1, r2, r3) := H
        have A8 := Aside0.mk A80
        clear A80
        replace H := Option.bind_eq_some_iff.mp H
        obtain ⟨t105, A90, H⟩ := H
        replace H : (some (t105, t104, true)) = some (r1, r2, r3) := H
        have A9 := Aside0.mk A90
        clear A90
        simp only [Option.some.injEq, Prod.mk.injEq] at H
        obtain ⟨rfl, rfl, rfl⟩ := H
        go_enter Try.func36, Try.ntmps36
        go_wp2_with (first | ((with_reducible refine gate_callee (f := 74) rfl ?_); refine goesL_ (some 12) rfl rfl Try.func74 (by kernel_rfl) rfl #[.slice A0 l0.length c0, .int .i64 a1] rfl (by (try simp only [List.map_toArray, List.map_cons, List.map_nil]); first | done | rfl | (simp only [List.length_drop, List.length_take]; rfl)) ?_; (with_reducible refine (impl_findCarpet.calls k _ _ l0 a1 t101 _ ?side1 ?side2 A3.out).mono ?_); (case side1 => repeat (first | exact HR0.out | (with_reducible refine Kd.C_alloc ?_ _) | (with_reducible refine Kd.C_drewN ?_ _) | (with_reducible refine Kd.C_drew ?_))); (case side2 => exact HC0.out); rintro e w10 ⟨rfl, hb⟩; refine ⟨_, rfl, ?_⟩; have n0_ := Aside0.mk (below_step (by exact eS HB.out) hb); clear HB; have HB := n0_; clear n0_; (try clear hb); (try clear hb2); (try clear hk); (try clear hi); have p102 : 0 ≤ (t101 : Int) := of_decide_eq_true (by first | (with_reducible assumption) | assumption); have q102 : t101 < (l0.length : Int) := of_decide_eq_true (by first | (with_reducible assumption) | assumption); obtain ⟨ad102, e102, hx102_0, hx102_1, hx102_2, hx102_3, hx102_4⟩ := at_T25 HR0.out t101 p102 q102; cases e102; replace hx102_0 := (HB.out.cell (World.block_lt_of_cell? w _ hx102_0)).trans hx102_0; replace hx102_1 := (HB.out.cell (World.block_lt_of_cell? w _ hx102_1)).trans hx102_1; replace hx102_2 := (HB.out.cell (World.block_lt_of_cell? w _ hx102_2)).trans hx102_2; replace hx102_3 := (HB.out.cell (World.block_lt_of_cell? w _ hx102_3)).trans hx102_3; replace hx102_4 := (HB.out.cell (World.block_lt_of_cell? w _ hx102_4)).trans hx102_4; replace p102 := eq_true p102; replace q102 := eq_true q102) | ((with_reducible refine gate_dst (N := 8) rfl ?_); refine box_event ?hg (N := 8) ?hd (cs := #[.int .i64 0, .int .i64 0, .int .i64 0, .int .i64 0, .int .i64 0]) (t := 25) ?hr ?_; (case hd => rfl); (case hg => rfl); (case hr => first | (go_simp; done) | (go_simp; rfl)); intro gb103 hg w11 hbox hb; have n0_ := Aside0.mk (below_step (by exact eS HB.out) hb); have n1_ := Aside0.mk (hbox); have n2_ := Aside0.mk ((by rw [hg]; exact (below_size (by exact eS HB.out)) : w.heap.size ≤ gb103)); have n3_ := Aside0.mk ((by rw [hg]; exact (below_size (by exact eS HB.out)) : w.heap.size ≤ gb103)); clear HB; have HB := n0_; have BK103 := n1_; have GW103 := n2_; have GE103 := n3_; clear n0_ n1_ n2_ n3_; clear hb hbox hg; have hcz12_0 : w11.cell? ⟨gb103, 0, none⟩ = some (.int .i64 0) := (blk_cell BK103.out 0).trans rfl; have hcz12_1 : w11.cell? ⟨gb103, 1, none⟩ = some (.int .i64 0) := (blk_cell BK103.out 1).trans rfl; have hcz12_2 : w11.cell? ⟨gb103, 2, none⟩ = some (.int .i64 0) := (blk_cell BK103.out 2).trans rfl; have hcz12_3 : w11.cell? ⟨gb103, 3, none⟩ = some (.int .i64 0) := (blk_cell BK103.out 3).trans rfl; have hcz12_4 : w11.cell? ⟨gb103, 4, none⟩ = some (.int .i64 0) := (blk_cell BK103.out 4).trans rfl; have hfz12_0 := blk_frozen BK103.out 0; have hfz12_1 := blk_frozen BK103.out 1; have hfz12_2 := blk_frozen BK103.out 2; have hfz12_3 := blk_frozen BK103.out 3; have hfz12_4 := blk_frozen BK103.out 4) | ((with_reducible refine gate_callee (f := 76) rfl ?_); refine goesL_ (some 21) rfl rfl Try.func76 (by kernel_rfl) rfl #[.int .i64 ((rd_T25 l0 t101).f3), .int .i64 2] rfl (by (try simp only [List.map_toArray, List.map_cons, List.map_nil]); first | done | rfl | (simp only [List.length_drop, List.length_take]; rfl)) ?_; (with_reducible refine (impl_ceilDiv.calls ((rd_T25 l0 t101).f3) 2 t104 _ A8.out).mono ?_); rintro e w' ⟨rfl, ⟨nd, rfl⟩⟩; refine ⟨_, rfl, ?_⟩) | ((with_reducible refine gate_callee (f := 75) rfl ?_); refine goesL_ (some 30) rfl rfl Try.func75 (by kernel_rfl) rfl #[.slice (some ad102) l0.length c0, .int .i64 t101, .agg #[.int .i64 ((rd_T25 l0 t101).f0), .int .i64 ((rd_T25 l0 t101).f1), .int .i64 ((rd_T25 l0 t101).f2), .int .i64 (wrap64 (((rd_T25 l0 t101).f3) - t104)), .int .i64 ((rd_T25 l0 t101).f4)]] rfl (by (try simp only [List.map_toArray, List.map_cons, List.map_nil]); first | done | rfl | (simp only [List.length_drop, List.length_take]; rfl)) ?_; (with_reducible refine (impl_withCarpet.calls _ _ l0 t101 ((rd_T25 l0 t101).f0) ((rd_T25 l0 t101).f1) ((rd_T25 l0 t101).f2) (wrap64 (((rd_T25 l0 t101).f3) - t104)) ((rd_T25 l0 t101).f4) t105 _ ?side1 ?side2 A9.out).mono ?_); (case side1 => exact Kd.C_below HR0.out (by repeat (first | (with_reducible first | exact HB.out | apply below_alloc | apply pw_below_drewN | apply below_drew1 | refine below_set ?_ GE103.out) | exact HB.out))); (case side2 => exact HC0.out); rintro e w13 ⟨v106, rfl, ho0, hb⟩; refine ⟨_, rfl, ?_⟩; have n0_ := Aside0.mk (Kd.R_lower (Kd.R_newB ho0 (g := gb103) (o := .cells #[.int .i64 ((rd_T25 l0 t101).f0), .int .i64 ((rd_T25 l0 t101).f1), .int .i64 ((rd_T25 l0 t101).f2), .int .i64 (wrap64 (((rd_T25 l0 t101).f3) - t104)), .int .i64 ((rd_T25 l0 t101).f4)] 25 (0, 0)) (by (with_reducible repeat (first | refine blk_drewN ?_ _ | refine blk_drew ?_ | refine blk_alloc ?_ _)); refine blk_put (cs := #[.int .i64 ((rd_T25 l0 t101).f0), .int .i64 ((rd_T25 l0 t101).f1), .int .i64 ((rd_T25 l0 t101).f2), .int .i64 ((rd_T25 l0 t101).f3), .int .i64 ((rd_T25 l0 t101).f4)]) ?_ 3 _ rfl; (with_reducible repeat (first | refine blk_drewN ?_ _ | refine blk_drew ?_ | refine blk_alloc ?_ _)); refine blk_put (cs := #[.int .i64 ((rd_T25 l0 t101).f0), .int .i64 ((rd_T25 l0 t101).f1), .int .i64 ((rd_T25 l0 t101).f2), .int .i64 ((rd_T25 l0 t101).f3), .int .i64 0]) ?_ 4 _ rfl; (with_reducible repeat (first | refine blk_drewN ?_ _ | refine blk_drew ?_ | refine blk_alloc ?_ _)); refine blk_put (cs := #[.int .i64 ((rd_T25 l0 t101).f0), .int .i64 ((rd_T25 l0 t101).f1), .int .i64 ((rd_T25 l0 t101).f2), .int .i64 0, .int .i64 0]) ?_ 3 _ rfl; (with_reducible repeat (first | refine blk_drewN ?_ _ | refine blk_drew ?_ | refine blk_alloc ?_ _)); refine blk_put (cs := #[.int .i64 ((rd_T25 l0 t101).f0), .int .i64 ((rd_T25 l0 t101).f1), .int .i64 0, .int .i64 0, .int .i64 0]) ?_ 2 _ rfl; (with_reducible repeat (first | refine blk_drewN ?_ _ | refine blk_drew ?_ | refine blk_alloc ?_ _)); refine blk_put (cs := #[.int .i64 ((rd_T25 l0 t101).f0), .int .i64 0, .int .i64 0, .int .i64 0, .int .i64 0]) ?_ 1 _ rfl; (with_reducible repeat (first | refine blk_drewN ?_ _ | refine blk_drew ?_ | refine blk_alloc ?_ _)); refine blk_put (cs := #[.int .i64 0, .int .i64 0, .int .i64 0, .int .i64 0, .int .i64 0]) ?_ 0 _ rfl; exact bS BK103.out)) (below_size (by repeat (first | (with_reducible first | exact HB.out | apply below_alloc | apply pw_below_drewN | apply below_drew1 | refine below_set ?_ GE103.out) | exact HB.out)))); have n1_ := Aside0.mk (blk_below (g := gb103) (o := .cells #[.int .i64 ((rd_T25 l0 t101).f0), .int .i64 ((rd_T25 l0 t101).f1), .int .i64 ((rd_T25 l0 t101).f2), .int .i64 (wrap64 (((rd_T25 l0 t101).f3) - t104)), .int .i64 ((rd_T25 l0 t101).f4)] 25 (0, 0)) (by (with_reducible repeat (first | refine blk_drewN ?_ _ | refine blk_drew ?_ | refine blk_alloc ?_ _)); refine blk_put (cs := #[.int .i64 ((rd_T25 l0 t101).f0), .int .i64 ((rd_T25 l0 t101).f1), .int .i64 ((rd_T25 l0 t101).f2), .int .i64 ((rd_T25 l0 t101).f3), .int .i64 ((rd_T25 l0 t101).f4)]) ?_ 3 _ rfl; (with_reducible repeat (first | refine blk_drewN ?_ _ | refine blk_drew ?_ | refine blk_alloc ?_ _)); refine blk_put (cs := #[.int .i64 ((rd_T25 l0 t101).f0), .int .i64 ((rd_T25 l0 t101).f1), .int .i64 ((rd_T25 l0 t101).f2), .int .i64 ((rd_T25 l0 t101).f3), .int .i64 0]) ?_ 4 _ rfl; (with_reducible repeat (first | refine blk_drewN ?_ _ | refine blk_drew ?_ | refine blk_alloc ?_ _)); refine blk_put (cs := #[.int .i64 ((rd_T25 l0 t101).f0), .int .i64 ((rd_T25 l0 t101).f1), .int .i64 ((rd_T25 l0 t101).f2), .int .i64 0, .int .i64 0]) ?_ 3 _ rfl; (with_reducible repeat (first | refine blk_drewN ?_ _ | refine blk_drew ?_ | refine blk_alloc ?_ _)); refine blk_put (cs := #[.int .i64 ((rd_T25 l0 t101).f0), .int .i64 ((rd_T25 l0 t101).f1), .int .i64 0, .int .i64 0, .int .i64 0]) ?_ 2 _ rfl; (with_reducible repeat (first | refine blk_drewN ?_ _ | refine blk_drew ?_ | refine blk_alloc ?_ _)); refine blk_put (cs := #[.int .i64 ((rd_T25 l0 t101).f0), .int .i64 0, .int .i64 0, .int .i64 0, .int .i64 0]) ?_ 1 _ rfl; (with_reducible repeat (first | refine blk_drewN ?_ _ | refine blk_drew ?_ | refine blk_alloc ?_ _)); refine blk_put (cs := #[.int .i64 0, .int .i64 0, .int .i64 0, .int .i64 0, .int .i64 0]) ?_ 0 _ rfl; exact bS BK103.out) hb); have n2_ := Aside0.mk (below_step (by repeat (first | (with_reducible first | exact HB.out | apply below_alloc | apply pw_below_drewN | apply below_drew1 | refine below_set ?_ GE103.out) | exact HB.out)) hb); clear BK103; clear HB; have HO107 := n0_; have BK103 := n1_; have HB := n2_; clear n0_ n1_ n2_; (try clear hb); (try clear hb2); (try clear hk); (try clear hi); (try clear ho0)))
        go_ret3
        exact ⟨_, by first | rfl | (simp [errW_none, errW_some] <;> rfl) | (simp [*, errW_none, errW_some] <;> rfl), by exact Ho.RS <| Kd.R_mono HO107.out (fun _ hk => trivial), by exact eS HB.out⟩
      · rw [if_neg c7] at H
        exact absurd H (by simp)
    · rw [if_neg c6] at H
      exact absurd H (by simp)

end Go.Proofs.Ytdennkmfjkgfhaa.X

-- XimplWashCarpetF32
namespace Go.Proofs.Ytdennkmfjkgfhaa.X
open Ho (bS eS)
open Go.RowKit Go.Proofs.YtdennkmfjkgfhaaW.PrintWords Go.Proofs.YtdennkmfjkgfhaaW.PrintLast Go.Proofs.YtdennkmfjkgfhaaW.PrintMore
attribute [local go_sem] max2_int min2_int max_two min_two max_three min_three max_four min_four   -- for this text's walks alone
set_option linter.unusedVariables false
set_option linter.unusedSimpArgs false

attribute [local go_sem ↓] Ho.isSome_setCell_   -- a store leaves all places there
/-! ### impl_WashCarpet: function 32 -/
def impl_WashCarpet.f (k : Nat) (l0 : List (S25)) (a1 : Int) : Option ((List (S25)) × Int × Bool) := (impl_findCarpet.f k l0 a1).bind fun t101 => (if t101 < 0 then (some (([] : List (S25)), 0, false)) else (if 0 ≤ t101 then (if t101 < (l0.length : Int) then ((impl_withCarpet.f l0 t101 ((rd_T25 l0 t101).f0) ((rd_T25 l0 t101).f1) ((rd_T25 l0 t101).f2) (wrap64 (((rd_T25 l0 t101).f3) + (wrap64 ((wrap64 (2 * ((rd_T25 l0 t101).f2))) - ((rd_T25 l0 t101).f3))))) ((rd_T25 l0 t101).f4)).bind fun t104 => (some (t104, wrap64 ((wrap64 (2 * ((rd_T25 l0 t101).f2))) - ((rd_T25 l0 t101).f3)), true))) else (none)) else (none)))
theorem impl_WashCarpet.mono : ∀ a0 a1 k, LeO (impl_WashCarpet.f k a0 a1) (impl_WashCarpet.f (k + 1) a0 a1) := by
  intro a0 a1 k
  unfold impl_WashCarpet.f
  repeat' first
      | (with_reducible exact impl_findCarpet.mono _ _ _)
      | (with_reducible exact LeO.refl _)
      | (with_reducible exact LeO.none _)
      | (with_reducible refine LeO.ite ?_ ?_)
      | (with_reducible refine LeO.bind ?_ (fun _ => ?_))
      | exact impl_findCarpet.mono _ _ _
      | exact LeO.none _
      | refine LeO.ite ?_ ?_
      | refine LeO.bind ?_ (fun _ => ?_)
set_option maxHeartbeats 8000000 in
set_option maxRecDepth 100000 in
theorem impl_WashCarpet.calls (k : Nat) (A0 : Option Addr) (c0 : Nat) (l0 : List (S25)) (a1 : Int) (r1 : List (S25)) (r2 : Int) (r3 : Bool) (w : World) (hr0 : Kd.C k25 w A0 l0.length l0) (hc0 : l0.length ≤ c0) (h : impl_WashCarpet.f k l0 a1 = some (r1, r2, r3)) :
    Calls Try.prog 32 #[.slice A0 l0.length c0, .int .i64 a1] w fun e w' => ∃ v0_ : Value, e = .returned (.tuple #[v0_, .int .i64 r2, .bool r3]) ∧ Kd.R k25 25 w' w.heap.size (fun _ => True) v0_ r1 ∧ Below w.heap.size w w' := by
  have hu25 := Try.underlying25
  have HR0 := Aside0.mk hr0
  have HC0 := Aside0.mk hc0
  clear hr0 hc0
  have HB := Aside0.mk (Below.refl w.heap.size w)
  have H : ((impl_findCarpet.f k l0 a1).bind fun t101 => (if t101 < 0 then (some (([] : List (S25)), 0, false)) else (if 0 ≤ t101 then (if t101 < (l0.length : Int) then ((impl_withCarpet.f l0 t101 ((rd_T25 l0 t101).f0) ((rd_T25 l0 t101).f1) ((rd_T25 l0 t101).f2) (wrap64 (((rd_T25 l0 t101).f3) + (wrap64 ((wrap64 (2 * ((rd_T25 l0 t101).f2))) - ((rd_T25 l0 t101).f3))))) ((rd_T25 l0 t101).f4)).bind fun t104 => (some (t104, wrap64 ((wrap64 (2 * ((rd_T25 l0 t101).f2))) - ((rd_T25 l0 t101).f3)), true))) else (none)) else (none)))) = some (r1, r2, r3) := h
  clear h
  replace H := Option.bind_eq_some_iff.mp H
  obtain ⟨t101, A30, H⟩ := H
  replace H : (if t101 < 0 then (some (([] : List (S25)), 0, false)) else (if 0 ≤ t101 then (if t101 < (l0.length : Int) then ((impl_withCarpet.f l0 t101 ((rd_T25 l0 t101).f0) ((rd_T25 l0 t101).f1) ((rd_T25 l0 t101).f2) (wrap64 (((rd_T25 l0 t101).f3) + (wrap64 ((wrap64 (2 * ((rd_T25 l0 t101).f2))) - ((rd_T25 l0 t101).f3))))) ((rd_T25 l0 t101).f4)).bind fun t104 => (some (t104, wrap64 ((wrap64 (2 * ((rd_T25 l0 t101).f2))) - ((rd_T25 l0 t101).f3)), true))) else (none)) else (none))) = some (r1, r2, r3) := H
  have A3 := Aside0.mk A30
  clear A30
  by_cases c4 : t101 < 0
  · rw [if_pos c4] at H
    have c4b0 : decide (t101 < 0) = true := decide_eq_true c4
    clear c4
    simp only [Option.some.injEq, Prod.mk.injEq] at H
    obtain ⟨rfl, rfl, rfl⟩ := H
    go_enter Try.func32, Try.ntmps32
    go_wp2_with (first | ((with_reducible refine gate_callee (f := 74) rfl ?_); refine goesL_ (some 12) rfl rfl Try.func74 (by kernel_rfl) rfl #[.slice A0 l0.length c0, .int .i64 a1] rfl (by (try simp only [List.map_toArray, List.map_cons, List.map_nil]); first | done | rfl | (simp only [List.length_drop, List.length_take]; rfl)) ?_; (with_reducible refine (impl_findCarpet.calls k _ _ l0 a1 t101 _ ?side1 ?side2 A3.out).mono ?_); (case side1 => repeat (first | exact HR0.out | (with_reducible refine Kd.C_alloc ?_ _) | (with_reducible refine Kd.C_drewN ?_ _) | (with_reducible refine Kd.C_drew ?_))); (case side2 => exact HC0.out); rintro e w5 ⟨rfl, hb⟩; refine ⟨_, rfl, ?_⟩; have n0_ := Aside0.mk (below_step (by exact eS HB.out) hb); clear HB; have HB := n0_; clear n0_; (try clear hb); (try clear hb2); (try clear hk); (try clear hi)))
    go_ret3
    exact ⟨_, by first | rfl | (simp [errW_none, errW_some] <;> rfl) | (simp [*, errW_none, errW_some] <;> rfl), by first | exact Kd.R_nil _ _ _ _ _ | exact Kd.N_nil _ _ _ _ _ | exact Kd.V_nil _ _ _ _ _ | exact Kd.Q_nil _ _ _ _ _ | exact Kd.S_nil _ _ _ _ _, by exact eS HB.out⟩
  · rw [if_neg c4] at H
    have c4b0 : decide (t101 < 0) = false := decide_eq_false c4
    clear c4
    by_cases c6 : 0 ≤ t101
    · rw [if_pos c6] at H
      have c6b0 : decide (0 ≤ t101) = true := decide_eq_true c6
      clear c6
      by_cases c7 : t101 < (l0.length : Int)
      · rw [if_pos c7] at H
        have c7b0 : decide (t101 < (l0.length : Int)) = true := decide_eq_true c7
        clear c7
        replace H := Option.bind_eq_some_iff.mp H
        obtain ⟨t104, A80, H⟩ := H
        replace H : (some (t104, wrap64 ((wrap64 (2 * ((rd_T25 l0 t101).f2))) - ((rd_T25 l0 t101).f3)), true)) = some (r1, r2, r3) := H
        have A8 := Aside0.mk A80
        clear A80
        simp only [Option.some.injEq, Prod.mk.injEq] at H
        obtain ⟨rfl, rfl, rfl⟩ := H
        go_enter Try.func32, Try.ntmps32
        go_wp2_with (first | ((with_reducible refine gate_callee (f := 74) rfl ?_); refine goesL_ (some 12) rfl rfl Try.func74 (by kernel_rfl) rfl #[.slice A0 l0.length c0, .int .i64 a1] rfl (by (try simp only [List.map_toArray, List.map_cons, List.map_nil]); first | done | rfl | (simp only [List.length_drop, List.length_take]; rfl)) ?_; (with_reducible refine (impl_findCarpet.calls k _ _ l0 a1 t101 _ ?side1 ?side2 A3.out).mono ?_); (case side1 => repeat (first | exact HR0.out | (with_reducible refine Kd.C_alloc ?_ _) | (with_reducible refine Kd.C_drewN ?_ _) | (with_reducible refine Kd.C_drew ?_))); (case side2 => exact HC0.out); rintro e w9 ⟨rfl, hb⟩; refine ⟨_, rfl, ?_⟩; have n0_ := Aside0.mk (below_step (by exact eS HB.out) hb); clear HB; have HB := n0_; clear n0_; (try clear hb); (try clear hb2); (try clear hk); (try clear hi); have p102 : 0 ≤ (t101 : Int) := of_decide_eq_true (by first | (with_reducible assumption) | assumption); have q102 : t101 < (l0.length : Int) := of_decide_eq_true (by first | (with_reducible assumption) | assumption); obtain ⟨ad102, e102, hx102_0, hx102_1, hx102_2, hx102_3, hx102_4⟩ := at_T25 HR0.out t101 p102 q102; cases e102; replace hx102_0 := (HB.out.cell (World.block_lt_of_cell? w _ hx102_0)).trans hx102_0; replace hx102_1 := (HB.out.cell (World.block_lt_of_cell? w _ hx102_1)).trans hx102_1; replace hx102_2 := (HB.out.cell (World.block_lt_of_cell? w _ hx102_2)).trans hx102_2; replace hx102_3 := (HB.out.cell (World.block_lt_of_cell? w _ hx102_3)).trans hx102_3; replace hx102_4 := (HB.out.cell (World.block_lt_of_cell? w _ hx102_4)).trans hx102_4; replace p102 := eq_true p102; replace q102 := eq_true q102) | ((with_reducible refine gate_dst (N := 8) rfl ?_); refine box_event ?hg (N := 8) ?hd (cs := #[.int .i64 0, .int .i64 0, .int .i64 0, .int .i64 0, .int .i64 0]) (t := 25) ?hr ?_; (case hd => rfl); (case hg => rfl); (case hr => first | (go_simp; done) | (go_simp; rfl)); intro gb103 hg w10 hbox hb; have n0_ := Aside0.mk (below_step (by exact eS HB.out) hb); have n1_ := Aside0.mk (hbox); have n2_ := Aside0.mk ((by rw [hg]; exact (below_size (by exact eS HB.out)) : w.heap.size ≤ gb103)); have n3_ := Aside0.mk ((by rw [hg]; exact (below_size (by exact eS HB.out)) : w.heap.size ≤ gb103)); clear HB; have HB := n0_; have BK103 := n1_; have GW103 := n2_; have GE103 := n3_; clear n0_ n1_ n2_ n3_; clear hb hbox hg; have hcz11_0 : w10.cell? ⟨gb103, 0, none⟩ = some (.int .i64 0) := (blk_cell BK103.out 0).trans rfl; have hcz11_1 : w10.cell? ⟨gb103, 1, none⟩ = some (.int .i64 0) := (blk_cell BK103.out 1).trans rfl; have hcz11_2 : w10.cell? ⟨gb103, 2, none⟩ = some (.int .i64 0) := (blk_cell BK103.out 2).trans rfl; have hcz11_3 : w10.cell? ⟨gb103, 3, none⟩ = some (.int .i64 0) := (blk_cell BK103.out 3).trans rfl; have hcz11_4 : w10.cell? ⟨gb103, 4, none⟩ = some (.int .i64 0) := (blk_cell BK103.out 4).trans rfl; have hfz11_0 := blk_frozen BK103.out 0; have hfz11_1 := blk_frozen BK103.out 1; have hfz11_2 := blk_frozen BK103.out 2; have hfz11_3 := blk_frozen BK103.out 3; have hfz11_4 := blk_frozen BK103.out 4) | ((with_reducible refine gate_callee (f := 75) rfl ?_); refine goesL_ (some 33) rfl rfl Try.func75 (by kernel_rfl) rfl #[.slice (some ad102) l0.length c0, .int .i64 t101, .agg #[.int .i64 ((rd_T25 l0 t101).f0), .int .i64 ((rd_T25 l0 t101).f1), .int .i64 ((rd_T25 l0 t101).f2), .int .i64 (wrap64 (((rd_T25 l0 t101).f3) + (wrap64 ((wrap64 (2 * ((rd_T25 l0 t101).f2))) - ((rd_T25 l0 t101).f3))))), .int .i64 ((rd_T25 l0 t101).f4)]] rfl (by (try simp only [List.map_toArray, List.map_cons, List.map_nil]); first | done | rfl | (simp only [List.length_drop, List.length_take]; rfl)) ?_; (with_reducible refine (impl_withCarpet.calls _ _ l0 t101 ((rd_T25 l0 t101).f0) ((rd_T25 l0 t101).f1) ((rd_T25 l0 t101).f2) (wrap64 (((rd_T25 l0 t101).f3) + (wrap64 ((wrap64 (2 * ((rd_T25 l0 t101).f2))) - ((rd_T25 l0 t101).f3))))) ((rd_T25 l0 t101).f4) t104 _ ?side1 ?side2 A8.out).mono ?_); (case side1 => exact Kd.C_below HR0.out (by repeat (first | (with_reducible first | exact HB.out | apply below_alloc | apply pw_below_drewN | apply below_drew1 | refine below_set ?_ GE103.out) | exact HB.out))); (case side2 => exact HC0.out); rintro e w12 ⟨v105, rfl, ho0, hb⟩; refine ⟨_, rfl, ?_⟩; have n0_ := Aside0.mk (Kd.R_lower (Kd.R_newB ho0 (g := gb103) (o := .cells #[.int .i64 ((rd_T25 l0 t101).f0), .int .i64 ((rd_T25 l0 t101).f1), .int .i64 ((rd_T25 l0 t101).f2), .int .i64 (wrap64 (((rd_T25 l0 t101).f3) + (wrap64 ((wrap64 (2 * ((rd_T25 l0 t101).f2))) - ((rd_T25 l0 t101).f3))))), .int .i64 ((rd_T25 l0 t101).f4)] 25 (0, 0)) (by (with_reducible repeat (first | refine blk_drewN ?_ _ | refine blk_drew ?_ | refine blk_alloc ?_ _)); refine blk_put (cs := #[.int .i64 ((rd_T25 l0 t101).f0), .int .i64 ((rd_T25 l0 t101).f1), .int .i64 ((rd_T25 l0 t101).f2), .int .i64 ((rd_T25 l0 t101).f3), .int .i64 ((rd_T25 l0 t101).f4)]) ?_ 3 _ rfl; (with_reducible repeat (first | refine blk_drewN ?_ _ | refine blk_drew ?_ | refine blk_alloc ?_ _)); refine blk_put (cs := #[.int .i64 ((rd_T25 l0 t101).f0), .int .i64 ((rd_T25 l0 t101).f1), .int .i64 ((rd_T25 l0 t101).f2), .int .i64 ((rd_T25 l0 t101).f3), .int .i64 0]) ?_ 4 _ rfl; (with_reducible repeat (first | refine blk_drewN ?_ _ | refine blk_drew ?_ | refine blk_alloc ?_ _)); refine blk_put (cs := #[.int .i64 ((rd_T25 l0 t101).f0), .int .i64 ((rd_T25 l0 t101).f1), .int .i64 ((rd_T25 l0 t101).f2), .int .i64 0, .int .i64 0]) ?_ 3 _ rfl; (with_reducible repeat (first | refine blk_drewN ?_ _ | refine blk_drew ?_ | refine blk_alloc ?_ _)); refine blk_put (cs := #[.int .i64 ((rd_T25 l0 t101).f0), .int .i64 ((rd_T25 l0 t101).f1), .int .i64 0, .int .i64 0, .int .i64 0]) ?_ 2 _ rfl; (with_reducible repeat (first | refine blk_drewN ?_ _ | refine blk_drew ?_ | refine blk_alloc ?_ _)); refine blk_put (cs := #[.int .i64 ((rd_T25 l0 t101).f0), .int .i64 0, .int .i64 0, .int .i64 0, .int .i64 0]) ?_ 1 _ rfl; (with_reducible repeat (first | refine blk_drewN ?_ _ | refine blk_drew ?_ | refine blk_alloc ?_ _)); refine blk_put (cs := #[.int .i64 0, .int .i64 0, .int .i64 0, .int .i64 0, .int .i64 0]) ?_ 0 _ rfl; exact bS BK103.out)) (below_size (by repeat (first | (with_reducible first | exact HB.out | apply below_alloc | apply pw_below_drewN | apply below_drew1 | refine below_set ?_ GE103.out) | exact HB.out)))); have n1_ := Aside0.mk (blk_below (g := gb103) (o := .cells #[.int .i64 ((rd_T25 l0 t101).f0), .int .i64 ((rd_T25 l0 t101).f1), .int .i64 ((rd_T25 l0 t101).f2), .int .i64 (wrap64 (((rd_T25 l0 t101).f3) + (wrap64 ((wrap64 (2 * ((rd_T25 l0 t101).f2))) - ((rd_T25 l0 t101).f3))))), .int .i64 ((rd_T25 l0 t101).f4)] 25 (0, 0)) (by (with_reducible repeat (first | refine blk_drewN ?_ _ | refine blk_drew ?_ | refine blk_alloc ?_ _)); refine blk_put (cs := #[.int .i64 ((rd_T25 l0 t101).f0), .int .i64 ((rd_T25 l0 t101).f1), .int .i64 ((rd_T25 l0 t101).f2), .int .i64 ((rd_T25 l0 t101).f3), .int .i64 ((rd_T25 l0 t101).f4)]) ?_ 3 _ rfl; (with_reducible repeat (first | refine blk_drewN ?_ _ | refine blk_drew ?_ | refine blk_alloc ?_ _)); refine blk_put (cs := #[.int .i64 ((rd_T25 l0 t101).f0), .int .i64 ((rd_T25 l0 t101).f1), .int .i64 ((rd_T25 l0 t101).f2), .int .i64 ((rd_T25 l0 t101).f3), .int .i64 0]) ?_ 4 _ rfl; (with_reducible repeat (first | refine blk_drewN ?_ _ | refine blk_drew ?_ | refine blk_alloc ?_ _)); refine blk_put (cs := #[.int .i64 ((rd_T25 l0 t101).f0), .int .i64 ((rd_T25 l0 t101).f1), .int .i64 ((rd_T25 l0 t101).f2), .int .i64 0, .int .i64 0]) ?_ 3 _ rfl; (with_reducible repeat (first | refine blk_drewN ?_ _ | refine blk_drew ?_ | refine blk_alloc ?_ _)); refine blk_put (cs := #[.int .i64 ((rd_T25 l0 t101).f0), .int .i64 ((rd_T25 l0 t101).f1), .int .i64 0, .int .i64 0, .int .i64 0]) ?_ 2 _ rfl; (with_reducible repeat (first | refine blk_drewN ?_ _ | refine blk_drew ?_ | refine blk_alloc ?_ _)); refine blk_put (cs := #[.int .i64 ((rd_T25 l0 t101).f0), .int .i64 0, .int .i64 0, .int .i64 0, .int .i64 0]) ?_ 1 _ rfl; (with_reducible repeat (first | refine blk_drewN ?_ _ | refine blk_drew ?_ | refine blk_alloc ?_ _)); refine blk_put (cs := #[.int .i64 0, .int .i64 0, .int .i64 0, .int .i64 0, .int .i64 0]) ?_ 0 _ rfl; exact bS BK103.out) hb); have n2_ := Aside0.mk (below_step (by repeat (first | (with_reducible first | exact HB.out | apply below_alloc | apply pw_below_drewN | apply below_drew1 | refine below_set ?_ GE103.out) | exact HB.out)) hb); clear BK103; clear HB; have HO106 := n0_; have BK103 := n1_; have HB := n2_; clear n0_ n1_ n2_; (try clear hb); (try clear hb2); (try clear hk); (try clear hi); (try clear ho0)))
        go_ret3
        exact ⟨_, by first | rfl | (simp [errW_none, errW_some] <;> rfl) | (simp [*, errW_none, errW_some] <;> rfl), by exact Ho.RS <| Kd.R_mono HO106.out (fun _ hk => trivial), by exact eS HB.out⟩
      · rw [if_neg c7] at H
        exact absurd H (by simp)
    · rw [if_neg c6] at H
      exact absurd H (by simp)

end Go.Proofs.Ytdennkmfjkgfhaa.X

-- XspecSpinCarpetF35
namespace Go.Proofs.Ytdennkmfjkgfhaa.X
open Ho (bS eS)
open Go.RowKit Go.Proofs.YtdennkmfjkgfhaaW.PrintWords Go.Proofs.YtdennkmfjkgfhaaW.PrintLast Go.Proofs.YtdennkmfjkgfhaaW.PrintMore
attribute [local go_sem] max2_int min2_int max_two min_two max_three min_three max_four min_four   -- for this text's walks alone
set_option linter.unusedVariables false
set_option linter.unusedSimpArgs false

attribute [local go_sem ↓] Ho.isSome_setCell_   -- a store leaves all places there
/-! ### spec_SpinCarpet: function 35 -/
def spec_SpinCarpet.f (k : Nat) (l0 : List (S25)) (a1 : Int) : Option ((List (S25)) × Int × Bool) := (spec_l18Find.f k l0 a1).bind fun t101 => (if t101 < 0 then (some ((([] : List (S25))), 0, false)) else (if 0 ≤ t101 then (if t101 < (l0.length : Int) then ((spec_l18With.f l0 t101 ((rd_T25 l0 t101).f0) ((rd_T25 l0 t101).f1) ((rd_T25 l0 t101).f2) (wrap64 (Int.tdiv ((rd_T25 l0 t101).f3) 2)) ((rd_T25 l0 t101).f4)).bind fun t107 => (some (t107, wrap64 (((rd_T25 l0 t101).f3) - (wrap64 (Int.tdiv ((rd_T25 l0 t101).f3) 2))), true))) else (none)) else (none)))
theorem spec_SpinCarpet.mono : ∀ a0 a1 k, LeO (spec_SpinCarpet.f k a0 a1) (spec_SpinCarpet.f (k + 1) a0 a1) := by
  intro a0 a1 k
  unfold spec_SpinCarpet.f
  repeat' first
      | (with_reducible exact spec_l18Find.mono _ _ _)
      | (with_reducible exact LeO.refl _)
      | (with_reducible exact LeO.none _)
      | (with_reducible refine LeO.ite ?_ ?_)
      | (with_reducible refine LeO.bind ?_ (fun _ => ?_))
      | exact spec_l18Find.mono _ _ _
      | exact LeO.none _
      | refine LeO.ite ?_ ?_
      | refine LeO.bind ?_ (fun _ => ?_)
def spec_SpinCarpet.T6 : Bool × List (List Nat × List Nat) := (true, [([], []), ([], []), ([], []), ([0, 1, 2], [0, 1, 2]), ([], []), ([], []), ([4, 5], [4, 5]), ([6], [6]), ([7], [7]), ([], []), ([9], [9]), ([8, 10], [8, 10]), ([3, 3, 0, 1, 2, 3], [3]), ([11, 12, 0, 1, 2, 3, 4, 5, 6, 7, 8, 9, 10, 11, 12], [11]), ([13, 0, 1, 2, 3, 4, 5, 6, 7, 8, 9, 10, 11, 12, 13], [])])
def spec_SpinCarpet.B6 : List Nat := [0, 0, 0, 7, 0, 0, 48, 112, 240, 0, 512, 2032, 15, 8191, 16383]
theorem spec_SpinCarpet.tab6 : rtab .any (opsOf Try.f35 6) = spec_SpinCarpet.T6 := by kernel_rfl
theorem spec_SpinCarpet.bits6 : waitsOk spec_SpinCarpet.T6.2 spec_SpinCarpet.B6 = true := by kernel_rfl
set_option maxHeartbeats 8000000 in
set_option maxRecDepth 100000 in
theorem spec_SpinCarpet.calls (k : Nat) (A0 : Option Addr) (c0 : Nat) (l0 : List (S25)) (a1 : Int) (r1 : List (S25)) (r2 : Int) (r3 : Bool) (w : World) (hr0 : Kd.C k25 w A0 l0.length l0) (hc0 : l0.length ≤ c0) (h : spec_SpinCarpet.f k l0 a1 = some (r1, r2, r3)) :
    Calls Try.prog 35 #[.slice A0 l0.length c0, .int .i64 a1] w fun e w' => ∃ v0_ : Value, e = .returned (.tuple #[v0_, .int .i64 r2, .bool r3]) ∧ Kd.R k25 25 w' w.heap.size (fun _ => True) v0_ r1 ∧ Below w.heap.size w w' := by
  have hu25 := Try.underlying25
  have HR0 := Aside0.mk hr0
  have HC0 := Aside0.mk hc0
  clear hr0 hc0
  have HB := Aside0.mk (Below.refl w.heap.size w)
  have H : ((spec_l18Find.f k l0 a1).bind fun t101 => (if t101 < 0 then (some ((([] : List (S25))), 0, false)) else (if 0 ≤ t101 then (if t101 < (l0.length : Int) then ((spec_l18With.f l0 t101 ((rd_T25 l0 t101).f0) ((rd_T25 l0 t101).f1) ((rd_T25 l0 t101).f2) (wrap64 (Int.tdiv ((rd_T25 l0 t101).f3) 2)) ((rd_T25 l0 t101).f4)).bind fun t107 => (some (t107, wrap64 (((rd_T25 l0 t101).f3) - (wrap64 (Int.tdiv ((rd_T25 l0 t101).f3) 2))), true))) else (none)) else (none)))) = some (r1, r2, r3) := h
  clear h
  replace H := Option.bind_eq_some_iff.mp H
  obtain ⟨t101, A30, H⟩ := H
  replace H : (if t101 < 0 then (some ((([] : List (S25))), 0, false)) else (if 0 ≤ t101 then (if t101 < (l0.length : Int) then ((spec_l18With.f l0 t101 ((rd_T25 l0 t101).f0) ((rd_T25 l0 t101).f1) ((rd_T25 l0 t101).f2) (wrap64 (Int.tdiv ((rd_T25 l0 t101).f3) 2)) ((rd_T25 l0 t101).f4)).bind fun t107 => (some (t107, wrap64 (((rd_T25 l0 t101).f3) - (wrap64 (Int.tdiv ((rd_T25 l0 t101).f3) 2))), true))) else (none)) else (none))) = some (r1, r2, r3) := H
  have A3 := Aside0.mk A30
  clear A30
  by_cases c4 : t101 < 0
  · rw [if_pos c4] at H
    have c4b0 : decide (t101 < 0) = true := decide_eq_true c4
    clear c4
    obtain ⟨y102, hy102⟩ : ∃ y_ : List (S25), y_ = (([] : List (S25))) := ⟨_, rfl⟩
    replace H : (some (y102, 0, false)) = some (r1, r2, r3) := by first | (rw [hy102]; with_reducible exact H) | (have H2_ := (Option.bind_some _ _).symm.trans H; rw [hy102]; with_reducible exact H2_) | (have H2_ := (Option.bind_some _ _).symm.trans H; with_reducible exact H2_) | with_reducible exact H | (rw [hy102]; exact H) | exact H
    have Ny102 := Aside0.mk hy102
    clear hy102
    simp only [Option.some.injEq, Prod.mk.injEq] at H
    obtain ⟨rfl, rfl, rfl⟩ := H
    go_enter Try.func35, Try.ntmps35
    go_wp2_with (first | ((with_reducible refine gate_callee (f := 72) rfl ?_); refine goesL_ (some 11) rfl rfl Try.func72 (by kernel_rfl) rfl #[.slice A0 l0.length c0, .int .i64 a1] rfl (by (try simp only [List.map_toArray, List.map_cons, List.map_nil]); first | done | rfl | (simp only [List.length_drop, List.length_take]; rfl)) ?_; (with_reducible refine (spec_l18Find.calls k _ _ l0 a1 t101 _ ?side1 ?side2 A3.out).mono ?_); (case side1 => repeat (first | exact HR0.out | (with_reducible refine Kd.C_alloc ?_ _) | (with_reducible refine Kd.C_drewN ?_ _) | (with_reducible refine Kd.C_drew ?_))); (case side2 => exact HC0.out); rintro e w5 ⟨rfl, hb⟩; refine ⟨_, rfl, ?_⟩; have n0_ := Aside0.mk (below_step (by exact eS HB.out) hb); clear HB; have HB := n0_; clear n0_; (try clear hb); (try clear hb2); (try clear hk); (try clear hi)) | ((with_reducible refine gate_dst (N := 14) rfl ?_); refine Kd.R_lit k25 _ 25 ?hg (N := 14) ?hd (xs := ([] : List (S25))) (inner := []) (ok := fun _ => True) (okp := fun _ => True) ?hr ?hp (fun _ hk => hk) trivial (Below.refl _ _) (Nat.le_refl _) (by simp) ?_; (case hd => rfl); (case hg => rfl); (case hr => first | (go_simp; done) | (go_simp; rfl)); (case hp => exact (Reps.none _ _)); intro v103 w6 ho7 hb hg_ hnew_; clear hg_ hnew_; (first | rw [← Ny102.out] at ho7 | (simp only [Int.reduceToNat] at ho7; rw [← Ny102.out] at ho7)); have n0_ := Aside0.mk (Kd.R_lower ho7 (below_size (by exact eS HB.out))); have n1_ := Aside0.mk (below_step (by exact eS HB.out) hb); clear HB; have HO104 := n0_; have HB := n1_; clear n0_ n1_; clear hb ho7))
    go_ret3
    exact ⟨_, by first | rfl | (simp [errW_none, errW_some] <;> rfl) | (simp [*, errW_none, errW_some] <;> rfl), by exact Ho.RS <| HO104.out, by exact eS HB.out⟩
  · rw [if_neg c4] at H
    have c4b0 : decide (t101 < 0) = false := decide_eq_false c4
    clear c4
    by_cases c8 : 0 ≤ t101
    · rw [if_pos c8] at H
      have c8b0 : decide (0 ≤ t101) = true := decide_eq_true c8
      clear c8
      by_cases c9 : t101 < (l0.length : Int)
      · rw [if_pos c9] at H
        have c9b0 : decide (t101 < (l0.length : Int)) = true := decide_eq_true c9
        clear c9
        replace H := Option.bind_eq_some_iff.mp H
        obtain ⟨t107, A100, H⟩ := H
        replace H : (some (t107, wrap64 (((rd_T25 l0 t101).f3) - (wrap64 (Int.tdiv ((rd_T25 l0 t101).f3) 2))), true)) = some (r1, r2, r3) := H
        have A10 := Aside0.mk A100
        clear A100
        simp only [Option.some.injEq, Prod.mk.injEq] at H
        obtain ⟨rfl, rfl, rfl⟩ := H
        go_enter Try.func35, Try.ntmps35
        try go_wp2_with (first | ((with_reducible refine gate_callee (f := 72) rfl ?_); refine goesL_ (some 11) rfl rfl Try.func72 (by kernel_rfl) rfl #[.slice A0 l0.length c0, .int .i64 a1] rfl (by (try simp only [List.map_toArray, List.map_cons, List.map_nil]); first | done | rfl | (simp only [List.length_drop, List.length_take]; rfl)) ?_; (with_reducible refine (spec_l18Find.calls k _ _ l0 a1 t101 _ ?side1 ?side2 A3.out).mono ?_); (case side1 => repeat (first | exact HR0.out | (with_reducible refine Kd.C_alloc ?_ _) | (with_reducible refine Kd.C_drewN ?_ _) | (with_reducible refine Kd.C_drew ?_))); (case side2 => exact HC0.out); rintro e w11 ⟨rfl, hb⟩; refine ⟨_, rfl, ?_⟩; have n0_ := Aside0.mk (below_step (by exact eS HB.out) hb); clear HB; have HB := n0_; clear n0_; (try clear hb); (try clear hb2); (try clear hk); (try clear hi); have p105 : 0 ≤ (t101 : Int) := of_decide_eq_true (by first | (with_reducible assumption) | assumption); have q105 : t101 < (l0.length : Int) := of_decide_eq_true (by first | (with_reducible assumption) | assumption); obtain ⟨ad105, e105, hx105_0, hx105_1, hx105_2, hx105_3, hx105_4⟩ := at_T25 HR0.out t101 p105 q105; cases e105; replace hx105_0 := (HB.out.cell (World.block_lt_of_cell? w _ hx105_0)).trans hx105_0; replace hx105_1 := (HB.out.cell (World.block_lt_of_cell? w _ hx105_1)).trans hx105_1; replace hx105_2 := (HB.out.cell (World.block_lt_of_cell? w _ hx105_2)).trans hx105_2; replace hx105_3 := (HB.out.cell (World.block_lt_of_cell? w _ hx105_3)).trans hx105_3; replace hx105_4 := (HB.out.cell (World.block_lt_of_cell? w _ hx105_4)).trans hx105_4; replace p105 := eq_true p105; replace q105 := eq_true q105) | ((with_reducible refine gate_dst (N := 8) rfl ?_); refine box_event ?hg (N := 8) ?hd (cs := #[.int .i64 0, .int .i64 0, .int .i64 0, .int .i64 0, .int .i64 0]) (t := 25) ?hr ?_; (case hd => rfl); (case hg => rfl); (case hr => first | (go_simp; done) | (go_simp; rfl)); intro gb106 hg w12 hbox hb; have n0_ := Aside0.mk (below_step (by exact eS HB.out) hb); have n1_ := Aside0.mk (hbox); have n2_ := Aside0.mk ((by rw [hg]; exact (below_size (by exact eS HB.out)) : w.heap.size ≤ gb106)); have n3_ := Aside0.mk ((by rw [hg]; exact (below_size (by exact eS HB.out)) : w.heap.size ≤ gb106)); clear HB; have HB := n0_; have BK106 := n1_; have GW106 := n2_; have GE106 := n3_; clear n0_ n1_ n2_ n3_; clear hb hbox hg; have hcz13_0 : w12.cell? ⟨gb106, 0, none⟩ = some (.int .i64 0) := (blk_cell BK106.out 0).trans rfl; have hcz13_1 : w12.cell? ⟨gb106, 1, none⟩ = some (.int .i64 0) := (blk_cell BK106.out 1).trans rfl; have hcz13_2 : w12.cell? ⟨gb106, 2, none⟩ = some (.int .i64 0) := (blk_cell BK106.out 2).trans rfl; have hcz13_3 : w12.cell? ⟨gb106, 3, none⟩ = some (.int .i64 0) := (blk_cell BK106.out 3).trans rfl; have hcz13_4 : w12.cell? ⟨gb106, 4, none⟩ = some (.int .i64 0) := (blk_cell BK106.out 4).trans rfl; have hfz13_0 := blk_frozen BK106.out 0; have hfz13_1 := blk_frozen BK106.out 1; have hfz13_2 := blk_frozen BK106.out 2; have hfz13_3 := blk_frozen BK106.out 3; have hfz13_4 := blk_frozen BK106.out 4))
        have n0_ : Aside0 (((((((w12.setCell ⟨gb106, 0, none⟩ (.int .i64 ((rd_T25 l0 t101).f0))).setCell ⟨gb106, 1, none⟩ (.int .i64 ((rd_T25 l0 t101).f1))).setCell ⟨gb106, 2, none⟩ (.int .i64 ((rd_T25 l0 t101).f2))).setCell ⟨gb106, 3, none⟩ (.int .i64 ((rd_T25 l0 t101).f3))).setCell ⟨gb106, 4, none⟩ (.int .i64 ((rd_T25 l0 t101).f4))).setCell ⟨gb106, 3, none⟩ (.int .i64 (wrap64 (Int.tdiv ((rd_T25 l0 t101).f3) 2)))).heap[gb106]? = some (.cells #[.int .i64 ((rd_T25 l0 t101).f0), .int .i64 ((rd_T25 l0 t101).f1), .int .i64 ((rd_T25 l0 t101).f2), .int .i64 (wrap64 (Int.tdiv ((rd_T25 l0 t101).f3) 2)), .int .i64 ((rd_T25 l0 t101).f4)] 25 (0, 0))) := ⟨by (with_reducible repeat (first | refine blk_drewN ?_ _ | refine blk_drew ?_ | refine blk_alloc ?_ _)); refine blk_put (cs := #[.int .i64 ((rd_T25 l0 t101).f0), .int .i64 ((rd_T25 l0 t101).f1), .int .i64 ((rd_T25 l0 t101).f2), .int .i64 ((rd_T25 l0 t101).f3), .int .i64 ((rd_T25 l0 t101).f4)]) ?_ 3 _ rfl; (with_reducible repeat (first | refine blk_drewN ?_ _ | refine blk_drew ?_ | refine blk_alloc ?_ _)); refine blk_put (cs := #[.int .i64 ((rd_T25 l0 t101).f0), .int .i64 ((rd_T25 l0 t101).f1), .int .i64 ((rd_T25 l0 t101).f2), .int .i64 ((rd_T25 l0 t101).f3), .int .i64 0]) ?_ 4 _ rfl; (with_reducible repeat (first | refine blk_drewN ?_ _ | refine blk_drew ?_ | refine blk_alloc ?_ _)); refine blk_put (cs := #[.int .i64 ((rd_T25 l0 t101).f0), .int .i64 ((rd_T25 l0 t101).f1), .int .i64 ((rd_T25 l0 t101).f2), .int .i64 0, .int .i64 0]) ?_ 3 _ rfl; (with_reducible repeat (first | refine blk_drewN ?_ _ | refine blk_drew ?_ | refine blk_alloc ?_ _)); refine blk_put (cs := #[.int .i64 ((rd_T25 l0 t101).f0), .int .i64 ((rd_T25 l0 t101).f1), .int .i64 0, .int .i64 0, .int .i64 0]) ?_ 2 _ rfl; (with_reducible repeat (first | refine blk_drewN ?_ _ | refine blk_drew ?_ | refine blk_alloc ?_ _)); refine blk_put (cs := #[.int .i64 ((rd_T25 l0 t101).f0), .int .i64 0, .int .i64 0, .int .i64 0, .int .i64 0]) ?_ 1 _ rfl; (with_reducible repeat (first | refine blk_drewN ?_ _ | refine blk_drew ?_ | refine blk_alloc ?_ _)); refine blk_put (cs := #[.int .i64 0, .int .i64 0, .int .i64 0, .int .i64 0, .int .i64 0]) ?_ 0 _ rfl; exact bS BK106.out⟩
        have n1_ : Aside0 (Below w.heap.size w ((((((w12.setCell ⟨gb106, 0, none⟩ (.int .i64 ((rd_T25 l0 t101).f0))).setCell ⟨gb106, 1, none⟩ (.int .i64 ((rd_T25 l0 t101).f1))).setCell ⟨gb106, 2, none⟩ (.int .i64 ((rd_T25 l0 t101).f2))).setCell ⟨gb106, 3, none⟩ (.int .i64 ((rd_T25 l0 t101).f3))).setCell ⟨gb106, 4, none⟩ (.int .i64 ((rd_T25 l0 t101).f4))).setCell ⟨gb106, 3, none⟩ (.int .i64 (wrap64 (Int.tdiv ((rd_T25 l0 t101).f3) 2))))) := ⟨by repeat (first | (with_reducible first | exact HB.out | apply below_alloc | apply pw_below_drewN | apply below_drew1 | refine below_set ?_ GE106.out) | exact HB.out)⟩
        (try clear BK106)
        (try clear HB)
        generalize ((((((w12.setCell ⟨gb106, 0, none⟩ (.int .i64 ((rd_T25 l0 t101).f0))).setCell ⟨gb106, 1, none⟩ (.int .i64 ((rd_T25 l0 t101).f1))).setCell ⟨gb106, 2, none⟩ (.int .i64 ((rd_T25 l0 t101).f2))).setCell ⟨gb106, 3, none⟩ (.int .i64 ((rd_T25 l0 t101).f3))).setCell ⟨gb106, 4, none⟩ (.int .i64 ((rd_T25 l0 t101).f4))).setCell ⟨gb106, 3, none⟩ (.int .i64 (wrap64 (Int.tdiv ((rd_T25 l0 t101).f3) 2)))) = w14 at n0_ n1_ ⊢
        have BK106 := n0_
        have HB := n1_
        clear n0_ n1_
        have n0_ := Aside0.mk (blk_drew BK106.out)
        have n1_ := Aside0.mk (below_drew1 HB.out)
        clear BK106
        clear HB
        have BK106 := n0_
        have HB := n1_
        clear n0_ n1_
        have p110 : 0 ≤ (t101 : Int) := of_decide_eq_true (by first | (with_reducible assumption) | assumption)
        have q110 : t101 < (l0.length : Int) := of_decide_eq_true (by first | (with_reducible assumption) | assumption)
        obtain ⟨ad110, e110, hx110_0, hx110_1, hx110_2, hx110_3, hx110_4⟩ := at_T25 HR0.out t101 p110 q110
        have hw110_4 := hx110_4
        have hw110_3 := hx110_3
        have hw110_2 := hx110_2
        have hw110_1 := hx110_1
        have hw110_0 := hx110_0
        obtain rfl : ad105 = ad110 := (by injection e110)
        replace hx110_0 := (HB.out.cell (World.block_lt_of_cell? w _ hx110_0)).trans hx110_0
        replace hx110_1 := (HB.out.cell (World.block_lt_of_cell? w _ hx110_1)).trans hx110_1
        replace hx110_2 := (HB.out.cell (World.block_lt_of_cell? w _ hx110_2)).trans hx110_2
        replace hx110_3 := (HB.out.cell (World.block_lt_of_cell? w _ hx110_3)).trans hx110_3
        replace hx110_4 := (HB.out.cell (World.block_lt_of_cell? w _ hx110_4)).trans hx110_4
        replace p110 := eq_true p110
        replace q110 := eq_true q110
        refine start_ (n := 15) (S := fun w' => w'.cell? ⟨gb106, 0, none⟩ = some (.int .i64 ((rd_T25 l0 t101).f0)) ∧ w'.cell? ⟨gb106, 1, none⟩ = some (.int .i64 ((rd_T25 l0 t101).f1)) ∧ w'.cell? ⟨gb106, 2, none⟩ = some (.int .i64 ((rd_T25 l0 t101).f2)) ∧ w'.cell? ⟨gb106, 3, none⟩ = some (.int .i64 (wrap64 (Int.tdiv ((rd_T25 l0 t101).f3) 2))) ∧ w'.cell? ⟨gb106, 4, none⟩ = some (.int .i64 ((rd_T25 l0 t101).f4)) ∧ w'.cell? (ad105.add ((t101).toNat * 5)) = some (.int .i64 ((rd_T25 l0 t101).f0)) ∧ w'.cell? ⟨(ad105.add ((t101).toNat * 5)).block, (ad105.add ((t101).toNat * 5)).off + 1, none⟩ = some (.int .i64 ((rd_T25 l0 t101).f1)) ∧ w'.cell? ⟨(ad105.add ((t101).toNat * 5)).block, (ad105.add ((t101).toNat * 5)).off + 2, none⟩ = some (.int .i64 ((rd_T25 l0 t101).f2)) ∧ w'.cell? ⟨(ad105.add ((t101).toNat * 5)).block, (ad105.add ((t101).toNat * 5)).off + 3, none⟩ = some (.int .i64 ((rd_T25 l0 t101).f3)) ∧ w'.cell? ⟨(ad105.add ((t101).toNat * 5)).block, (ad105.add ((t101).toNat * 5)).off + 4, none⟩ = some (.int .i64 ((rd_T25 l0 t101).f4))) (ds := []) #[false, false, false, false, false, false, false, false, false, false, false, false, false, false, false] (by kernel_rfl) rfl rfl ⟨(blk_cell BK106.out 0).trans rfl, (blk_cell BK106.out 1).trans rfl, (blk_cell BK106.out 2).trans rfl, (blk_cell BK106.out 3).trans rfl, (blk_cell BK106.out 4).trans rfl, ((HB.out.cell (World.block_lt_of_cell? w _ hw110_0)).trans hw110_0), ((HB.out.cell (World.block_lt_of_cell? w _ hw110_1)).trans hw110_1), ((HB.out.cell (World.block_lt_of_cell? w _ hw110_2)).trans hw110_2), ((HB.out.cell (World.block_lt_of_cell? w _ hw110_3)).trans hw110_3), ((HB.out.cell (World.block_lt_of_cell? w _ hw110_4)).trans hw110_4)⟩ (fun hHeld => ?_); refine with_tabW spec_SpinCarpet.tab6 spec_SpinCarpet.bits6 (fun HT_ HW_ => ?_)
        generalize w14.drew = w15 at BK106 HB hx110_0 hx110_1 hx110_2 hx110_3 hx110_4 hHeld ⊢
        refine pure_ (i := 0) (N := some 23) (v := ?_) (a' := ?_) #[true, false, false, false, false, false, false, false, false, false, false, false, false, false, false] rfl rfl (any_of HT_.out (by kernel_rfl)) (fun _ _ _ h => h) (Or.inl ⟨by rfl, ?_⟩) ?_ ?_
        rotate_left
        · intro w'
          go_simp
          with_reducible rfl
        rotate_left
        · simp only [Act.put, List.setIfInBounds_toArray, List.set_cons_zero, List.set_cons_succ, i64_w, i32_w]
          rfl
        refine pure_ (i := 1) (N := some 24) (v := ?_) (a' := ?_) #[true, true, false, false, false, false, false, false, false, false, false, false, false, false, false] rfl rfl (any_of HT_.out (by kernel_rfl)) (fun _ _ _ h => h) (Or.inl ⟨by rfl, ?_⟩) ?_ ?_
        rotate_left
        · intro w'
          go_simp
          with_reducible rfl
        rotate_left
        · simp only [Act.put, List.setIfInBounds_toArray, List.set_cons_zero, List.set_cons_succ, i64_w, i32_w]
          rfl
        refine pure_ (i := 4) (N := some 27) (v := ?_) (a' := ?_) #[true, true, false, false, true, false, false, false, false, false, false, false, false, false, false] rfl rfl (any_of HT_.out (by kernel_rfl)) (fun _ _ _ h => h) (Or.inl ⟨by rfl, ?_⟩) ?_ ?_
        rotate_left
        · intro w'
          go_simp
          with_reducible rfl
        rotate_left
        · simp only [Act.put, List.setIfInBounds_toArray, List.set_cons_zero, List.set_cons_succ, i64_w, i32_w]
          rfl
        refine pure_ (i := 5) (N := some 28) (v := ?_) (a' := ?_) #[true, true, false, false, true, true, false, false, false, false, false, false, false, false, false] rfl rfl (any_of HT_.out (by kernel_rfl)) (fun _ _ _ h => h) (Or.inl ⟨by rfl, ?_⟩) ?_ ?_
        rotate_left
        · intro w'
          go_simp
          with_reducible rfl
        rotate_left
        · simp only [Act.put, List.setIfInBounds_toArray, List.set_cons_zero, List.set_cons_succ, i64_w, i32_w]
          rfl
        refine pure_ (i := 6) (N := some 29) (v := ?_) (a' := ?_) #[true, true, false, false, true, true, true, false, false, false, false, false, false, false, false] rfl rfl (any_of HT_.out (by kernel_rfl)) (fun _ _ _ h => h) (Or.inl ⟨by rfl, ?_⟩) ?_ ?_
        rotate_left
        · intro w'
          go_simp
          with_reducible rfl
        rotate_left
        · simp only [Act.put, List.setIfInBounds_toArray, List.set_cons_zero, List.set_cons_succ, i64_w, i32_w]
          rfl
        refine pure_ (i := 7) (N := some 30) (v := ?_) (a' := ?_) #[true, true, false, false, true, true, true, true, false, false, false, false, false, false, false] rfl rfl (any_of HT_.out (by kernel_rfl)) (fun _ _ _ h => h) (Or.inl ⟨by rfl, ?_⟩) ?_ ?_
        rotate_left
        · intro w'
          go_simp
          with_reducible rfl
        rotate_left
        · simp only [Act.put, List.setIfInBounds_toArray, List.set_cons_zero, List.set_cons_succ, i64_w, i32_w]
          rfl
        refine pure_ (i := 9) (N := some 32) (v := ?_) (a' := ?_) #[true, true, false, false, true, true, true, true, false, true, false, false, false, false, false] rfl rfl (any_of HT_.out (by kernel_rfl)) (fun _ _ _ h => h) (Or.inl ⟨by rfl, ?_⟩) ?_ ?_
        rotate_left
        · intro w'
          go_simp
          with_reducible rfl
        rotate_left
        · simp only [Act.put, List.setIfInBounds_toArray, List.set_cons_zero, List.set_cons_succ, i64_w, i32_w]
          rfl
        refine take_ (i := 2) (N := some 25) (v := ?_) (a' := ?_) #[true, true, true, false, true, true, true, true, false, true, false, false, false, false, false] rfl rfl (take_ofW HT_.out HW_.out (by kernel_rfl)) (fun _ _ _ h => h) (Or.inl ⟨by rfl, ?_⟩) hHeld ?_ ?_
        rotate_left
        · rintro w' ⟨s0, s1, s2, s3, s4, s5, s6, s7, s8, s9⟩
          go_simp
          with_reducible rfl
        rotate_left
        · simp only [Act.put, List.setIfInBounds_toArray, List.set_cons_zero, List.set_cons_succ, i64_w, i32_w]
          rfl
        refine take_ (i := 8) (N := some 31) (v := ?_) (a' := ?_) #[true, true, true, false, true, true, true, true, true, true, false, false, false, false, false] rfl rfl (take_ofW HT_.out HW_.out (by kernel_rfl)) (fun _ _ _ h => h) (Or.inl ⟨by rfl, ?_⟩) hHeld ?_ ?_
        rotate_left
        · rintro w' ⟨s0, s1, s2, s3, s4, s5, s6, s7, s8, s9⟩
          go_simp
          with_reducible rfl
        rotate_left
        · simp only [Act.put, List.setIfInBounds_toArray, List.set_cons_zero, List.set_cons_succ, i64_w, i32_w]
          rfl
        refine take_ (i := 10) (N := some 33) (v := ?_) (a' := ?_) #[true, true, true, false, true, true, true, true, true, true, true, false, false, false, false] rfl rfl (take_ofW HT_.out HW_.out (by kernel_rfl)) (fun _ _ _ h => h) (Or.inl ⟨by rfl, ?_⟩) hHeld ?_ ?_
        rotate_left
        · rintro w' ⟨s0, s1, s2, s3, s4, s5, s6, s7, s8, s9⟩
          go_simp
          with_reducible rfl
        rotate_left
        · simp only [Act.put, List.setIfInBounds_toArray, List.set_cons_zero, List.set_cons_succ, i64_w, i32_w]
          rfl
        refine pure_ (i := 11) (N := some 34) (v := ?_) (a' := ?_) #[true, true, true, false, true, true, true, true, true, true, true, true, false, false, false] rfl rfl (any_of HT_.out (by kernel_rfl)) (fun _ _ _ h => h) (Or.inl ⟨by rfl, ?_⟩) ?_ ?_
        rotate_left
        · intro w'
          go_simp
          with_reducible rfl
        rotate_left
        · simp only [Act.put, List.setIfInBounds_toArray, List.set_cons_zero, List.set_cons_succ, i64_w, i32_w]
          rfl
        refine one_ (i := 3) (N := some 26) #[true, true, true, true, true, true, true, true, true, true, true, true, false, false, false] rfl rfl (one_of HT_.out (by kernel_rfl)) (by decide) (fun K hK => ?_)
        refine goes_ Try.func73 (by kernel_rfl) rfl #[.slice (some ad105) l0.length c0, .int .i64 t101, .agg #[.int .i64 ((rd_T25 l0 t101).f0), .int .i64 ((rd_T25 l0 t101).f1), .int .i64 ((rd_T25 l0 t101).f2), .int .i64 (wrap64 (Int.tdiv ((rd_T25 l0 t101).f3) 2)), .int .i64 ((rd_T25 l0 t101).f4)]] (by rfl) rfl rfl (by (try simp only [List.map_toArray, List.map_cons, List.map_nil]); first | done | rfl | (simp only [List.length_drop, List.length_take]; rfl)) ?_
        with_reducible refine (spec_l18With.calls _ _ l0 t101 ((rd_T25 l0 t101).f0) ((rd_T25 l0 t101).f1) ((rd_T25 l0 t101).f2) (wrap64 (Int.tdiv ((rd_T25 l0 t101).f3) 2)) ((rd_T25 l0 t101).f4) t107 _ ?side1 ?side2 A10.out).mono ?_
        (case side1 => repeat (first | exact (Kd.C_below HR0.out HB.out) | (with_reducible refine Kd.C_alloc ?_ _) | (with_reducible refine Kd.C_drewN ?_ _) | (with_reducible refine Kd.C_drew ?_)))
        (case side2 => exact HC0.out)
        rintro e w16 ⟨v108, rfl, ho0, hb⟩
        refine ⟨_, rfl, ?_⟩
        have n0_ := Aside0.mk (Kd.R_lower (Kd.R_newB ho0 (bS BK106.out)) (below_size (by exact eS HB.out)))
        have n1_ := Aside0.mk (blk_below (bS BK106.out) hb)
        have n2_ := Aside0.mk (below_step (by exact eS HB.out) hb)
        clear BK106
        clear HB
        have HO109 := n0_
        have BK106 := n1_
        have HB := n2_
        clear n0_ n1_ n2_
        (try clear hb)
        (try clear hb2)
        (try clear hk)
        (try clear hi)
        (try clear ho0)
        refine hK.out _ _ ⟨(blk_cell BK106.out 0).trans rfl, (blk_cell BK106.out 1).trans rfl, (blk_cell BK106.out 2).trans rfl, (blk_cell BK106.out 3).trans rfl, (blk_cell BK106.out 4).trans rfl, ((HB.out.cell (World.block_lt_of_cell? w _ hw110_0)).trans hw110_0), ((HB.out.cell (World.block_lt_of_cell? w _ hw110_1)).trans hw110_1), ((HB.out.cell (World.block_lt_of_cell? w _ hw110_2)).trans hw110_2), ((HB.out.cell (World.block_lt_of_cell? w _ hw110_3)).trans hw110_3), ((HB.out.cell (World.block_lt_of_cell? w _ hw110_4)).trans hw110_4)⟩ (fun hHeld => ?_)
        clear hK K
        refine norm_ (a' := ?_) ?_ ?_
        rotate_left
        · show Act.put _ (some 26) _ = _
          simp only [Act.put, List.setIfInBounds_toArray, List.set_cons_zero, List.set_cons_succ, i64_w, i32_w]
          rfl
        refine pure_ (i := 12) (N := some 4) (v := ?_) (a' := ?_) #[true, true, true, true, true, true, true, true, true, true, true, true, true, false, false] rfl rfl (any_of HT_.out (by kernel_rfl)) (fun _ _ _ h => h) (Or.inl ⟨by rfl, ?_⟩) ?_ ?_
        rotate_left
        · intro w'
          go_simp
          with_reducible rfl
        rotate_left
        · simp only [Act.put, List.setIfInBounds_toArray, List.set_cons_zero, List.set_cons_succ, i64_w, i32_w]
          rfl
        refine pure_ (i := 13) (N := some 5) (v := ?_) (a' := ?_) #[true, true, true, true, true, true, true, true, true, true, true, true, true, true, false] rfl rfl (any_of HT_.out (by kernel_rfl)) (fun _ _ _ h => h) (Or.inl ⟨by rfl, ?_⟩) ?_ ?_
        rotate_left
        · intro w'
          go_simp
          with_reducible rfl
        rotate_left
        · simp only [Act.put, List.setIfInBounds_toArray, List.set_cons_zero, List.set_cons_succ, i64_w, i32_w]
          rfl
        refine pure_ (i := 14) (N := some 6) (v := ?_) (a' := ?_) #[true, true, true, true, true, true, true, true, true, true, true, true, true, true, true] rfl rfl (any_of HT_.out (by kernel_rfl)) (fun _ _ _ h => h) (Or.inl ⟨by rfl, ?_⟩) ?_ ?_
        rotate_left
        · intro w'
          go_simp
          with_reducible rfl
        rotate_left
        · simp only [Act.put, List.setIfInBounds_toArray, List.set_cons_zero, List.set_cons_succ, i64_w, i32_w]
          rfl
        refine done_ (done_of HT_.out (by kernel_rfl)) ?_
        try go_wp2
        go_ret3
        exact ⟨_, by first | rfl | (simp [errW_none, errW_some] <;> rfl) | (simp [*, errW_none, errW_some] <;> rfl), by exact Ho.RS <| Kd.R_mono HO109.out (fun _ hk => trivial), by exact eS HB.out⟩
      · rw [if_neg c9] at H
        exact absurd H (by simp)
    · rw [if_neg c8] at H
      exact absurd H (by simp)

end Go.Proofs.Ytdennkmfjkgfhaa.X

-- XspecWashCarpetF31
namespace Go.Proofs.Ytdennkmfjkgfhaa.X
open Ho (bS eS)
open Go.RowKit Go.Proofs.YtdennkmfjkgfhaaW.PrintWords Go.Proofs.YtdennkmfjkgfhaaW.PrintLast Go.Proofs.YtdennkmfjkgfhaaW.PrintMore
attribute [local go_sem] max2_int min2_int max_two min_two max_three min_three max_four min_four   -- for this text's walks alone
set_option linter.unusedVariables false
set_option linter.unusedSimpArgs false

attribute [local go_sem ↓] Ho.isSome_setCell_   -- a store leaves all places there
/-! ### spec_WashCarpet: function 31 -/
def spec_WashCarpet.f (k : Nat) (l0 : List (S25)) (a1 : Int) : Option ((List (S25)) × Int × Bool) := (spec_l18Find.f k l0 a1).bind fun t101 => (if t101 < 0 then (some ((([] : List (S25))), 0, false)) else (if 0 ≤ t101 then (if t101 < (l0.length : Int) then ((spec_l18With.f l0 t101 ((rd_T25 l0 t101).f0) ((rd_T25 l0 t101).f1) ((rd_T25 l0 t101).f2) (wrap64 (2 * ((rd_T25 l0 t101).f2))) ((rd_T25 l0 t101).f4)).bind fun t107 => (some (t107, wrap64 ((wrap64 (2 * ((rd_T25 l0 t101).f2))) - ((rd_T25 l0 t101).f3)), true))) else (none)) else (none)))
theorem spec_WashCarpet.mono : ∀ a0 a1 k, LeO (spec_WashCarpet.f k a0 a1) (spec_WashCarpet.f (k + 1) a0 a1) := by
  intro a0 a1 k
  unfold spec_WashCarpet.f
  repeat' first
      | (with_reducible exact spec_l18Find.mono _ _ _)
      | (with_reducible exact LeO.refl _)
      | (with_reducible exact LeO.none _)
      | (with_reducible refine LeO.ite ?_ ?_)
      | (with_reducible refine LeO.bind ?_ (fun _ => ?_))
      | exact spec_l18Find.mono _ _ _
      | exact LeO.none _
      | refine LeO.ite ?_ ?_
      | refine LeO.bind ?_ (fun _ => ?_)
def spec_WashCarpet.T6 : Bool × List (List Nat × List Nat) := (true, [([], []), ([], []), ([], []), ([0, 1, 2], [0, 1, 2]), ([], []), ([4], [4]), ([], []), ([], []), ([6, 7], [6, 7]), ([8], [8]), ([9], [9]), ([5, 10], [5, 10]), ([3, 3, 0, 1, 2, 3], [3]), ([11, 12, 0, 1, 2, 3, 4, 5, 6, 7, 8, 9, 10, 11, 12], [11]), ([13, 0, 1, 2, 3, 4, 5, 6, 7, 8, 9, 10, 11, 12, 13], [])])
def spec_WashCarpet.B6 : List Nat := [0, 0, 0, 7, 0, 16, 0, 0, 192, 448, 960, 2032, 15, 8191, 16383]
theorem spec_WashCarpet.tab6 : rtab .any (opsOf Try.f31 6) = spec_WashCarpet.T6 := by kernel_rfl
theorem spec_WashCarpet.bits6 : waitsOk spec_WashCarpet.T6.2 spec_WashCarpet.B6 = true := by kernel_rfl
set_option maxHeartbeats 8000000 in
set_option maxRecDepth 100000 in
theorem spec_WashCarpet.calls (k : Nat) (A0 : Option Addr) (c0 : Nat) (l0 : List (S25)) (a1 : Int) (r1 : List (S25)) (r2 : Int) (r3 : Bool) (w : World) (hr0 : Kd.C k25 w A0 l0.length l0) (hc0 : l0.length ≤ c0) (h : spec_WashCarpet.f k l0 a1 = some (r1, r2, r3)) :
    Calls Try.prog 31 #[.slice A0 l0.length c0, .int .i64 a1] w fun e w' => ∃ v0_ : Value, e = .returned (.tuple #[v0_, .int .i64 r2, .bool r3]) ∧ Kd.R k25 25 w' w.heap.size (fun _ => True) v0_ r1 ∧ Below w.heap.size w w' := by
  have hu25 := Try.underlying25
  have HR0 := Aside0.mk hr0
  have HC0 := Aside0.mk hc0
  clear hr0 hc0
  have HB := Aside0.mk (Below.refl w.heap.size w)
  have H : ((spec_l18Find.f k l0 a1).bind fun t101 => (if t101 < 0 then (some ((([] : List (S25))), 0, false)) else (if 0 ≤ t101 then (if t101 < (l0.length : Int) then ((spec_l18With.f l0 t101 ((rd_T25 l0 t101).f0) ((rd_T25 l0 t101).f1) ((rd_T25 l0 t101).f2) (wrap64 (2 * ((rd_T25 l0 t101).f2))) ((rd_T25 l0 t101).f4)).bind fun t107 => (some (t107, wrap64 ((wrap64 (2 * ((rd_T25 l0 t101).f2))) - ((rd_T25 l0 t101).f3)), true))) else (none)) else (none)))) = some (r1, r2, r3) := h
  clear h
  replace H := Option.bind_eq_some_iff.mp H
  obtain ⟨t101, A30, H⟩ := H
  replace H : (if t101 < 0 then (some ((([] : List (S25))), 0, false)) else (if 0 ≤ t101 then (if t101 < (l0.length : Int) then ((spec_l18With.f l0 t101 ((rd_T25 l0 t101).f0) ((rd_T25 l0 t101).f1) ((rd_T25 l0 t101).f2) (wrap64 (2 * ((rd_T25 l0 t101).f2))) ((rd_T25 l0 t101).f4)).bind fun t107 => (some (t107, wrap64 ((wrap64 (2 * ((rd_T25 l0 t101).f2))) - ((rd_T25 l0 t101).f3)), true))) else (none)) else (none))) = some (r1, r2, r3) := H
  have A3 := Aside0.mk A30
  clear A30
  by_cases c4 : t101 < 0
  · rw [if_pos c4] at H
    have c4b0 : decide (t101 < 0) = true := decide_eq_true c4
    clear c4
    obtain ⟨y102, hy102⟩ : ∃ y_ : List (S25), y_ = (([] : List (S25))) := ⟨_, rfl⟩
    replace H : (some (y102, 0, false)) = some (r1, r2, r3) := by first | (rw [hy102]; with_reducible exact H) | (have H2_ := (Option.bind_some _ _).symm.trans H; rw [hy102]; with_reducible exact H2_) | (have H2_ := (Option.bind_some _ _).symm.trans H; with_reducible exact H2_) | with_reducible exact H | (rw [hy102]; exact H) | exact H
    have Ny102 := Aside0.mk hy102
    clear hy102
    simp only [Option.some.injEq, Prod.mk.injEq] at H
    obtain ⟨rfl, rfl, rfl⟩ := H
    go_enter Try.func31, Try.ntmps31
    go_wp2_with (first | ((with_reducible refine gate_callee (f := 72) rfl ?_); refine goesL_ (some 11) rfl rfl Try.func72 (by kernel_rfl) rfl #[.slice A0 l0.length c0, .int .i64 a1] rfl (by (try simp only [List.map_toArray, List.map_cons, List.map_nil]); first | done | rfl | (simp only [List.length_drop, List.length_take]; rfl)) ?_; (with_reducible refine (spec_l18Find.calls k _ _ l0 a1 t101 _ ?side1 ?side2 A3.out).mono ?_); (case side1 => repeat (first | exact HR0.out | (with_reducible refine Kd.C_alloc ?_ _) | (with_reducible refine Kd.C_drewN ?_ _) | (with_reducible refine Kd.C_drew ?_))); (case side2 => exact HC0.out); rintro e w5 ⟨rfl, hb⟩; refine ⟨_, rfl, ?_⟩; have n0_ := Aside0.mk (below_step (by exact eS HB.out) hb); clear HB; have HB := n0_; clear n0_; (try clear hb); (try clear hb2); (try clear hk); (try clear hi)) | ((with_reducible refine gate_dst (N := 14) rfl ?_); refine Kd.R_lit k25 _ 25 ?hg (N := 14) ?hd (xs := ([] : List (S25))) (inner := []) (ok := fun _ => True) (okp := fun _ => True) ?hr ?hp (fun _ hk => hk) trivial (Below.refl _ _) (Nat.le_refl _) (by simp) ?_; (case hd => rfl); (case hg => rfl); (case hr => first | (go_simp; done) | (go_simp; rfl)); (case hp => exact (Reps.none _ _)); intro v103 w6 ho7 hb hg_ hnew_; clear hg_ hnew_; (first | rw [← Ny102.out] at ho7 | (simp only [Int.reduceToNat] at ho7; rw [← Ny102.out] at ho7)); have n0_ := Aside0.mk (Kd.R_lower ho7 (below_size (by exact eS HB.out))); have n1_ := Aside0.mk (below_step (by exact eS HB.out) hb); clear HB; have HO104 := n0_; have HB := n1_; clear n0_ n1_; clear hb ho7))
    go_ret3
    exact ⟨_, by first | rfl | (simp [errW_none, errW_some] <;> rfl) | (simp [*, errW_none, errW_some] <;> rfl), by exact Ho.RS <| HO104.out, by exact eS HB.out⟩
  · rw [if_neg c4] at H
    have c4b0 : decide (t101 < 0) = false := decide_eq_false c4
    clear c4
    by_cases c8 : 0 ≤ t101
    · rw [if_pos c8] at H
      have c8b0 : decide (0 ≤ t101) = true := decide_eq_true c8
      clear c8
      by_cases c9 : t101 < (l0.length : Int)
      · rw [if_pos c9] at H
        have c9b0 : decide (t101 < (l0.length : Int)) = true := decide_eq_true c9
        clear c9
        replace H := Option.bind_eq_some_iff.mp H
        obtain ⟨t107, A100, H⟩ := H
        replace H : (some (t107, wrap64 ((wrap64 (2 * ((rd_T25 l0 t101).f2))) - ((rd_T25 l0 t101).f3)), true)) = some (r1, r2, r3) := H
        have A10 := Aside0.mk A100
        clear A100
        simp only [Option.some.injEq, Prod.mk.injEq] at H
        obtain ⟨rfl, rfl, rfl⟩ := H
        go_enter Try.func31, Try.ntmps31
        try go_wp2_with (first | ((with_reducible refine gate_callee (f := 72) rfl ?_); refine goesL_ (some 11) rfl rfl Try.func72 (by kernel_rfl) rfl #[.slice A0 l0.length c0, .int .i64 a1] rfl (by (try simp only [List.map_toArray, List.map_cons, List.map_nil]); first | done | rfl | (simp only [List.length_drop, List.length_take]; rfl)) ?_; (with_reducible refine (spec_l18Find.calls k _ _ l0 a1 t101 _ ?side1 ?side2 A3.out).mono ?_); (case side1 => repeat (first | exact HR0.out | (with_reducible refine Kd.C_alloc ?_ _) | (with_reducible refine Kd.C_drewN ?_ _) | (with_reducible refine Kd.C_drew ?_))); (case side2 => exact HC0.out); rintro e w11 ⟨rfl, hb⟩; refine ⟨_, rfl, ?_⟩; have n0_ := Aside0.mk (below_step (by exact eS HB.out) hb); clear HB; have HB := n0_; clear n0_; (try clear hb); (try clear hb2); (try clear hk); (try clear hi); have p105 : 0 ≤ (t101 : Int) := of_decide_eq_true (by first | (with_reducible assumption) | assumption); have q105 : t101 < (l0.length : Int) := of_decide_eq_true (by first | (with_reducible assumption) | assumption); obtain ⟨ad105, e105, hx105_0, hx105_1, hx105_2, hx105_3, hx105_4⟩ := at_T25 HR0.out t101 p105 q105; cases e105; replace hx105_0 := (HB.out.cell (World.block_lt_of_cell? w _ hx105_0)).trans hx105_0; replace hx105_1 := (HB.out.cell (World.block_lt_of_cell? w _ hx105_1)).trans hx105_1; replace hx105_2 := (HB.out.cell (World.block_lt_of_cell? w _ hx105_2)).trans hx105_2; replace hx105_3 := (HB.out.cell (World.block_lt_of_cell? w _ hx105_3)).trans hx105_3; replace hx105_4 := (HB.out.cell (World.block_lt_of_cell? w _ hx105_4)).trans hx105_4; replace p105 := eq_true p105; replace q105 := eq_true q105) | ((with_reducible refine gate_dst (N := 8) rfl ?_); refine box_event ?hg (N := 8) ?hd (cs := #[.int .i64 0, .int .i64 0, .int .i64 0, .int .i64 0, .int .i64 0]) (t := 25) ?hr ?_; (case hd => rfl); (case hg => rfl); (case hr => first | (go_simp; done) | (go_simp; rfl)); intro gb106 hg w12 hbox hb; have n0_ := Aside0.mk (below_step (by exact eS HB.out) hb); have n1_ := Aside0.mk (hbox); have n2_ := Aside0.mk ((by rw [hg]; exact (below_size (by exact eS HB.out)) : w.heap.size ≤ gb106)); have n3_ := Aside0.mk ((by rw [hg]; exact (below_size (by exact eS HB.out)) : w.heap.size ≤ gb106)); clear HB; have HB := n0_; have BK106 := n1_; have GW106 := n2_; have GE106 := n3_; clear n0_ n1_ n2_ n3_; clear hb hbox hg; have hcz13_0 : w12.cell? ⟨gb106, 0, none⟩ = some (.int .i64 0) := (blk_cell BK106.out 0).trans rfl; have hcz13_1 : w12.cell? ⟨gb106, 1, none⟩ = some (.int .i64 0) := (blk_cell BK106.out 1).trans rfl; have hcz13_2 : w12.cell? ⟨gb106, 2, none⟩ = some (.int .i64 0) := (blk_cell BK106.out 2).trans rfl; have hcz13_3 : w12.cell? ⟨gb106, 3, none⟩ = some (.int .i64 0) := (blk_cell BK106.out 3).trans rfl; have hcz13_4 : w12.cell? ⟨gb106, 4, none⟩ = some (.int .i64 0) := (blk_cell BK106.out 4).trans rfl; have hfz13_0 := blk_frozen BK106.out 0; have hfz13_1 := blk_frozen BK106.out 1; have hfz13_2 := blk_frozen BK106.out 2; have hfz13_3 := blk_frozen BK106.out 3; have hfz13_4 := blk_frozen BK106.out 4))
        have n0_ : Aside0 (((((((w12.setCell ⟨gb106, 0, none⟩ (.int .i64 ((rd_T25 l0 t101).f0))).setCell ⟨gb106, 1, none⟩ (.int .i64 ((rd_T25 l0 t101).f1))).setCell ⟨gb106, 2, none⟩ (.int .i64 ((rd_T25 l0 t101).f2))).setCell ⟨gb106, 3, none⟩ (.int .i64 ((rd_T25 l0 t101).f3))).setCell ⟨gb106, 4, none⟩ (.int .i64 ((rd_T25 l0 t101).f4))).setCell ⟨gb106, 3, none⟩ (.int .i64 (wrap64 (2 * ((rd_T25 l0 t101).f2))))).heap[gb106]? = some (.cells #[.int .i64 ((rd_T25 l0 t101).f0), .int .i64 ((rd_T25 l0 t101).f1), .int .i64 ((rd_T25 l0 t101).f2), .int .i64 (wrap64 (2 * ((rd_T25 l0 t101).f2))), .int .i64 ((rd_T25 l0 t101).f4)] 25 (0, 0))) := ⟨by (with_reducible repeat (first | refine blk_drewN ?_ _ | refine blk_drew ?_ | refine blk_alloc ?_ _)); refine blk_put (cs := #[.int .i64 ((rd_T25 l0 t101).f0), .int .i64 ((rd_T25 l0 t101).f1), .int .i64 ((rd_T25 l0 t101).f2), .int .i64 ((rd_T25 l0 t101).f3), .int .i64 ((rd_T25 l0 t101).f4)]) ?_ 3 _ rfl; (with_reducible repeat (first | refine blk_drewN ?_ _ | refine blk_drew ?_ | refine blk_alloc ?_ _)); refine blk_put (cs := #[.int .i64 ((rd_T25 l0 t101).f0), .int .i64 ((rd_T25 l0 t101).f1), .int .i64 ((rd_T25 l0 t101).f2), .int .i64 ((rd_T25 l0 t101).f3), .int .i64 0]) ?_ 4 _ rfl; (with_reducible repeat (first | refine blk_drewN ?_ _ | refine blk_drew ?_ | refine blk_alloc ?_ _)); refine blk_put (cs := #[.int .i64 ((rd_T25 l0 t101).f0), .int .i64 ((rd_T25 l0 t101).f1), .int .i64 ((rd_T25 l0 t101).f2), .int .i64 0, .int .i64 0]) ?_ 3 _ rfl; (with_reducible repeat (first | refine blk_drewN ?_ _ | refine blk_drew ?_ | refine blk_alloc ?_ _)); refine blk_put (cs := #[.int .i64 ((rd_T25 l0 t101).f0), .int .i64 ((rd_T25 l0 t101).f1), .int .i64 0, .int .i64 0, .int .i64 0]) ?_ 2 _ rfl; (with_reducible repeat (first | refine blk_drewN ?_ _ | refine blk_drew ?_ | refine blk_alloc ?_ _)); refine blk_put (cs := #[.int .i64 ((rd_T25 l0 t101).f0), .int .i64 0, .int .i64 0, .int .i64 0, .int .i64 0]) ?_ 1 _ rfl; (with_reducible repeat (first | refine blk_drewN ?_ _ | refine blk_drew ?_ | refine blk_alloc ?_ _)); refine blk_put (cs := #[.int .i64 0, .int .i64 0, .int .i64 0, .int .i64 0, .int .i64 0]) ?_ 0 _ rfl; exact bS BK106.out⟩
        have n1_ : Aside0 (Below w.heap.size w ((((((w12.setCell ⟨gb106, 0, none⟩ (.int .i64 ((rd_T25 l0 t101).f0))).setCell ⟨gb106, 1, none⟩ (.int .i64 ((rd_T25 l0 t101).f1))).setCell ⟨gb106, 2, none⟩ (.int .i64 ((rd_T25 l0 t101).f2))).setCell ⟨gb106, 3, none⟩ (.int .i64 ((rd_T25 l0 t101).f3))).setCell ⟨gb106, 4, none⟩ (.int .i64 ((rd_T25 l0 t101).f4))).setCell ⟨gb106, 3, none⟩ (.int .i64 (wrap64 (2 * ((rd_T25 l0 t101).f2)))))) := ⟨by repeat (first | (with_reducible first | exact HB.out | apply below_alloc | apply pw_below_drewN | apply below_drew1 | refine below_set ?_ GE106.out) | exact HB.out)⟩
        (try clear BK106)
        (try clear HB)
        generalize ((((((w12.setCell ⟨gb106, 0, none⟩ (.int .i64 ((rd_T25 l0 t101).f0))).setCell ⟨gb106, 1, none⟩ (.int .i64 ((rd_T25 l0 t101).f1))).setCell ⟨gb106, 2, none⟩ (.int .i64 ((rd_T25 l0 t101).f2))).setCell ⟨gb106, 3, none⟩ (.int .i64 ((rd_T25 l0 t101).f3))).setCell ⟨gb106, 4, none⟩ (.int .i64 ((rd_T25 l0 t101).f4))).setCell ⟨gb106, 3, none⟩ (.int .i64 (wrap64 (2 * ((rd_T25 l0 t101).f2))))) = w14 at n0_ n1_ ⊢
        have BK106 := n0_
        have HB := n1_
        clear n0_ n1_
        have n0_ := Aside0.mk (blk_drew BK106.out)
        have n1_ := Aside0.mk (below_drew1 HB.out)
        clear BK106
        clear HB
        have BK106 := n0_
        have HB := n1_
        clear n0_ n1_
        have p110 : 0 ≤ (t101 : Int) := of_decide_eq_true (by first | (with_reducible assumption) | assumption)
        have q110 : t101 < (l0.length : Int) := of_decide_eq_true (by first | (with_reducible assumption) | assumption)
        obtain ⟨ad110, e110, hx110_0, hx110_1, hx110_2, hx110_3, hx110_4⟩ := at_T25 HR0.out t101 p110 q110
        have hw110_4 := hx110_4
        have hw110_3 := hx110_3
        have hw110_2 := hx110_2
        have hw110_1 := hx110_1
        have hw110_0 := hx110_0
        obtain rfl : ad105 = ad110 := (by injection e110)
        replace hx110_0 := (HB.out.cell (World.block_lt_of_cell? w _ hx110_0)).trans hx110_0
        replace hx110_1 := (HB.out.cell (World.block_lt_of_cell? w _ hx110_1)).trans hx110_1
        replace hx110_2 := (HB.out.cell (World.block_lt_of_cell? w _ hx110_2)).trans hx110_2
        replace hx110_3 := (HB.out.cell (World.block_lt_of_cell? w _ hx110_3)).trans hx110_3
        replace hx110_4 := (HB.out.cell (World.block_lt_of_cell? w _ hx110_4)).trans hx110_4
        replace p110 := eq_true p110
        replace q110 := eq_true q110
        refine start_ (n := 15) (S := fun w' => w'.cell? ⟨gb106, 0, none⟩ = some (.int .i64 ((rd_T25 l0 t101).f0)) ∧ w'.cell? ⟨gb106, 1, none⟩ = some (.int .i64 ((rd_T25 l0 t101).f1)) ∧ w'.cell? ⟨gb106, 2, none⟩ = some (.int .i64 ((rd_T25 l0 t101).f2)) ∧ w'.cell? ⟨gb106, 3, none⟩ = some (.int .i64 (wrap64 (2 * ((rd_T25 l0 t101).f2)))) ∧ w'.cell? ⟨gb106, 4, none⟩ = some (.int .i64 ((rd_T25 l0 t101).f4)) ∧ w'.cell? (ad105.add ((t101).toNat * 5)) = some (.int .i64 ((rd_T25 l0 t101).f0)) ∧ w'.cell? ⟨(ad105.add ((t101).toNat * 5)).block, (ad105.add ((t101).toNat * 5)).off + 1, none⟩ = some (.int .i64 ((rd_T25 l0 t101).f1)) ∧ w'.cell? ⟨(ad105.add ((t101).toNat * 5)).block, (ad105.add ((t101).toNat * 5)).off + 2, none⟩ = some (.int .i64 ((rd_T25 l0 t101).f2)) ∧ w'.cell? ⟨(ad105.add ((t101).toNat * 5)).block, (ad105.add ((t101).toNat * 5)).off + 3, none⟩ = some (.int .i64 ((rd_T25 l0 t101).f3)) ∧ w'.cell? ⟨(ad105.add ((t101).toNat * 5)).block, (ad105.add ((t101).toNat * 5)).off + 4, none⟩ = some (.int .i64 ((rd_T25 l0 t101).f4))) (ds := []) #[false, false, false, false, false, false, false, false, false, false, false, false, false, false, false] (by kernel_rfl) rfl rfl ⟨(blk_cell BK106.out 0).trans rfl, (blk_cell BK106.out 1).trans rfl, (blk_cell BK106.out 2).trans rfl, (blk_cell BK106.out 3).trans rfl, (blk_cell BK106.out 4).trans rfl, ((HB.out.cell (World.block_lt_of_cell? w _ hw110_0)).trans hw110_0), ((HB.out.cell (World.block_lt_of_cell? w _ hw110_1)).trans hw110_1), ((HB.out.cell (World.block_lt_of_cell? w _ hw110_2)).trans hw110_2), ((HB.out.cell (World.block_lt_of_cell? w _ hw110_3)).trans hw110_3), ((HB.out.cell (World.block_lt_of_cell? w _ hw110_4)).trans hw110_4)⟩ (fun hHeld => ?_); refine with_tabW spec_WashCarpet.tab6 spec_WashCarpet.bits6 (fun HT_ HW_ => ?_)
        generalize w14.drew = w15 at BK106 HB hx110_0 hx110_1 hx110_2 hx110_3 hx110_4 hHeld ⊢
        refine pure_ (i := 0) (N := some 23) (v := ?_) (a' := ?_) #[true, false, false, false, false, false, false, false, false, false, false, false, false, false, false] rfl rfl (any_of HT_.out (by kernel_rfl)) (fun _ _ _ h => h) (Or.inl ⟨by rfl, ?_⟩) ?_ ?_
        rotate_left
        · intro w'
          go_simp
          with_reducible rfl
        rotate_left
        · simp only [Act.put, List.setIfInBounds_toArray, List.set_cons_zero, List.set_cons_succ, i64_w, i32_w]
          rfl
        refine pure_ (i := 1) (N := some 24) (v := ?_) (a' := ?_) #[true, true, false, false, false, false, false, false, false, false, false, false, false, false, false] rfl rfl (any_of HT_.out (by kernel_rfl)) (fun _ _ _ h => h) (Or.inl ⟨by rfl, ?_⟩) ?_ ?_
        rotate_left
        · intro w'
          go_simp
          with_reducible rfl
        rotate_left
        · simp only [Act.put, List.setIfInBounds_toArray, List.set_cons_zero, List.set_cons_succ, i64_w, i32_w]
          rfl
        refine pure_ (i := 4) (N := some 27) (v := ?_) (a' := ?_) #[true, true, false, false, true, false, false, false, false, false, false, false, false, false, false] rfl rfl (any_of HT_.out (by kernel_rfl)) (fun _ _ _ h => h) (Or.inl ⟨by rfl, ?_⟩) ?_ ?_
        rotate_left
        · intro w'
          go_simp
          with_reducible rfl
        rotate_left
        · simp only [Act.put, List.setIfInBounds_toArray, List.set_cons_zero, List.set_cons_succ, i64_w, i32_w]
          rfl
        refine pure_ (i := 6) (N := some 29) (v := ?_) (a' := ?_) #[true, true, false, false, true, false, true, false, false, false, false, false, false, false, false] rfl rfl (any_of HT_.out (by kernel_rfl)) (fun _ _ _ h => h) (Or.inl ⟨by rfl, ?_⟩) ?_ ?_
        rotate_left
        · intro w'
          go_simp
          with_reducible rfl
        rotate_left
        · simp only [Act.put, List.setIfInBounds_toArray, List.set_cons_zero, List.set_cons_succ, i64_w, i32_w]
          rfl
        refine pure_ (i := 7) (N := some 30) (v := ?_) (a' := ?_) #[true, true, false, false, true, false, true, true, false, false, false, false, false, false, false] rfl rfl (any_of HT_.out (by kernel_rfl)) (fun _ _ _ h => h) (Or.inl ⟨by rfl, ?_⟩) ?_ ?_
        rotate_left
        · intro w'
          go_simp
          with_reducible rfl
        rotate_left
        · simp only [Act.put, List.setIfInBounds_toArray, List.set_cons_zero, List.set_cons_succ, i64_w, i32_w]
          rfl
        refine pure_ (i := 8) (N := some 31) (v := ?_) (a' := ?_) #[true, true, false, false, true, false, true, true, true, false, false, false, false, false, false] rfl rfl (any_of HT_.out (by kernel_rfl)) (fun _ _ _ h => h) (Or.inl ⟨by rfl, ?_⟩) ?_ ?_
        rotate_left
        · intro w'
          go_simp
          with_reducible rfl
        rotate_left
        · simp only [Act.put, List.setIfInBounds_toArray, List.set_cons_zero, List.set_cons_succ, i64_w, i32_w]
          rfl
        refine pure_ (i := 9) (N := some 32) (v := ?_) (a' := ?_) #[true, true, false, false, true, false, true, true, true, true, false, false, false, false, false] rfl rfl (any_of HT_.out (by kernel_rfl)) (fun _ _ _ h => h) (Or.inl ⟨by rfl, ?_⟩) ?_ ?_
        rotate_left
        · intro w'
          go_simp
          with_reducible rfl
        rotate_left
        · simp only [Act.put, List.setIfInBounds_toArray, List.set_cons_zero, List.set_cons_succ, i64_w, i32_w]
          rfl
        refine take_ (i := 2) (N := some 25) (v := ?_) (a' := ?_) #[true, true, true, false, true, false, true, true, true, true, false, false, false, false, false] rfl rfl (take_ofW HT_.out HW_.out (by kernel_rfl)) (fun _ _ _ h => h) (Or.inl ⟨by rfl, ?_⟩) hHeld ?_ ?_
        rotate_left
        · rintro w' ⟨s0, s1, s2, s3, s4, s5, s6, s7, s8, s9⟩
          go_simp
          with_reducible rfl
        rotate_left
        · simp only [Act.put, List.setIfInBounds_toArray, List.set_cons_zero, List.set_cons_succ, i64_w, i32_w]
          rfl
        refine take_ (i := 5) (N := some 28) (v := ?_) (a' := ?_) #[true, true, true, false, true, true, true, true, true, true, false, false, false, false, false] rfl rfl (take_ofW HT_.out HW_.out (by kernel_rfl)) (fun _ _ _ h => h) (Or.inl ⟨by rfl, ?_⟩) hHeld ?_ ?_
        rotate_left
        · rintro w' ⟨s0, s1, s2, s3, s4, s5, s6, s7, s8, s9⟩
          go_simp
          with_reducible rfl
        rotate_left
        · simp only [Act.put, List.setIfInBounds_toArray, List.set_cons_zero, List.set_cons_succ, i64_w, i32_w]
          rfl
        refine take_ (i := 10) (N := some 33) (v := ?_) (a' := ?_) #[true, true, true, false, true, true, true, true, true, true, true, false, false, false, false] rfl rfl (take_ofW HT_.out HW_.out (by kernel_rfl)) (fun _ _ _ h => h) (Or.inl ⟨by rfl, ?_⟩) hHeld ?_ ?_
        rotate_left
        · rintro w' ⟨s0, s1, s2, s3, s4, s5, s6, s7, s8, s9⟩
          go_simp
          with_reducible rfl
        rotate_left
        · simp only [Act.put, List.setIfInBounds_toArray, List.set_cons_zero, List.set_cons_succ, i64_w, i32_w]
          rfl
        refine pure_ (i := 11) (N := some 34) (v := ?_) (a' := ?_) #[true, true, true, false, true, true, true, true, true, true, true, true, false, false, false] rfl rfl (any_of HT_.out (by kernel_rfl)) (fun _ _ _ h => h) (Or.inl ⟨by rfl, ?_⟩) ?_ ?_
        rotate_left
        · intro w'
          go_simp
          with_reducible rfl
        rotate_left
        · simp only [Act.put, List.setIfInBounds_toArray, List.set_cons_zero, List.set_cons_succ, i64_w, i32_w]
          rfl
        refine one_ (i := 3) (N := some 26) #[true, true, true, true, true, true, true, true, true, true, true, true, false, false, false] rfl rfl (one_of HT_.out (by kernel_rfl)) (by decide) (fun K hK => ?_)
        refine goes_ Try.func73 (by kernel_rfl) rfl #[.slice (some ad105) l0.length c0, .int .i64 t101, .agg #[.int .i64 ((rd_T25 l0 t101).f0), .int .i64 ((rd_T25 l0 t101).f1), .int .i64 ((rd_T25 l0 t101).f2), .int .i64 (wrap64 (2 * ((rd_T25 l0 t101).f2))), .int .i64 ((rd_T25 l0 t101).f4)]] (by rfl) rfl rfl (by (try simp only [List.map_toArray, List.map_cons, List.map_nil]); first | done | rfl | (simp only [List.length_drop, List.length_take]; rfl)) ?_
        with_reducible refine (spec_l18With.calls _ _ l0 t101 ((rd_T25 l0 t101).f0) ((rd_T25 l0 t101).f1) ((rd_T25 l0 t101).f2) (wrap64 (2 * ((rd_T25 l0 t101).f2))) ((rd_T25 l0 t101).f4) t107 _ ?side1 ?side2 A10.out).mono ?_
        (case side1 => repeat (first | exact (Kd.C_below HR0.out HB.out) | (with_reducible refine Kd.C_alloc ?_ _) | (with_reducible refine Kd.C_drewN ?_ _) | (with_reducible refine Kd.C_drew ?_)))
        (case side2 => exact HC0.out)
        rintro e w16 ⟨v108, rfl, ho0, hb⟩
        refine ⟨_, rfl, ?_⟩
        have n0_ := Aside0.mk (Kd.R_lower (Kd.R_newB ho0 (bS BK106.out)) (below_size (by exact eS HB.out)))
        have n1_ := Aside0.mk (blk_below (bS BK106.out) hb)
        have n2_ := Aside0.mk (below_step (by exact eS HB.out) hb)
        clear BK106
        clear HB
        have HO109 := n0_
        have BK106 := n1_
        have HB := n2_
        clear n0_ n1_ n2_
        (try clear hb)
        (try clear hb2)
        (try clear hk)
        (try clear hi)
        (try clear ho0)
        refine hK.out _ _ ⟨(blk_cell BK106.out 0).trans rfl, (blk_cell BK106.out 1).trans rfl, (blk_cell BK106.out 2).trans rfl, (blk_cell BK106.out 3).trans rfl, (blk_cell BK106.out 4).trans rfl, ((HB.out.cell (World.block_lt_of_cell? w _ hw110_0)).trans hw110_0), ((HB.out.cell (World.block_lt_of_cell? w _ hw110_1)).trans hw110_1), ((HB.out.cell (World.block_lt_of_cell? w _ hw110_2)).trans hw110_2), ((HB.out.cell (World.block_lt_of_cell? w _ hw110_3)).trans hw110_3), ((HB.out.cell (World.block_lt_of_cell? w _ hw110_4)).trans hw110_4)⟩ (fun hHeld => ?_)
        clear hK K
        refine norm_ (a' := ?_) ?_ ?_
        rotate_left
        · show Act.put _ (some 26) _ = _
          simp only [Act.put, List.setIfInBounds_toArray, List.set_cons_zero, List.set_cons_succ, i64_w, i32_w]
          rfl
        refine pure_ (i := 12) (N := some 4) (v := ?_) (a' := ?_) #[true, true, true, true, true, true, true, true, true, true, true, true, true, false, false] rfl rfl (any_of HT_.out (by kernel_rfl)) (fun _ _ _ h => h) (Or.inl ⟨by rfl, ?_⟩) ?_ ?_
        rotate_left
        · intro w'
          go_simp
          with_reducible rfl
        rotate_left
        · simp only [Act.put, List.setIfInBounds_toArray, List.set_cons_zero, List.set_cons_succ, i64_w, i32_w]
          rfl
        refine pure_ (i := 13) (N := some 5) (v := ?_) (a' := ?_) #[true, true, true, true, true, true, true, true, true, true, true, true, true, true, false] rfl rfl (any_of HT_.out (by kernel_rfl)) (fun _ _ _ h => h) (Or.inl ⟨by rfl, ?_⟩) ?_ ?_
        rotate_left
        · intro w'
          go_simp
          with_reducible rfl
        rotate_left
        · simp only [Act.put, List.setIfInBounds_toArray, List.set_cons_zero, List.set_cons_succ, i64_w, i32_w]
          rfl
        refine pure_ (i := 14) (N := some 6) (v := ?_) (a' := ?_) #[true, true, true, true, true, true, true, true, true, true, true, true, true, true, true] rfl rfl (any_of HT_.out (by kernel_rfl)) (fun _ _ _ h => h) (Or.inl ⟨by rfl, ?_⟩) ?_ ?_
        rotate_left
        · intro w'
          go_simp
          with_reducible rfl
        rotate_left
        · simp only [Act.put, List.setIfInBounds_toArray, List.set_cons_zero, List.set_cons_succ, i64_w, i32_w]
          rfl
        refine done_ (done_of HT_.out (by kernel_rfl)) ?_
        try go_wp2
        go_ret3
        exact ⟨_, by first | rfl | (simp [errW_none, errW_some] <;> rfl) | (simp [*, errW_none, errW_some] <;> rfl), by exact Ho.RS <| Kd.R_mono HO109.out (fun _ hk => trivial), by exact eS HB.out⟩
      · rw [if_neg c9] at H
        exact absurd H (by simp)
    · rw [if_neg c8] at H
      exact absurd H (by simp)

end Go.Proofs.Ytdennkmfjkgfhaa.X

-- Qwashes
namespace Go.Proofs.Ytdennkmfjkgfhaa.Pure
open Go Go.RowKit Go.Proofs Go.Proofs.Ytdennkmfjkgfhaa.X Go.Proofs.YtdennkmfjkgfhaaW.PrintWords Go.Proofs.YtdennkmfjkgfhaaW.PrintLast
set_option linter.unusedVariables false
set_option linter.unusedSimpArgs false

def washM (l : List S25) (n : Int) : List S25 × Int × Bool :=
  if findW l n < 0 then ([], 0, false) else
  (let x := l.getD (findW l n).toNat z25; (l.set (findW l n).toNat ⟨x.f0, x.f1, x.f2, 2 * x.f2, x.f4⟩, 2 * x.f2 - x.f3, true))
theorem washS_eq {k : Nat} {l : List S25} (hk : 3 * l.length + 2 < k) (hl : l.length ≤ 1073741824) (n : Int) : spec_WashCarpet.f k l n = some (washM l n) := by
  simp only [spec_WashCarpet.f, findWS_eq hk hl, Option.bind_some, washM]
  by_cases h : 0 ≤ findW l n
  · obtain ⟨j, hj, hlt, _, _, hw⟩ := findW_of h
    have hw := wet_of hw
    rw [hj, if_neg (show ¬ (j : Int) < 0 by omega), if_neg (show ¬ (j : Int) < 0 by omega), if_pos (show (0 : Int) ≤ j by omega), if_pos (show (j : Int) < l.length by omega)]
    simp only [rdIW_nat, withWS_eq hl hlt, Option.bind_some, Int.toNat_natCast]
    rw [w64 (x := 2 * _) (by omega) (by omega), w64 (x := 2 * _ - _) (by omega) (by omega)]
  · rw [findW_none h]; rfl
theorem washI_eq {k : Nat} {l : List S25} (hk : l.length < k) (hl : l.length ≤ 1073741824) (n : Int) : impl_WashCarpet.f k l n = some (washM l n) := by
  simp only [impl_WashCarpet.f, findWI_eq hk hl, Option.bind_some, washM]
  by_cases h : 0 ≤ findW l n
  · obtain ⟨j, hj, hlt, _, _, hw⟩ := findW_of h
    have hw := wet_of hw
    rw [hj, if_neg (show ¬ (j : Int) < 0 by omega), if_neg (show ¬ (j : Int) < 0 by omega), if_pos (show (0 : Int) ≤ j by omega), if_pos (show (j : Int) < l.length by omega)]
    simp only [rdIW_nat, withWI_eq hl hlt, Option.bind_some, Int.toNat_natCast]
    rw [w64 (x := 2 * _) (by omega) (by omega), w64 (x := 2 * _ - _) (by omega) (by omega), w64 (x := _ + (2 * _ - _)) (by omega) (by omega), show ∀ a b : Int, a + (2 * b - a) = 2 * b from fun a b => by omega]
  · rw [findW_none h]; rfl
theorem washM_len (l : List S25) (n : Int) : (washM l n).1.length ≤ l.length := by
  unfold washM; split
  · simp
  · simp [List.length_set]
def spinM (l : List S25) (n : Int) : List S25 × Int × Bool :=
  if findW l n < 0 then ([], 0, false) else
  (let x := l.getD (findW l n).toNat z25; (l.set (findW l n).toNat ⟨x.f0, x.f1, x.f2, x.f3 / 2, x.f4⟩, x.f3 - x.f3 / 2, true))
theorem spinS_eq {k : Nat} {l : List S25} (hk : 3 * l.length + 2 < k) (hl : l.length ≤ 1073741824) (n : Int) : spec_SpinCarpet.f k l n = some (spinM l n) := by
  simp only [spec_SpinCarpet.f, findWS_eq hk hl, Option.bind_some, spinM]
  by_cases h : 0 ≤ findW l n
  · obtain ⟨j, hj, hlt, _, _, hw⟩ := findW_of h
    have hw := wet_of hw
    rw [hj, if_neg (show ¬ (j : Int) < 0 by omega), if_neg (show ¬ (j : Int) < 0 by omega), if_pos (show (0 : Int) ≤ j by omega), if_pos (show (j : Int) < l.length by omega)]
    simp only [rdIW_nat, withWS_eq hl hlt, Option.bind_some, Int.toNat_natCast]
    rw [Int.tdiv_eq_ediv_of_nonneg (by omega), w64 (x := _ / 2) (by omega) (by omega), w64 (x := _ - _ / 2) (by omega) (by omega)]
  · rw [findW_none h]; rfl
theorem ceil2_eq {x : Int} (h : 0 ≤ x ∧ x ≤ 4611686018427387904) : impl_ceilDiv.f x 2 = some (x - x / 2) := by
  unfold impl_ceilDiv.f
  rw [if_neg (by omega), w64 (x := x + 2) (by omega) (by omega), w64 (x := x + 2 - 1) (by omega) (by omega), Int.tdiv_eq_ediv_of_nonneg (by omega), w64 (by omega) (by omega)]
  congr 1; omega
theorem spinI_eq {k : Nat} {l : List S25} (hk : l.length < k) (hl : l.length ≤ 1073741824) (n : Int) : impl_SpinCarpet.f k l n = some (spinM l n) := by
  simp only [impl_SpinCarpet.f, findWI_eq hk hl, Option.bind_some, spinM]
  by_cases h : 0 ≤ findW l n
  · obtain ⟨j, hj, hlt, _, _, hw⟩ := findW_of h
    have hw := wet_of hw
    rw [hj, if_neg (show ¬ (j : Int) < 0 by omega), if_neg (show ¬ (j : Int) < 0 by omega), if_pos (show (0 : Int) ≤ j by omega), if_pos (show (j : Int) < l.length by omega)]
    simp only [rdIW_nat, Int.toNat_natCast]
    rw [ceil2_eq (by omega)]
    simp only [withWI_eq hl hlt, Option.bind_some]
    rw [w64 (x := _ - (_ - _ / 2)) (by omega) (by omega), show ∀ a b : Int, a - (a - b) = b from fun a b => by omega]
  · rw [findW_none h]; rfl
theorem spinM_len (l : List S25) (n : Int) : (spinM l n).1.length ≤ l.length := by
  unfold spinM; split
  · simp
  · simp [List.length_set]
def shearWM (l : List S25) (n s : Int) : List S25 × Int × Bool :=
  if findW l n < 0 then ([], 0, false) else
  (let x := l.getD (findW l n).toNat z25;
    if decide (1 ≤ s ∧ s ≤ 20) && (dryB x.f2 x.f3 && wetB x.f0 x.f1 (x.f2 - 2 * x.f1 * s) x.f3 (x.f4 - s)) then
      (l.set (findW l n).toNat ⟨x.f0, x.f1, x.f2 - 2 * x.f1 * s, x.f3, x.f4 - s⟩, 2 * x.f1 * s, true) else ([], 0, false))
theorem shearWS_eq {k : Nat} {l : List S25} (hk : 3 * l.length + 2 < k) (hl : l.length ≤ 1073741824) (n s : Int) : spec_ShearCarpet.f k l n s = some (shearWM l n s) := by
  obtain ⟨k, rfl, hk2⟩ := succ_of hk
  simp only [spec_ShearCarpet.f, spec_ShearCarpet.j0, findWS_eq (k := k + 1) (l := l) (by omega) hl, Option.bind_some, shearWM, l1In_eq]
  by_cases h : 0 ≤ findW l n
  · obtain ⟨j, hj, hlt, _, _, hw⟩ := findW_of h
    have hw' := wet_of hw
    rw [hj, if_neg (show ¬ (j : Int) < 0 by omega), if_neg (show ¬ (j : Int) < 0 by omega)]
    cases hs : decide (1 ≤ s ∧ s ≤ 20)
    · simp
    have hs := of_decide_eq_true hs
    simp only [Bool.not_true, Bool.false_eq_true, if_false, Bool.true_and, Int.toNat_natCast]
    rw [if_pos (show (0 : Int) ≤ j by omega), if_pos (show (j : Int) < l.length by omega), rdIW_nat]
    cases hd : dryB (l.getD j z25).f2 (l.getD j z25).f3
    · unfold spec_l18Shorn.f
      rw [l18Dry_eq (by omega), hd]
      simp
    rw [shorn_eq hw hd (by omega)]
    simp only [Option.bind_some, Bool.true_and]
    cases wetB (l.getD j z25).f0 (l.getD j z25).f1 ((l.getD j z25).f2 - 2 * (l.getD j z25).f1 * s) (l.getD j z25).f3 ((l.getD j z25).f4 - s)
    · simp
    · simp only [if_true, withWS_eq hl hlt, Option.bind_some]
      have hm := mul_bd (a := 2 * (l.getD j z25).f1) (b := s) (A := 8000) (B := 20) (by omega) (by omega) (by omega) (by omega)
      rw [show ∀ a b : Int, a - (a - b) = b from fun a b => by omega, w64 (by omega) (by omega)]
  · rw [findW_none h]; simp
theorem shearWI_eq {k : Nat} {l : List S25} (hk : l.length < k) (hl : l.length ≤ 1073741824) (n s : Int) : impl_ShearCarpet.f k l n s = some (shearWM l n s) := by
  obtain ⟨k, rfl, hk2⟩ := succ_of hk
  simp only [impl_ShearCarpet.f, impl_ShearCarpet.j0, findWI_eq (k := k + 1) (l := l) (by omega) hl, Option.bind_some, shearWM, in_eq]
  by_cases h : 0 ≤ findW l n
  · obtain ⟨j, hj, hlt, _, _, hw⟩ := findW_of h
    have hw' := wet_of hw
    rw [hj, if_neg (show ¬ (j : Int) < 0 by omega), if_neg (show ¬ (j : Int) < 0 by omega)]
    cases hs : decide (1 ≤ s ∧ s ≤ 20)
    · simp
    have hs := of_decide_eq_true hs
    simp only [if_true, Bool.true_and, Int.toNat_natCast]
    rw [if_pos (show (0 : Int) ≤ j by omega), if_pos (show (j : Int) < l.length by omega), rdIW_nat, isDry_eq (by omega)]
    simp only [Option.bind_some]
    cases hd : dryB (l.getD j z25).f2 (l.getD j z25).f3
    · simp
    simp only [Bool.not_true, Bool.false_eq_true, if_false, Bool.true_and]
    rw [if_pos (show (0 : Int) ≤ j by omega), if_pos (show (j : Int) < l.length by omega), sheared_eq hw (by omega)]
    simp only [Option.bind_some, IsWetCarpet_eq]
    cases wetB (l.getD j z25).f0 (l.getD j z25).f1 ((l.getD j z25).f2 - 2 * (l.getD j z25).f1 * s) (l.getD j z25).f3 ((l.getD j z25).f4 - s)
    · simp
    · simp only [if_true, withWI_eq hl hlt, Option.bind_some]
      have hm := mul_bd (a := 2 * (l.getD j z25).f1) (b := s) (A := 8000) (B := 20) (by omega) (by omega) (by omega) (by omega)
      rw [show ∀ a b : Int, a - (a - b) = b from fun a b => by omega, w64 (by omega) (by omega)]
  · rw [findW_none h]; simp
theorem shearWM_len (l : List S25) (n s : Int) : (shearWM l n s).1.length ≤ l.length := by
  unfold shearWM; split
  · simp
  · simp only []; split
    · simp [List.length_set]
    · simp

end Go.Proofs.Ytdennkmfjkgfhaa.Pure

-- PureFnExactShearCarpet
namespace Go.Proofs.Ytdennkmfjkgfhaa.Pure
open Go Go.RowKit Go.Proofs Go.Proofs.Ytdennkmfjkgfhaa.X Go.Proofs.YtdennkmfjkgfhaaW.PrintWords Go.Proofs.YtdennkmfjkgfhaaW.PrintLast
set_option linter.unusedVariables false
set_option linter.unusedSimpArgs false

theorem FnExactShearCarpet : laws_FnExactShearCarpet.Pure := by
  intro l n s hl _ _
  refine ⟨4000001, ?_⟩
  simp only [laws_FnExactShearCarpet.f, szWetS_eq hl.1 (show (0 : Int) ≤ 1048576 ∧ (1048576 : Int) ≤ 9223372036854775807 by omega), Option.bind_some]
  by_cases hs : (1048576 : Int) < l.length
  · simp [hs]
  rw [if_neg hs, if_neg (by omega)]
  have h1 : l.length ≤ 1048576 := by omega
  have h2 : (l.map toW).length ≤ 1048576 := by rw [List.length_map]; exact h1
  have h3 := shearWM_len (l.map toW) n s
  have h4 : 3 * (l.map toW).length + 2 < 4000000 := by omega
  simp only [toWetS_eq (k := 4000001) (l := l) (by omega) h1, Option.bind_some, shearWS_eq (k := 4000001) (l := l.map toW) (by omega) (by omega), shearWI_eq (k := 4000001) (l := l.map toW) (by omega) (by omega), eqWetS_refl (k := 4000001) (l := (shearWM (l.map toW) n s).1) (by omega) (by omega), if_true, laws_FnExactShearCarpet.j0, toWetS_eq (k := 4000000) (l := l) (by omega) h1, eqWetS_refl (k := 4000000) (l := l.map toW) (by omega) (by omega), markWS_eq (k := 4000000) (l := l.map toW) (by omega) h2, eqWetS_refl (k := 4000000) (l := (shearWM (l.map toW) n s).1) (by omega) (by omega)]
  simp only [bne_self_eq_false, Bool.false_eq_true, if_false]
  rw [if_neg (by omega)]
  simp only [laws_FnExactShearCarpet.j1, Bool.false_eq_true, if_false, markWS_eq (k := 3999999) (l := (shearWM (l.map toW) n s).1) (by omega) (by omega), Option.bind_some, heldWS_eq (k := 3999999) (n := (shearWM (l.map toW) n s).1.length) (by omega) (by omega), if_true, toWetS_eq (k := 3999999) (l := l) (by omega) h1, shearWI_eq (k := 3999999) (l := l.map toW) (by omega) (by omega), eqWetS_refl (k := 3999999) (l := (shearWM (l.map toW) n s).1) (by omega) (by omega), bne_self_eq_false]
  rw [if_neg (by omega)]
  simp only [laws_FnExactShearCarpet.j2, Bool.false_eq_true, if_false, heldWS_eq (k := 3999998) (n := (shearWM (l.map toW) n s).1.length) (by omega) (by omega), Option.bind_some, if_true]
  rw [if_neg (by omega)]

end Go.Proofs.Ytdennkmfjkgfhaa.Pure
