/- What the law FnExactPayPart needs, part 5 of 5: what each function of the program that it reaches returns (printed by this session's own program, checked by Lean), and plain mathematics about it. Conditions: those of each theorem. -/
import Derived.Test.YtahfahlbdgbfeaaDoorZBD
-- XlawsFnExactPayPartF9
namespace Go.Proofs.YtahfahlbdgbfeaaDoor.X
open Ho (bS eS)
open Go.RowKit Go.Proofs.YtahfahlbdgbfeaaDoorW.PrintWords Go.Proofs.YtahfahlbdgbfeaaDoorW.PrintLast Go.Proofs.YtahfahlbdgbfeaaDoorW.PrintMore
attribute [local go_sem] max2_int min2_int max_two min_two max_three min_three max_four min_four   -- for this text's walks alone
set_option linter.unusedVariables false
set_option linter.unusedSimpArgs false

/-! ### laws_FnExactPayPart: function 9 -/
mutual
def laws_FnExactPayPart.j0 : Nat → List (S38) → Int → Int → List (S41) → Bool → List (S41) → List (S41) → Bool → Bool → Option (Bool)
  | 0, _, _, _, _, _, _, _, _, _ => none
  | k + 1, x0, x1, x2, x8, x9, x10, x11, x12, x48 => if x48 = true then (some false) else ((laws_toCarpetOrderS.f k x0).bind fun t117 => ((laws_eqCarpetOrderS.f k x10 t117).bind fun t120 => (if t120 = true then ((laws_markCarpetOrderS.f k x10 1).bind fun bt121 => (if bt121.1 < 0 then (laws_FnExactPayPart.j1 k x0 x1 x2 x8 x9 x11 true) else ((laws_eqCarpetOrderS.f k x11 x8).bind fun t123 => (if t123 = true then (laws_FnExactPayPart.j1 k x0 x1 x2 x8 x9 x11 (x12 != x9)) else (laws_FnExactPayPart.j1 k x0 x1 x2 x8 x9 x11 true))))) else (some false))))
def laws_FnExactPayPart.j1 : Nat → List (S38) → Int → Int → List (S41) → Bool → List (S41) → Bool → Option (Bool)
  | 0, _, _, _, _, _, _, _ => none
  | k + 1, x0, x1, x2, x8, x9, x11, x69 => if x69 = true then (some false) else ((laws_markCarpetOrderS.f k x11 1).bind fun bt124 => ((laws_heldCarpetOrderS.f k bt124.2 1).bind fun t126 => (if t126 < 0 then (some false) else (if t126 = bt124.1 then ((laws_toCarpetOrderS.f k x0).bind fun t127 => ((impl_PayPart.f k t127 x1 x2).bind fun bt130 => ((laws_eqCarpetOrderS.f k bt130.1 x8).bind fun t134 => (if t134 = true then (laws_FnExactPayPart.j2 k bt124.2 bt124.1 (bt130.2 != x9)) else (laws_FnExactPayPart.j2 k bt124.2 bt124.1 true))))) else (some false)))))
def laws_FnExactPayPart.j2 : Nat → List (S41) → Int → Bool → Option (Bool)
  | 0, _, _, _ => none
  | k + 1, x11, x14, x97 => if x97 = true then (some false) else ((laws_heldCarpetOrderS.f k x11 1).bind fun t135 => (if t135 < 0 then (some false) else (if t135 = x14 then (some true) else (some false))))
end
def laws_FnExactPayPart.f (k : Nat) (l0 : List (S38)) (a1 : Int) (a2 : Int) : Option (Bool) := (laws_szCarpetOrderS.f k l0 1048576).bind fun t101 => (if t101 < 0 then (some true) else ((laws_toCarpetOrderS.f k l0).bind fun t102 => ((spec_PayPart.f k t102 a1 a2).bind fun bt105 => ((laws_toCarpetOrderS.f k l0).bind fun t109 => ((impl_PayPart.f k t109 a1 a2).bind fun bt112 => ((laws_eqCarpetOrderS.f k bt112.1 bt105.1).bind fun t116 => (if t116 = true then (laws_FnExactPayPart.j0 k l0 a1 a2 bt105.1 bt105.2 t109 bt112.1 bt112.2 (bt112.2 != bt105.2)) else (laws_FnExactPayPart.j0 k l0 a1 a2 bt105.1 bt105.2 t109 bt112.1 bt112.2 true))))))))
theorem laws_FnExactPayPart.mono_l : ∀ k, (∀ y0 y1 y2 y3 y4 y5 y6 y7 y8, LeO (laws_FnExactPayPart.j0 k y0 y1 y2 y3 y4 y5 y6 y7 y8) (laws_FnExactPayPart.j0 (k + 1) y0 y1 y2 y3 y4 y5 y6 y7 y8)) ∧ (∀ y0 y1 y2 y3 y4 y5 y6, LeO (laws_FnExactPayPart.j1 k y0 y1 y2 y3 y4 y5 y6) (laws_FnExactPayPart.j1 (k + 1) y0 y1 y2 y3 y4 y5 y6)) ∧ (∀ y0 y1 y2, LeO (laws_FnExactPayPart.j2 k y0 y1 y2) (laws_FnExactPayPart.j2 (k + 1) y0 y1 y2))
  | 0 => ⟨fun _ _ _ _ _ _ _ _ _ r h => by simp [laws_FnExactPayPart.j0] at h, fun _ _ _ _ _ _ _ r h => by simp [laws_FnExactPayPart.j1] at h, fun _ _ _ r h => by simp [laws_FnExactPayPart.j2] at h⟩
  | k + 1 => by
    obtain ⟨ih0, ih1, ih2⟩ := laws_FnExactPayPart.mono_l k
    refine ⟨?_, ?_, ?_⟩
    · intro y0 y1 y2 y3 y4 y5 y6 y7 y8
      unfold laws_FnExactPayPart.j0
      repeat' first
      | (with_reducible exact ih0 _ _ _ _ _ _ _ _ _)
      | (with_reducible exact ih1 _ _ _ _ _ _ _)
      | (with_reducible exact ih2 _ _ _)
      | (with_reducible exact impl_PayPart.mono _ _ _ _)
      | (with_reducible exact laws_eqCarpetOrderS.mono _ _ _)
      | (with_reducible exact laws_heldCarpetOrderS.mono _ _ _)
      | (with_reducible exact laws_markCarpetOrderS.mono _ _ _)
      | (with_reducible exact laws_szCarpetOrderS.mono _ _ _)
      | (with_reducible exact laws_toCarpetOrderS.mono _ _)
      | (with_reducible exact spec_PayPart.mono _ _ _ _)
      | (with_reducible exact LeO.refl _)
      | (with_reducible exact LeO.none _)
      | (with_reducible refine LeO.ite ?_ ?_)
      | (with_reducible refine LeO.bind ?_ (fun _ => ?_))
      | exact ih0 _ _ _ _ _ _ _ _ _
      | exact ih1 _ _ _ _ _ _ _
      | exact ih2 _ _ _
      | exact impl_PayPart.mono _ _ _ _
      | exact laws_eqCarpetOrderS.mono _ _ _
      | exact laws_heldCarpetOrderS.mono _ _ _
      | exact laws_markCarpetOrderS.mono _ _ _
      | exact laws_szCarpetOrderS.mono _ _ _
      | exact laws_toCarpetOrderS.mono _ _
      | exact spec_PayPart.mono _ _ _ _
      | exact LeO.none _
      | refine LeO.ite ?_ ?_
      | refine LeO.bind ?_ (fun _ => ?_)
    · intro y0 y1 y2 y3 y4 y5 y6
      unfold laws_FnExactPayPart.j1
      repeat' first
      | (with_reducible exact ih0 _ _ _ _ _ _ _ _ _)
      | (with_reducible exact ih1 _ _ _ _ _ _ _)
      | (with_reducible exact ih2 _ _ _)
      | (with_reducible exact impl_PayPart.mono _ _ _ _)
      | (with_reducible exact laws_eqCarpetOrderS.mono _ _ _)
      | (with_reducible exact laws_heldCarpetOrderS.mono _ _ _)
      | (with_reducible exact laws_markCarpetOrderS.mono _ _ _)
      | (with_reducible exact laws_szCarpetOrderS.mono _ _ _)
      | (with_reducible exact laws_toCarpetOrderS.mono _ _)
      | (with_reducible exact spec_PayPart.mono _ _ _ _)
      | (with_reducible exact LeO.refl _)
      | (with_reducible exact LeO.none _)
      | (with_reducible refine LeO.ite ?_ ?_)
      | (with_reducible refine LeO.bind ?_ (fun _ => ?_))
      | exact ih0 _ _ _ _ _ _ _ _ _
      | exact ih1 _ _ _ _ _ _ _
      | exact ih2 _ _ _
      | exact impl_PayPart.mono _ _ _ _
      | exact laws_eqCarpetOrderS.mono _ _ _
      | exact laws_heldCarpetOrderS.mono _ _ _
      | exact laws_markCarpetOrderS.mono _ _ _
      | exact laws_szCarpetOrderS.mono _ _ _
      | exact laws_toCarpetOrderS.mono _ _
      | exact spec_PayPart.mono _ _ _ _
      | exact LeO.none _
      | refine LeO.ite ?_ ?_
      | refine LeO.bind ?_ (fun _ => ?_)
    · intro y0 y1 y2
      unfold laws_FnExactPayPart.j2
      repeat' first
      | (with_reducible exact ih0 _ _ _ _ _ _ _ _ _)
      | (with_reducible exact ih1 _ _ _ _ _ _ _)
      | (with_reducible exact ih2 _ _ _)
      | (with_reducible exact impl_PayPart.mono _ _ _ _)
      | (with_reducible exact laws_eqCarpetOrderS.mono _ _ _)
      | (with_reducible exact laws_heldCarpetOrderS.mono _ _ _)
      | (with_reducible exact laws_markCarpetOrderS.mono _ _ _)
      | (with_reducible exact laws_szCarpetOrderS.mono _ _ _)
      | (with_reducible exact laws_toCarpetOrderS.mono _ _)
      | (with_reducible exact spec_PayPart.mono _ _ _ _)
      | (with_reducible exact LeO.refl _)
      | (with_reducible exact LeO.none _)
      | (with_reducible refine LeO.ite ?_ ?_)
      | (with_reducible refine LeO.bind ?_ (fun _ => ?_))
      | exact ih0 _ _ _ _ _ _ _ _ _
      | exact ih1 _ _ _ _ _ _ _
      | exact ih2 _ _ _
      | exact impl_PayPart.mono _ _ _ _
      | exact laws_eqCarpetOrderS.mono _ _ _
      | exact laws_heldCarpetOrderS.mono _ _ _
      | exact laws_markCarpetOrderS.mono _ _ _
      | exact laws_szCarpetOrderS.mono _ _ _
      | exact laws_toCarpetOrderS.mono _ _
      | exact spec_PayPart.mono _ _ _ _
      | exact LeO.none _
      | refine LeO.ite ?_ ?_
      | refine LeO.bind ?_ (fun _ => ?_)
theorem laws_FnExactPayPart.mono : ∀ a0 a1 a2 k, LeO (laws_FnExactPayPart.f k a0 a1 a2) (laws_FnExactPayPart.f (k + 1) a0 a1 a2) := by
  intro a0 a1 a2 k
  obtain ⟨ih0, ih1, ih2⟩ := laws_FnExactPayPart.mono_l k
  unfold laws_FnExactPayPart.f
  repeat' first
      | (with_reducible exact ih0 _ _ _ _ _ _ _ _ _)
      | (with_reducible exact ih1 _ _ _ _ _ _ _)
      | (with_reducible exact ih2 _ _ _)
      | (with_reducible exact impl_PayPart.mono _ _ _ _)
      | (with_reducible exact laws_eqCarpetOrderS.mono _ _ _)
      | (with_reducible exact laws_heldCarpetOrderS.mono _ _ _)
      | (with_reducible exact laws_markCarpetOrderS.mono _ _ _)
      | (with_reducible exact laws_szCarpetOrderS.mono _ _ _)
      | (with_reducible exact laws_toCarpetOrderS.mono _ _)
      | (with_reducible exact spec_PayPart.mono _ _ _ _)
      | (with_reducible exact LeO.refl _)
      | (with_reducible exact LeO.none _)
      | (with_reducible refine LeO.ite ?_ ?_)
      | (with_reducible refine LeO.bind ?_ (fun _ => ?_))
      | exact ih0 _ _ _ _ _ _ _ _ _
      | exact ih1 _ _ _ _ _ _ _
      | exact ih2 _ _ _
      | exact impl_PayPart.mono _ _ _ _
      | exact laws_eqCarpetOrderS.mono _ _ _
      | exact laws_heldCarpetOrderS.mono _ _ _
      | exact laws_markCarpetOrderS.mono _ _ _
      | exact laws_szCarpetOrderS.mono _ _ _
      | exact laws_toCarpetOrderS.mono _ _
      | exact spec_PayPart.mono _ _ _ _
      | exact LeO.none _
      | refine LeO.ite ?_ ?_
      | refine LeO.bind ?_ (fun _ => ?_)
set_option maxHeartbeats 8000000 in
set_option maxRecDepth 100000 in
theorem laws_FnExactPayPart.calls (k : Nat) (A0 : Option Addr) (c0 : Nat) (l0 : List (S38)) (a1 : Int) (a2 : Int) (r : Bool) (w : World) (hr0 : Kd.C k38 w A0 l0.length l0) (hc0 : l0.length ≤ c0) (ht : r = true) (h : laws_FnExactPayPart.f k l0 a1 a2 = some r) :
  Calls Tryd.prog 9 #[.slice A0 l0.length c0, .int .i64 a1, .int .i64 a2] w fun e w' => e = .returned (.bool r) ∧ Below w.heap.size w w' := by
 have HR0 := Aside0.mk hr0
 have HC0 := Aside0.mk hc0
 clear hr0 hc0
 have HB := Aside0.mk (Below.refl w.heap.size w)
 have HT := Aside0.mk ht
 clear ht
 have H : ((laws_szCarpetOrderS.f k l0 1048576).bind fun t101 => (if t101 < 0 then (some true) else ((laws_toCarpetOrderS.f k l0).bind fun t102 => ((spec_PayPart.f k t102 a1 a2).bind fun bt105 => ((laws_toCarpetOrderS.f k l0).bind fun t109 => ((impl_PayPart.f k t109 a1 a2).bind fun bt112 => ((laws_eqCarpetOrderS.f k bt112.1 bt105.1).bind fun t116 => (if t116 = true then (laws_FnExactPayPart.j0 k l0 a1 a2 bt105.1 bt105.2 t109 bt112.1 bt112.2 (bt112.2 != bt105.2)) else (laws_FnExactPayPart.j0 k l0 a1 a2 bt105.1 bt105.2 t109 bt112.1 bt112.2 true))))))))) = some r := h
 clear h
 replace H := Option.bind_eq_some_iff.mp H
 obtain ⟨t101, A40, H⟩ := H
 replace H : (if t101 < 0 then (some true) else ((laws_toCarpetOrderS.f k l0).bind fun t102 => ((spec_PayPart.f k t102 a1 a2).bind fun bt105 => ((laws_toCarpetOrderS.f k l0).bind fun t109 => ((impl_PayPart.f k t109 a1 a2).bind fun bt112 => ((laws_eqCarpetOrderS.f k bt112.1 bt105.1).bind fun t116 => (if t116 = true then (laws_FnExactPayPart.j0 k l0 a1 a2 bt105.1 bt105.2 t109 bt112.1 bt112.2 (bt112.2 != bt105.2)) else (laws_FnExactPayPart.j0 k l0 a1 a2 bt105.1 bt105.2 t109 bt112.1 bt112.2 true)))))))) = some r := H
 have A4 := Aside0.mk A40
 clear A40
 by_cases c5 : t101 < 0
 ·rw [if_pos c5] at H
  have c5b0 : decide (t101 < 0) = true := decide_eq_true c5
  clear c5
  as_aux_lemma =>
   obtain rfl := Option.some.inj H
   go_enter Tryd.func9, Tryd.ntmps9
   go_wp2_with (first | ((with_reducible refine gate_callee (f := 14) rfl ?_); refine goesL_ (some 20) rfl rfl Tryd.func14 (by kernel_rfl) rfl #[.slice A0 l0.length c0, .int .i64 1048576] rfl (by (try simp only [List.map_toArray, List.map_cons, List.map_nil]); first | done | rfl | (simp only [List.length_drop, List.length_take]; rfl)) ?_; (with_reducible refine (laws_szCarpetOrderS.calls k _ _ l0 1048576 t101 _ ?side1 ?side2 A4.out).mono ?_); (case side1 => repeat (first | exact HR0.out | (with_reducible refine Kd.C_alloc ?_ _) | (with_reducible refine Kd.C_drewN ?_ _) | (with_reducible refine Kd.C_drew ?_))); (case side2 => exact HC0.out); rintro e w6 ⟨rfl, hb⟩; refine ⟨_, rfl, ?_⟩; have n0_ := Aside0.mk (below_step (by exact eS HB.out) hb); clear HB; have HB := n0_; clear n0_; (try clear hb); (try clear hb2); (try clear hk); (try clear hi)))
   go_ret
   exact ⟨by first | rfl | (simp [errW_none, errW_some] <;> rfl) | (simp [*, errW_none, errW_some] <;> rfl), by exact eS HB.out⟩
 ·rw [if_neg c5] at H
  have c5b0 : decide (t101 < 0) = false := decide_eq_false c5
  clear c5
  replace H := Option.bind_eq_some_iff.mp H
  obtain ⟨t102, A70, H⟩ := H
  replace H : ((spec_PayPart.f k t102 a1 a2).bind fun bt105 => ((laws_toCarpetOrderS.f k l0).bind fun t109 => ((impl_PayPart.f k t109 a1 a2).bind fun bt112 => ((laws_eqCarpetOrderS.f k bt112.1 bt105.1).bind fun t116 => (if t116 = true then (laws_FnExactPayPart.j0 k l0 a1 a2 bt105.1 bt105.2 t109 bt112.1 bt112.2 (bt112.2 != bt105.2)) else (laws_FnExactPayPart.j0 k l0 a1 a2 bt105.1 bt105.2 t109 bt112.1 bt112.2 true)))))) = some r := H
  have A7 := Aside0.mk A70
  clear A70
  replace H := Option.bind_eq_some_iff.mp H
  obtain ⟨⟨t105, t106⟩, A80, H⟩ := H
  replace H : ((laws_toCarpetOrderS.f k l0).bind fun t109 => ((impl_PayPart.f k t109 a1 a2).bind fun bt112 => ((laws_eqCarpetOrderS.f k bt112.1 t105).bind fun t116 => (if t116 = true then (laws_FnExactPayPart.j0 k l0 a1 a2 t105 t106 t109 bt112.1 bt112.2 (bt112.2 != t106)) else (laws_FnExactPayPart.j0 k l0 a1 a2 t105 t106 t109 bt112.1 bt112.2 true))))) = some r := H
  have A8 := Aside0.mk A80
  clear A80
  replace H := Option.bind_eq_some_iff.mp H
  obtain ⟨t109, A90, H⟩ := H
  replace H : ((impl_PayPart.f k t109 a1 a2).bind fun bt112 => ((laws_eqCarpetOrderS.f k bt112.1 t105).bind fun t116 => (if t116 = true then (laws_FnExactPayPart.j0 k l0 a1 a2 t105 t106 t109 bt112.1 bt112.2 (bt112.2 != t106)) else (laws_FnExactPayPart.j0 k l0 a1 a2 t105 t106 t109 bt112.1 bt112.2 true)))) = some r := H
  have A9 := Aside0.mk A90
  clear A90
  replace H := Option.bind_eq_some_iff.mp H
  obtain ⟨⟨t112, t113⟩, A100, H⟩ := H
  replace H : ((laws_eqCarpetOrderS.f k t112 t105).bind fun t116 => (if t116 = true then (laws_FnExactPayPart.j0 k l0 a1 a2 t105 t106 t109 t112 t113 (t113 != t106)) else (laws_FnExactPayPart.j0 k l0 a1 a2 t105 t106 t109 t112 t113 true))) = some r := H
  have A10 := Aside0.mk A100
  clear A100
  have HC11 := Aside0.mk H
  clear H
  go_enter Tryd.func9, Tryd.ntmps9
  go_upto_region 8 with (first | ((with_reducible refine gate_callee (f := 14) rfl ?_); refine goesL_ (some 20) rfl rfl Tryd.func14 (by kernel_rfl) rfl #[.slice A0 l0.length c0, .int .i64 1048576] rfl (by (try simp only [List.map_toArray, List.map_cons, List.map_nil]); first | done | rfl | (simp only [List.length_drop, List.length_take]; rfl)) ?_; (with_reducible refine (laws_szCarpetOrderS.calls k _ _ l0 1048576 t101 _ ?side1 ?side2 A4.out).mono ?_); (case side1 => repeat (first | exact HR0.out | (with_reducible refine Kd.C_alloc ?_ _) | (with_reducible refine Kd.C_drewN ?_ _) | (with_reducible refine Kd.C_drew ?_))); (case side2 => exact HC0.out); rintro e w12 ⟨rfl, hb⟩; refine ⟨_, rfl, ?_⟩; have n0_ := Aside0.mk (below_step (by exact eS HB.out) hb); clear HB; have HB := n0_; clear n0_; (try clear hb); (try clear hb2); (try clear hk); (try clear hi)) | ((with_reducible refine gate_callee (f := 16) rfl ?_); refine goesL_ (some 25) rfl rfl Tryd.func16 (by kernel_rfl) rfl #[.slice A0 l0.length c0] rfl (by (try simp only [List.map_toArray, List.map_cons, List.map_nil]); first | done | rfl | (simp only [List.length_drop, List.length_take]; rfl)) ?_; (with_reducible refine (laws_toCarpetOrderS.calls k _ _ l0 t102 _ ?side1 ?side2 A7.out).mono ?_); (case side1 => repeat (first | exact (Kd.C_below HR0.out HB.out) | (with_reducible refine Kd.C_alloc ?_ _) | (with_reducible refine Kd.C_drewN ?_ _) | (with_reducible refine Kd.C_drew ?_))); (case side2 => exact HC0.out); rintro e w13 ⟨v103, rfl, ho0, hb⟩; refine ⟨_, rfl, ?_⟩; have n0_ := Aside0.mk (Kd.R_lower ho0 (below_size (by exact eS HB.out))); have n1_ := Aside0.mk (below_step (by exact eS HB.out) hb); clear HB; have HO104 := n0_; have HB := n1_; clear n0_ n1_; (try clear hb); (try clear hb2); (try clear hk); (try clear hi); (try clear ho0); obtain ⟨Ao14, co14, eo14⟩ := Kd.R_slice HO104.out; subst eo14) | ((with_reducible refine gate_callee (f := 38) rfl ?_); refine goesL_ (some 28) rfl rfl Tryd.func38 (by kernel_rfl) rfl #[.slice Ao14 t102.length co14, .int .i64 a1, .int .i64 a2] rfl (by (try simp only [List.map_toArray, List.map_cons, List.map_nil]); first | done | rfl | (simp only [List.length_drop, List.length_take]; rfl)) ?_; (with_reducible refine (spec_PayPart.calls k _ _ t102 a1 a2 t105 t106 _ ?side1 ?side2 A8.out).mono ?_); (case side1 => repeat (first | exact (Kd.R_reads' HO104.out).2.2 | (with_reducible refine Kd.C_alloc ?_ _) | (with_reducible refine Kd.C_drewN ?_ _) | (with_reducible refine Kd.C_drew ?_))); (case side2 => exact (Kd.R_reads' HO104.out).2.1); rintro e w15 ⟨v107, rfl, ho0, hb⟩; refine ⟨_, rfl, ?_⟩; have n0_ := Aside0.mk (Kd.R_elder' (by exact Ho.RS <| HO104.out) (Kd.R_base ho0) hb); have n1_ := Aside0.mk (Kd.R_lower (Kd.R_new' ho0 (Kd.R_lt (by exact Ho.RS <| HO104.out))) (below_size (by exact eS HB.out))); have n2_ := Aside0.mk (below_step (by exact eS HB.out) hb); clear HO104; clear HB; have HO104 := n0_; have HO108 := n1_; have HB := n2_; clear n0_ n1_ n2_; (try clear hb); (try clear hb2); (try clear hk); (try clear hi); (try clear ho0)) | ((with_reducible refine gate_callee (f := 16) rfl ?_); refine goesL_ (some 32) rfl rfl Tryd.func16 (by kernel_rfl) rfl #[.slice A0 l0.length c0] rfl (by (try simp only [List.map_toArray, List.map_cons, List.map_nil]); first | done | rfl | (simp only [List.length_drop, List.length_take]; rfl)) ?_; (with_reducible refine (laws_toCarpetOrderS.calls k _ _ l0 t109 _ ?side1 ?side2 A9.out).mono ?_); (case side1 => repeat (first | exact (Kd.C_below HR0.out HB.out) | (with_reducible refine Kd.C_alloc ?_ _) | (with_reducible refine Kd.C_drewN ?_ _) | (with_reducible refine Kd.C_drew ?_))); (case side2 => exact HC0.out); rintro e w16 ⟨v110, rfl, ho0, hb⟩; refine ⟨_, rfl, ?_⟩; have n0_ := Aside0.mk (Kd.R_elder' (by exact Ho.RS <| HO104.out) (Kd.R_base ho0) hb); have n1_ := Aside0.mk (Kd.R_elder' (by exact Ho.RS <| HO108.out) (Kd.R_base ho0) hb); have n2_ := Aside0.mk (Kd.R_lower (Kd.R_new' (Kd.R_new' ho0 (Kd.R_lt (by exact Ho.RS <| HO104.out))) (Kd.R_lt (by exact Ho.RS <| HO108.out))) (below_size (by exact eS HB.out))); have n3_ := Aside0.mk (below_step (by exact eS HB.out) hb); clear HO104; clear HO108; clear HB; have HO104 := n0_; have HO108 := n1_; have HO111 := n2_; have HB := n3_; clear n0_ n1_ n2_ n3_; (try clear hb); (try clear hb2); (try clear hk); (try clear hi); (try clear ho0); obtain ⟨Ao17, co17, eo17⟩ := Kd.R_slice HO111.out; subst eo17) | ((with_reducible refine gate_callee (f := 39) rfl ?_); refine goesL_ (some 37) rfl rfl Tryd.func39 (by kernel_rfl) rfl #[.slice Ao17 t109.length co17, .int .i64 a1, .int .i64 a2] rfl (by (try simp only [List.map_toArray, List.map_cons, List.map_nil]); first | done | rfl | (simp only [List.length_drop, List.length_take]; rfl)) ?_; (with_reducible refine (impl_PayPart.calls k _ _ t109 a1 a2 t112 t113 _ ?side1 ?side2 A10.out).mono ?_); (case side1 => repeat (first | exact (Kd.R_reads' HO111.out).2.2 | (with_reducible refine Kd.C_alloc ?_ _) | (with_reducible refine Kd.C_drewN ?_ _) | (with_reducible refine Kd.C_drew ?_))); (case side2 => exact (Kd.R_reads' HO111.out).2.1); rintro e w18 ⟨v114, rfl, ho0, hb⟩; refine ⟨_, rfl, ?_⟩; have n0_ := Aside0.mk (Kd.R_elder' (by exact Ho.RS <| HO104.out) (Kd.R_base ho0) hb); have n1_ := Aside0.mk (Kd.R_elder' (by exact Ho.RS <| HO108.out) (Kd.R_base ho0) hb); have n2_ := Aside0.mk (Kd.R_elder' (by exact Ho.RS <| HO111.out) (Kd.R_base ho0) hb); have n3_ := Aside0.mk (Kd.R_lower (Kd.R_new' (Kd.R_new' (Kd.R_new' ho0 (Kd.R_lt (by exact Ho.RS <| HO104.out))) (Kd.R_lt (by exact Ho.RS <| HO108.out))) (Kd.R_lt (by exact Ho.RS <| HO111.out))) (below_size (by exact eS HB.out))); have n4_ := Aside0.mk (below_step (by exact eS HB.out) hb); clear HO104; clear HO108; clear HO111; clear HB; have HO104 := n0_; have HO108 := n1_; have HO111 := n2_; have HO115 := n3_; have HB := n4_; clear n0_ n1_ n2_ n3_ n4_; (try clear hb); (try clear hb2); (try clear hk); (try clear hi); (try clear ho0)))
  (try simp only [Act.put, List.setIfInBounds_toArray, List.set_cons_zero, List.set_cons_succ])
  go_cut [48] (fun v48 wc => ∃ (kq : Nat) (x48_10 : Bool), v48 = .bool x48_10 ∧ Aside0 (laws_FnExactPayPart.j0 kq l0 a1 a2 t105 t106 t109 t112 t113 x48_10 = some r) ∧ Aside0 (kq ≤ k) ∧ Aside0 (Kd.R k41 41 wc w.heap.size (fun k_ => some k_ ≠ ((.slice Ao17 t109.length co17) : Value).ownBlock ∧ some k_ ≠ (v114 : Value).ownBlock) v107 t105) ∧ Aside0 (Kd.R k41 41 wc w.heap.size (fun k_ => some k_ ≠ (v107 : Value).ownBlock ∧ some k_ ≠ (v114 : Value).ownBlock) (.slice Ao17 t109.length co17) t109) ∧ Aside0 (Kd.R k41 41 wc w.heap.size (fun k_ => some k_ ≠ (v107 : Value).ownBlock ∧ some k_ ≠ ((.slice Ao17 t109.length co17) : Value).ownBlock) v114 t112) ∧ Aside0 (Below w.heap.size w wc))
  case first =>
   have H := HC11.out
   clear HC11
   replace H := Option.bind_eq_some_iff.mp H
   obtain ⟨t116, A190, H⟩ := H
   replace H : (if t116 = true then (laws_FnExactPayPart.j0 k l0 a1 a2 t105 t106 t109 t112 t113 (t113 != t106)) else (laws_FnExactPayPart.j0 k l0 a1 a2 t105 t106 t109 t112 t113 true)) = some r := H
   have A19 := Aside0.mk A190
   clear A190
   by_cases c20 : t116 = true
   ·subst c20
    have H1 : (laws_FnExactPayPart.j0 k l0 a1 a2 t105 t106 t109 t112 t113 (t113 != t106)) = some r := by rw [if_pos rfl] at H; exact H
    clear H
    have H := H1
    clear H1
    as_aux_lemma =>
     have H' := Aside0.mk H
     clear H
     obtain ⟨Ao21, co21, eo21⟩ := Kd.R_slice HO115.out
     subst eo21
     obtain ⟨Ao22, co22, eo22⟩ := Kd.R_slice HO108.out
     subst eo22
     go_wp2_with (first | ((with_reducible refine gate_callee (f := 20) rfl ?_); refine goesL_ (some 42) rfl rfl Tryd.func20 (by kernel_rfl) rfl #[.slice Ao21 t112.length co21, .slice Ao22 t105.length co22] rfl (by (try simp only [List.map_toArray, List.map_cons, List.map_nil]); first | done | rfl | (simp only [List.length_drop, List.length_take]; rfl)) ?_; (with_reducible refine (laws_eqCarpetOrderS.calls k _ _ t112 _ _ t105 true _ ?side1 ?side2 ?side3 ?side4 A19.out).mono ?_); (case side1 => repeat (first | exact (Kd.R_reads' HO115.out).2.2 | (with_reducible refine Kd.C_alloc ?_ _) | (with_reducible refine Kd.C_drewN ?_ _) | (with_reducible refine Kd.C_drew ?_))); (case side2 => exact (Kd.R_reads' HO115.out).2.1); (case side3 => repeat (first | exact (Kd.R_reads' HO108.out).2.2 | (with_reducible refine Kd.C_alloc ?_ _) | (with_reducible refine Kd.C_drewN ?_ _) | (with_reducible refine Kd.C_drew ?_))); (case side4 => exact (Kd.R_reads' HO108.out).2.1); rintro e w23 ⟨rfl, hb⟩; refine ⟨_, rfl, ?_⟩; have n0_ := Aside0.mk (Kd.R_below (by exact Ho.RS <| HO104.out) hb); have n1_ := Aside0.mk (Kd.R_below (by exact Ho.RS <| HO108.out) hb); have n2_ := Aside0.mk (Kd.R_below (by exact Ho.RS <| HO111.out) hb); have n3_ := Aside0.mk (Kd.R_below (by exact Ho.RS <| HO115.out) hb); have n4_ := Aside0.mk (below_step (by exact eS HB.out) hb); clear HO104; clear HO108; clear HO111; clear HO115; clear HB; have HO104 := n0_; have HO108 := n1_; have HO111 := n2_; have HO115 := n3_; have HB := n4_; clear n0_ n1_ n2_ n3_ n4_; (try clear hb); (try clear hb2); (try clear hk); (try clear hi)))
     go_meet
     case rel => exact ⟨_, ((t113 != t106)), (by first | rfl | (simp; done) | (simp [*]; done)), H', ⟨by first | omega | exact Nat.le_refl _⟩, ⟨by exact Ho.RS <| Kd.R_mono HO108.out (fun _ hk => ⟨hk.1.2, hk.2⟩)⟩, ⟨by exact Ho.RS <| Kd.R_mono HO111.out (fun _ hk => ⟨hk.1.2, hk.2⟩)⟩, ⟨by exact Ho.RS <| Kd.R_mono HO115.out (fun _ hk => ⟨hk.1.2, hk.2⟩)⟩, ⟨by exact eS HB.out⟩⟩
   ·replace c20 := Bool.eq_false_iff.mpr c20
    subst c20
    have H1 : (laws_FnExactPayPart.j0 k l0 a1 a2 t105 t106 t109 t112 t113 true) = some r := by rw [if_neg (show ¬ (false = true) by decide)] at H; exact H
    clear H
    have H := H1
    clear H1
    as_aux_lemma =>
     have H' := Aside0.mk H
     clear H
     obtain ⟨Ao24, co24, eo24⟩ := Kd.R_slice HO115.out
     subst eo24
     obtain ⟨Ao25, co25, eo25⟩ := Kd.R_slice HO108.out
     subst eo25
     go_wp2_with (first | ((with_reducible refine gate_callee (f := 20) rfl ?_); refine goesL_ (some 42) rfl rfl Tryd.func20 (by kernel_rfl) rfl #[.slice Ao24 t112.length co24, .slice Ao25 t105.length co25] rfl (by (try simp only [List.map_toArray, List.map_cons, List.map_nil]); first | done | rfl | (simp only [List.length_drop, List.length_take]; rfl)) ?_; (with_reducible refine (laws_eqCarpetOrderS.calls k _ _ t112 _ _ t105 false _ ?side1 ?side2 ?side3 ?side4 A19.out).mono ?_); (case side1 => repeat (first | exact (Kd.R_reads' HO115.out).2.2 | (with_reducible refine Kd.C_alloc ?_ _) | (with_reducible refine Kd.C_drewN ?_ _) | (with_reducible refine Kd.C_drew ?_))); (case side2 => exact (Kd.R_reads' HO115.out).2.1); (case side3 => repeat (first | exact (Kd.R_reads' HO108.out).2.2 | (with_reducible refine Kd.C_alloc ?_ _) | (with_reducible refine Kd.C_drewN ?_ _) | (with_reducible refine Kd.C_drew ?_))); (case side4 => exact (Kd.R_reads' HO108.out).2.1); rintro e w26 ⟨rfl, hb⟩; refine ⟨_, rfl, ?_⟩; have n0_ := Aside0.mk (Kd.R_below (by exact Ho.RS <| HO104.out) hb); have n1_ := Aside0.mk (Kd.R_below (by exact Ho.RS <| HO108.out) hb); have n2_ := Aside0.mk (Kd.R_below (by exact Ho.RS <| HO111.out) hb); have n3_ := Aside0.mk (Kd.R_below (by exact Ho.RS <| HO115.out) hb); have n4_ := Aside0.mk (below_step (by exact eS HB.out) hb); clear HO104; clear HO108; clear HO111; clear HO115; clear HB; have HO104 := n0_; have HO108 := n1_; have HO111 := n2_; have HO115 := n3_; have HB := n4_; clear n0_ n1_ n2_ n3_ n4_; (try clear hb); (try clear hb2); (try clear hk); (try clear hi)))
     go_meet
     case rel => exact ⟨_, (true), (by first | rfl | (simp; done) | (simp [*]; done)), H', ⟨by first | omega | exact Nat.le_refl _⟩, ⟨by exact Ho.RS <| Kd.R_mono HO108.out (fun _ hk => ⟨hk.1.2, hk.2⟩)⟩, ⟨by exact Ho.RS <| Kd.R_mono HO111.out (fun _ hk => ⟨hk.1.2, hk.2⟩)⟩, ⟨by exact Ho.RS <| Kd.R_mono HO115.out (fun _ hk => ⟨hk.1.2, hk.2⟩)⟩, ⟨by exact eS HB.out⟩⟩
  case rest =>
   clear HC11
   try clear c1
   try clear c2
   try clear p2
   try clear c3
   try clear c5
   try clear c5b0
   try clear c9
   try clear c14
   try clear c16
   try clear c20
   obtain ⟨kq, x48_10, rfl, HA, HJ10, HO_8, HO_10, HO_11, HB⟩ := hcut
   cases kq with
   | zero => exact absurd HA.out (by simp [laws_FnExactPayPart.j0])
   | succ kj10 =>
    have H := HA.out
    clear HA
    simp only [laws_FnExactPayPart.j0] at H
    by_cases c27 : x48_10 = true
    ·subst c27
     have H1 : (some false) = some r := by rw [if_pos rfl] at H; exact H
     clear H
     have H := H1
     clear H1
     as_aux_lemma =>
      exact absurd ((Option.some.inj H).trans HT.out) (by decide)
    ·replace c27 := Bool.eq_false_iff.mpr c27
     subst c27
     have H1 : ((laws_toCarpetOrderS.f kj10 l0).bind fun t117 => ((laws_eqCarpetOrderS.f kj10 t109 t117).bind fun t120 => (if t120 = true then ((laws_markCarpetOrderS.f kj10 t109 1).bind fun bt121 => (if bt121.1 < 0 then (laws_FnExactPayPart.j1 kj10 l0 a1 a2 t105 t106 t112 true) else ((laws_eqCarpetOrderS.f kj10 t112 t105).bind fun t123 => (if t123 = true then (laws_FnExactPayPart.j1 kj10 l0 a1 a2 t105 t106 t112 (t113 != t106)) else (laws_FnExactPayPart.j1 kj10 l0 a1 a2 t105 t106 t112 true))))) else (some false)))) = some r := by rw [if_neg (show ¬ (false = true) by decide)] at H; exact H
     clear H
     have H := H1
     clear H1
     replace H := Option.bind_eq_some_iff.mp H
     obtain ⟨t117, A280, H⟩ := H
     replace H : ((laws_eqCarpetOrderS.f kj10 t109 t117).bind fun t120 => (if t120 = true then ((laws_markCarpetOrderS.f kj10 t109 1).bind fun bt121 => (if bt121.1 < 0 then (laws_FnExactPayPart.j1 kj10 l0 a1 a2 t105 t106 t112 true) else ((laws_eqCarpetOrderS.f kj10 t112 t105).bind fun t123 => (if t123 = true then (laws_FnExactPayPart.j1 kj10 l0 a1 a2 t105 t106 t112 (t113 != t106)) else (laws_FnExactPayPart.j1 kj10 l0 a1 a2 t105 t106 t112 true))))) else (some false))) = some r := H
     have A28 := Aside0.mk A280
     clear A280
     replace H := Option.bind_eq_some_iff.mp H
     obtain ⟨t120, A290, H⟩ := H
     replace H : (if t120 = true then ((laws_markCarpetOrderS.f kj10 t109 1).bind fun bt121 => (if bt121.1 < 0 then (laws_FnExactPayPart.j1 kj10 l0 a1 a2 t105 t106 t112 true) else ((laws_eqCarpetOrderS.f kj10 t112 t105).bind fun t123 => (if t123 = true then (laws_FnExactPayPart.j1 kj10 l0 a1 a2 t105 t106 t112 (t113 != t106)) else (laws_FnExactPayPart.j1 kj10 l0 a1 a2 t105 t106 t112 true))))) else (some false)) = some r := H
     have A29 := Aside0.mk A290
     clear A290
     by_cases c30 : t120 = true
     ·subst c30
      have H1 : ((laws_markCarpetOrderS.f kj10 t109 1).bind fun bt121 => (if bt121.1 < 0 then (laws_FnExactPayPart.j1 kj10 l0 a1 a2 t105 t106 t112 true) else ((laws_eqCarpetOrderS.f kj10 t112 t105).bind fun t123 => (if t123 = true then (laws_FnExactPayPart.j1 kj10 l0 a1 a2 t105 t106 t112 (t113 != t106)) else (laws_FnExactPayPart.j1 kj10 l0 a1 a2 t105 t106 t112 true))))) = some r := by rw [if_pos rfl] at H; exact H
      clear H
      have H := H1
      clear H1
      replace H := Option.bind_eq_some_iff.mp H
      obtain ⟨⟨t121, t122⟩, A310, H⟩ := H
      replace H : (if t121 < 0 then (laws_FnExactPayPart.j1 kj10 l0 a1 a2 t105 t106 t112 true) else ((laws_eqCarpetOrderS.f kj10 t112 t105).bind fun t123 => (if t123 = true then (laws_FnExactPayPart.j1 kj10 l0 a1 a2 t105 t106 t112 (t113 != t106)) else (laws_FnExactPayPart.j1 kj10 l0 a1 a2 t105 t106 t112 true)))) = some r := H
      have A31 := Aside0.mk A310
      clear A310
      have HC32 := Aside0.mk H
      clear H
      go_upto_region 14 with (first | ((with_reducible refine gate_callee (f := 16) rfl ?_); refine goesL_ (some 51) rfl rfl Tryd.func16 (by kernel_rfl) rfl #[.slice A0 l0.length c0] rfl (by (try simp only [List.map_toArray, List.map_cons, List.map_nil]); first | done | rfl | (simp only [List.length_drop, List.length_take]; rfl)) ?_; (with_reducible refine (laws_toCarpetOrderS.calls kj10 _ _ l0 t117 _ ?side1 ?side2 A28.out).mono ?_); (case side1 => repeat (first | exact (Kd.C_below HR0.out HB.out) | (with_reducible refine Kd.C_alloc ?_ _) | (with_reducible refine Kd.C_drewN ?_ _) | (with_reducible refine Kd.C_drew ?_))); (case side2 => exact HC0.out); rintro e w33 ⟨v118, rfl, ho0, hb⟩; refine ⟨_, rfl, ?_⟩; have n0_ := Aside0.mk (Kd.R_elder' (by exact Ho.RS <| HO_8.out) (Kd.R_base ho0) hb); have n1_ := Aside0.mk (Kd.R_elder' (by exact Ho.RS <| HO_10.out) (Kd.R_base ho0) hb); have n2_ := Aside0.mk (Kd.R_elder' (by exact Ho.RS <| HO_11.out) (Kd.R_base ho0) hb); have n3_ := Aside0.mk (Kd.R_lower (Kd.R_new' (Kd.R_new' (Kd.R_new' ho0 (Kd.R_lt (by exact Ho.RS <| HO_8.out))) (Kd.R_lt (by exact Ho.RS <| HO_10.out))) (Kd.R_lt (by exact Ho.RS <| HO_11.out))) (below_size (by exact eS HB.out))); have n4_ := Aside0.mk (below_step (by exact eS HB.out) hb); clear HO_8; clear HO_10; clear HO_11; clear HB; have HO_8 := n0_; have HO_10 := n1_; have HO_11 := n2_; have HO119 := n3_; have HB := n4_; clear n0_ n1_ n2_ n3_ n4_; (try clear hb); (try clear hb2); (try clear hk); (try clear hi); (try clear ho0); obtain ⟨Ao34, co34, eo34⟩ := Kd.R_slice HO119.out; subst eo34) | ((with_reducible refine gate_callee (f := 20) rfl ?_); refine goesL_ (some 52) rfl rfl Tryd.func20 (by kernel_rfl) rfl #[.slice Ao17 t109.length co17, .slice Ao34 t117.length co34] rfl (by (try simp only [List.map_toArray, List.map_cons, List.map_nil]); first | done | rfl | (simp only [List.length_drop, List.length_take]; rfl)) ?_; (with_reducible refine (laws_eqCarpetOrderS.calls kj10 _ _ t109 _ _ t117 true _ ?side1 ?side2 ?side3 ?side4 A29.out).mono ?_); (case side1 => repeat (first | exact (Kd.R_reads' HO_10.out).2.2 | (with_reducible refine Kd.C_alloc ?_ _) | (with_reducible refine Kd.C_drewN ?_ _) | (with_reducible refine Kd.C_drew ?_))); (case side2 => exact (Kd.R_reads' HO_10.out).2.1); (case side3 => repeat (first | exact (Kd.R_reads' HO119.out).2.2 | (with_reducible refine Kd.C_alloc ?_ _) | (with_reducible refine Kd.C_drewN ?_ _) | (with_reducible refine Kd.C_drew ?_))); (case side4 => exact (Kd.R_reads' HO119.out).2.1); rintro e w35 ⟨rfl, hb⟩; refine ⟨_, rfl, ?_⟩; have n0_ := Aside0.mk (Kd.R_below (by exact Ho.RS <| HO_8.out) hb); have n1_ := Aside0.mk (Kd.R_below (by exact Ho.RS <| HO_10.out) hb); have n2_ := Aside0.mk (Kd.R_below (by exact Ho.RS <| HO_11.out) hb); have n3_ := Aside0.mk (Kd.R_below (by exact Ho.RS <| HO119.out) hb); have n4_ := Aside0.mk (below_step (by exact eS HB.out) hb); clear HO_8; clear HO_10; clear HO_11; clear HO119; clear HB; have HO_8 := n0_; have HO_10 := n1_; have HO_11 := n2_; have HO119 := n3_; have HB := n4_; clear n0_ n1_ n2_ n3_ n4_; (try clear hb); (try clear hb2); (try clear hk); (try clear hi)) | ((with_reducible refine gate_callee (f := 21) rfl ?_); refine goesL_ (some 56) rfl rfl Tryd.func21 (by kernel_rfl) rfl #[.slice Ao17 t109.length co17, .int .i64 1] rfl (by (try simp only [List.map_toArray, List.map_cons, List.map_nil]); first | done | rfl | (simp only [List.length_drop, List.length_take]; rfl)) ?_; (with_reducible refine (laws_markCarpetOrderS.calls kj10 (fun k_ => some k_ = (.slice Ao17 t109.length co17 : Value).ownBlock) (.slice Ao17 t109.length co17) t109 1 t121 t122 w _ ?side1 ?side2 A31.out).mono ?_); (case side1 => exact eS HB.out); (case side2 => exact Kd.R_tight rfl HO_10.out); rintro e w36 ⟨rfl, hy0, hb, hkp⟩; refine ⟨_, rfl, ?_⟩; have n0_ := Aside0.mk (Kd.R_mono (ok' := fun k_ => some k_ ≠ (.slice Ao17 t109.length co17 : Value).ownBlock ∧ some k_ ≠ (v114 : Value).ownBlock ∧ some k_ ≠ (.slice Ao34 t117.length co34 : Value).ownBlock) (Kd.R_keptB (HO_8.out) hkp (fun k_ hk_ hs_ => (hk_.1.1) hs_)) (fun k_ hk_ => ⟨hk_.1.1.1, hk_.1.1.2, hk_.1.2⟩)); have n1_ := Aside0.mk (Kd.R_reok rfl hy0 (fun k_ e_ => HO_10.out.1 k_ e_)); have n2_ := Aside0.mk (Kd.R_mono (ok' := fun k_ => some k_ ≠ (v107 : Value).ownBlock ∧ some k_ ≠ (.slice Ao17 t109.length co17 : Value).ownBlock ∧ some k_ ≠ (.slice Ao34 t117.length co34 : Value).ownBlock) (Kd.R_keptB (HO_11.out) hkp (fun k_ hk_ hs_ => (hk_.1.2) hs_)) (fun k_ hk_ => ⟨hk_.1.1.1, hk_.1.1.2, hk_.1.2⟩)); have n3_ := Aside0.mk (Kd.R_mono (ok' := fun k_ => some k_ ≠ (v107 : Value).ownBlock ∧ some k_ ≠ (.slice Ao17 t109.length co17 : Value).ownBlock ∧ some k_ ≠ (v114 : Value).ownBlock) (Kd.R_keptB (HO119.out) hkp (fun k_ hk_ hs_ => (hk_.1.2) hs_)) (fun k_ hk_ => ⟨hk_.1.1.1.2, hk_.1.1.2, hk_.1.2⟩)); have n4_ := Aside0.mk (hb); clear HO_8; clear HO_10; clear HO_11; clear HO119; clear HB; have HO_8 := n0_; have HO_10 := n1_; have HO_11 := n2_; have HO119 := n3_; have HB := n4_; clear n0_ n1_ n2_ n3_ n4_; (try clear hb); (try clear hkp); (try clear hy0)))
      (try simp only [Act.put, List.setIfInBounds_toArray, List.set_cons_zero, List.set_cons_succ])
      go_cut [69] (fun v69 wc => ∃ (kq : Nat) (x69_31 : Bool), v69 = .bool x69_31 ∧ Aside0 (laws_FnExactPayPart.j1 kq l0 a1 a2 t105 t106 t112 x69_31 = some r) ∧ Aside0 (kq ≤ kj10) ∧ Aside0 (Kd.R k41 41 wc w.heap.size (fun k_ => some k_ ≠ (v114 : Value).ownBlock) v107 t105) ∧ Aside0 (Kd.R k41 41 wc w.heap.size (fun k_ => some k_ ≠ (v107 : Value).ownBlock) v114 t112) ∧ Aside0 (Below w.heap.size w wc))
      case first =>
       have H := HC32.out
       clear HC32
       by_cases c37 : t121 < 0
       ·rw [if_pos c37] at H
        have c37b0 : decide (t121 < 0) = true := decide_eq_true c37
        clear c37
        (first | rw [c37b0] | (simp only [i64_w, i32_w]; rw [c37b0]) | skip)
        as_aux_lemma =>
         have H' := Aside0.mk H
         clear H
         go_wp2
         go_meet
         case rel => exact ⟨_, (true), (by first | rfl | (simp; done) | (simp [*]; done)), H', ⟨by have := HJ10.out; first | omega | exact Nat.le_refl _⟩, ⟨by exact Ho.RS <| Kd.R_mono HO_8.out (fun _ hk => hk.2.1)⟩, ⟨by exact Ho.RS <| Kd.R_mono HO_11.out (fun _ hk => hk.1)⟩, ⟨by exact eS HB.out⟩⟩
       ·rw [if_neg c37] at H
        have c37b0 : decide (t121 < 0) = false := decide_eq_false c37
        clear c37
        (first | rw [c37b0] | (simp only [i64_w, i32_w]; rw [c37b0]) | skip)
        replace H := Option.bind_eq_some_iff.mp H
        obtain ⟨t123, A380, H⟩ := H
        replace H : (if t123 = true then (laws_FnExactPayPart.j1 kj10 l0 a1 a2 t105 t106 t112 (t113 != t106)) else (laws_FnExactPayPart.j1 kj10 l0 a1 a2 t105 t106 t112 true)) = some r := H
        have A38 := Aside0.mk A380
        clear A380
        by_cases c39 : t123 = true
        ·subst c39
         have H1 : (laws_FnExactPayPart.j1 kj10 l0 a1 a2 t105 t106 t112 (t113 != t106)) = some r := by rw [if_pos rfl] at H; exact H
         clear H
         have H := H1
         clear H1
         as_aux_lemma =>
          have H' := Aside0.mk H
          clear H
          obtain ⟨Ao40, co40, eo40⟩ := Kd.R_slice HO_11.out
          subst eo40
          obtain ⟨Ao41, co41, eo41⟩ := Kd.R_slice HO_8.out
          subst eo41
          go_wp2_with (first | (go_at_call 20; (with_reducible refine (laws_eqCarpetOrderS.calls kj10 _ _ t112 _ _ t105 true _ ?side1 ?side2 ?side3 ?side4 A38.out).mono ?_); (case side1 => repeat (first | exact (Kd.R_reads' HO_11.out).2.2 | (with_reducible refine Kd.C_alloc ?_ _) | (with_reducible refine Kd.C_drewN ?_ _) | (with_reducible refine Kd.C_drew ?_))); (case side2 => exact (Kd.R_reads' HO_11.out).2.1); (case side3 => repeat (first | exact (Kd.R_reads' HO_8.out).2.2 | (with_reducible refine Kd.C_alloc ?_ _) | (with_reducible refine Kd.C_drewN ?_ _) | (with_reducible refine Kd.C_drew ?_))); (case side4 => exact (Kd.R_reads' HO_8.out).2.1); rintro e w42 ⟨rfl, hb⟩; have n0_ := Aside0.mk (Kd.R_below (by exact Ho.RS <| HO_8.out) hb); have n1_ := Aside0.mk (Kd.R_below (by exact Ho.RS <| HO_10.out) hb); have n2_ := Aside0.mk (Kd.R_below (by exact Ho.RS <| HO_11.out) hb); have n3_ := Aside0.mk (Kd.R_below (by exact Ho.RS <| HO119.out) hb); have n4_ := Aside0.mk (below_step (by exact eS HB.out) hb); clear HO_8; clear HO_10; clear HO_11; clear HO119; clear HB; have HO_8 := n0_; have HO_10 := n1_; have HO_11 := n2_; have HO119 := n3_; have HB := n4_; clear n0_ n1_ n2_ n3_ n4_; (try clear hb); (try clear hb2); (try clear hk); (try clear hi)))
          go_meet
          case rel => exact ⟨_, ((t113 != t106)), (by first | rfl | (simp; done) | (simp [*]; done)), H', ⟨by have := HJ10.out; first | omega | exact Nat.le_refl _⟩, ⟨by exact Ho.RS <| Kd.R_mono HO_8.out (fun _ hk => hk.2.1)⟩, ⟨by exact Ho.RS <| Kd.R_mono HO_11.out (fun _ hk => hk.1)⟩, ⟨by exact eS HB.out⟩⟩
        ·replace c39 := Bool.eq_false_iff.mpr c39
         subst c39
         have H1 : (laws_FnExactPayPart.j1 kj10 l0 a1 a2 t105 t106 t112 true) = some r := by rw [if_neg (show ¬ (false = true) by decide)] at H; exact H
         clear H
         have H := H1
         clear H1
         as_aux_lemma =>
          have H' := Aside0.mk H
          clear H
          obtain ⟨Ao43, co43, eo43⟩ := Kd.R_slice HO_11.out
          subst eo43
          obtain ⟨Ao44, co44, eo44⟩ := Kd.R_slice HO_8.out
          subst eo44
          go_wp2_with (first | (go_at_call 20; (with_reducible refine (laws_eqCarpetOrderS.calls kj10 _ _ t112 _ _ t105 false _ ?side1 ?side2 ?side3 ?side4 A38.out).mono ?_); (case side1 => repeat (first | exact (Kd.R_reads' HO_11.out).2.2 | (with_reducible refine Kd.C_alloc ?_ _) | (with_reducible refine Kd.C_drewN ?_ _) | (with_reducible refine Kd.C_drew ?_))); (case side2 => exact (Kd.R_reads' HO_11.out).2.1); (case side3 => repeat (first | exact (Kd.R_reads' HO_8.out).2.2 | (with_reducible refine Kd.C_alloc ?_ _) | (with_reducible refine Kd.C_drewN ?_ _) | (with_reducible refine Kd.C_drew ?_))); (case side4 => exact (Kd.R_reads' HO_8.out).2.1); rintro e w45 ⟨rfl, hb⟩; have n0_ := Aside0.mk (Kd.R_below (by exact Ho.RS <| HO_8.out) hb); have n1_ := Aside0.mk (Kd.R_below (by exact Ho.RS <| HO_10.out) hb); have n2_ := Aside0.mk (Kd.R_below (by exact Ho.RS <| HO_11.out) hb); have n3_ := Aside0.mk (Kd.R_below (by exact Ho.RS <| HO119.out) hb); have n4_ := Aside0.mk (below_step (by exact eS HB.out) hb); clear HO_8; clear HO_10; clear HO_11; clear HO119; clear HB; have HO_8 := n0_; have HO_10 := n1_; have HO_11 := n2_; have HO119 := n3_; have HB := n4_; clear n0_ n1_ n2_ n3_ n4_; (try clear hb); (try clear hb2); (try clear hk); (try clear hi)))
          go_meet
          case rel => exact ⟨_, (true), (by first | rfl | (simp; done) | (simp [*]; done)), H', ⟨by have := HJ10.out; first | omega | exact Nat.le_refl _⟩, ⟨by exact Ho.RS <| Kd.R_mono HO_8.out (fun _ hk => hk.2.1)⟩, ⟨by exact Ho.RS <| Kd.R_mono HO_11.out (fun _ hk => hk.1)⟩, ⟨by exact eS HB.out⟩⟩
      case rest =>
       clear HC32
       try clear c1
       try clear c2
       try clear p2
       try clear c3
       try clear c5
       try clear c5b0
       try clear c9
       try clear c14
       try clear c16
       try clear c20
       try clear c21
       try clear c27
       try clear c30
       try clear c37
       try clear c37b0
       try clear c38
       try clear c39
       try clear p2
       obtain ⟨kq, x69_31, rfl, HA, HJ31, HO_8, HO_11, HB⟩ := hcut
       cases kq with
       | zero => exact absurd HA.out (by simp [laws_FnExactPayPart.j1])
       | succ kj31 =>
        have H := HA.out
        clear HA
        simp only [laws_FnExactPayPart.j1] at H
        by_cases c46 : x69_31 = true
        ·subst c46
         have H1 : (some false) = some r := by rw [if_pos rfl] at H; exact H
         clear H
         have H := H1
         clear H1
         as_aux_lemma =>
          exact absurd ((Option.some.inj H).trans HT.out) (by decide)
        ·replace c46 := Bool.eq_false_iff.mpr c46
         subst c46
         have H1 : ((laws_markCarpetOrderS.f kj31 t112 1).bind fun bt124 => ((laws_heldCarpetOrderS.f kj31 bt124.2 1).bind fun t126 => (if t126 < 0 then (some false) else (if t126 = bt124.1 then ((laws_toCarpetOrderS.f kj31 l0).bind fun t127 => ((impl_PayPart.f kj31 t127 a1 a2).bind fun bt130 => ((laws_eqCarpetOrderS.f kj31 bt130.1 t105).bind fun t134 => (if t134 = true then (laws_FnExactPayPart.j2 kj31 bt124.2 bt124.1 (bt130.2 != t106)) else (laws_FnExactPayPart.j2 kj31 bt124.2 bt124.1 true))))) else (some false))))) = some r := by rw [if_neg (show ¬ (false = true) by decide)] at H; exact H
         clear H
         have H := H1
         clear H1
         replace H := Option.bind_eq_some_iff.mp H
         obtain ⟨⟨t124, t125⟩, A470, H⟩ := H
         replace H : ((laws_heldCarpetOrderS.f kj31 t125 1).bind fun t126 => (if t126 < 0 then (some false) else (if t126 = t124 then ((laws_toCarpetOrderS.f kj31 l0).bind fun t127 => ((impl_PayPart.f kj31 t127 a1 a2).bind fun bt130 => ((laws_eqCarpetOrderS.f kj31 bt130.1 t105).bind fun t134 => (if t134 = true then (laws_FnExactPayPart.j2 kj31 t125 t124 (bt130.2 != t106)) else (laws_FnExactPayPart.j2 kj31 t125 t124 true))))) else (some false)))) = some r := H
         have A47 := Aside0.mk A470
         clear A470
         replace H := Option.bind_eq_some_iff.mp H
         obtain ⟨t126, A480, H⟩ := H
         replace H : (if t126 < 0 then (some false) else (if t126 = t124 then ((laws_toCarpetOrderS.f kj31 l0).bind fun t127 => ((impl_PayPart.f kj31 t127 a1 a2).bind fun bt130 => ((laws_eqCarpetOrderS.f kj31 bt130.1 t105).bind fun t134 => (if t134 = true then (laws_FnExactPayPart.j2 kj31 t125 t124 (bt130.2 != t106)) else (laws_FnExactPayPart.j2 kj31 t125 t124 true))))) else (some false))) = some r := H
         have A48 := Aside0.mk A480
         clear A480
         by_cases c49 : t126 < 0
         ·rw [if_pos c49] at H
          have c49b0 : decide (t126 < 0) = true := decide_eq_true c49
          clear c49
          as_aux_lemma =>
           exact absurd ((Option.some.inj H).trans HT.out) (by decide)
         ·rw [if_neg c49] at H
          have c49b0 : decide (t126 < 0) = false := decide_eq_false c49
          clear c49
          by_cases c50 : t126 = t124
          ·rw [if_pos c50] at H
           have c50b0 : (t126 == t124) = true := beq_iff_eq.mpr c50
           have c50b1 : (t126 != t124) = false := bne_eq_false_iff_eq.mpr c50
           clear c50
           replace H := Option.bind_eq_some_iff.mp H
           obtain ⟨t127, A510, H⟩ := H
           replace H : ((impl_PayPart.f kj31 t127 a1 a2).bind fun bt130 => ((laws_eqCarpetOrderS.f kj31 bt130.1 t105).bind fun t134 => (if t134 = true then (laws_FnExactPayPart.j2 kj31 t125 t124 (bt130.2 != t106)) else (laws_FnExactPayPart.j2 kj31 t125 t124 true)))) = some r := H
           have A51 := Aside0.mk A510
           clear A510
           replace H := Option.bind_eq_some_iff.mp H
           obtain ⟨⟨t130, t131⟩, A520, H⟩ := H
           replace H : ((laws_eqCarpetOrderS.f kj31 t130 t105).bind fun t134 => (if t134 = true then (laws_FnExactPayPart.j2 kj31 t125 t124 (t131 != t106)) else (laws_FnExactPayPart.j2 kj31 t125 t124 true))) = some r := H
           have A52 := Aside0.mk A520
           clear A520
           have HC53 := Aside0.mk H
           clear H
           obtain ⟨Ao54, co54, eo54⟩ := Kd.R_slice HO_11.out
           subst eo54
           go_upto_region 25 with (first | ((with_reducible refine gate_callee (f := 21) rfl ?_); refine goesL_ (some 72) rfl rfl Tryd.func21 (by kernel_rfl) rfl #[.slice Ao54 t112.length co54, .int .i64 1] rfl (by (try simp only [List.map_toArray, List.map_cons, List.map_nil]); first | done | rfl | (simp only [List.length_drop, List.length_take]; rfl)) ?_; (with_reducible refine (laws_markCarpetOrderS.calls kj31 (fun k_ => some k_ = (.slice Ao54 t112.length co54 : Value).ownBlock) (.slice Ao54 t112.length co54) t112 1 t124 t125 w _ ?side1 ?side2 A47.out).mono ?_); (case side1 => exact eS HB.out); (case side2 => exact Kd.R_tight rfl HO_11.out); rintro e w55 ⟨rfl, hy0, hb, hkp⟩; refine ⟨_, rfl, ?_⟩; have n0_ := Aside0.mk (Kd.R_mono (ok' := fun k_ => some k_ ≠ (.slice Ao54 t112.length co54 : Value).ownBlock) (Kd.R_keptB (HO_8.out) hkp (fun k_ hk_ hs_ => (hk_) hs_)) (fun k_ hk_ => hk_.1)); have n1_ := Aside0.mk (Kd.R_reok rfl hy0 (fun k_ e_ => HO_11.out.1 k_ e_)); have n2_ := Aside0.mk (hb); clear HO_8; clear HO_11; clear HB; have HO_8 := n0_; have HO_11 := n1_; have HB := n2_; clear n0_ n1_ n2_; (try clear hb); (try clear hkp); (try clear hy0)) | ((with_reducible refine gate_callee (f := 40) rfl ?_); refine goesL_ (some 75) rfl rfl Tryd.func40 (by kernel_rfl) rfl #[.slice Ao54 t125.length co54, .int .i64 1] rfl (by (try simp only [List.map_toArray, List.map_cons, List.map_nil]); first | done | (rw [show t125.length = t112.length from (Kd.R_reads' HO_11.out).1.symm] <;> rfl) | rfl | (simp only [List.length_drop, List.length_take]; rfl)) ?_; (with_reducible refine (laws_heldCarpetOrderS.calls kj31 _ _ t125 1 t126 _ ?side1 ?side2 A48.out).mono ?_); (case side1 => repeat (first | exact (Kd.R_reads' HO_11.out).2.2 | (with_reducible refine Kd.C_alloc ?_ _) | (with_reducible refine Kd.C_drewN ?_ _) | (with_reducible refine Kd.C_drew ?_))); (case side2 => rw [show t125.length = t112.length from (Kd.R_reads' HO_11.out).1.symm]; exact (Kd.R_reads' HO_11.out).2.1); rintro e w56 ⟨rfl, hb⟩; refine ⟨_, rfl, ?_⟩; have n0_ := Aside0.mk (Kd.R_below (by exact Ho.RS <| HO_8.out) hb); have n1_ := Aside0.mk (Kd.R_below (by exact Ho.RS <| HO_11.out) hb); have n2_ := Aside0.mk (below_step (by exact eS HB.out) hb); clear HO_8; clear HO_11; clear HB; have HO_8 := n0_; have HO_11 := n1_; have HB := n2_; clear n0_ n1_ n2_; (try clear hb); (try clear hb2); (try clear hk); (try clear hi)) | ((with_reducible refine gate_callee (f := 16) rfl ?_); refine goesL_ (some 83) rfl rfl Tryd.func16 (by kernel_rfl) rfl #[.slice A0 l0.length c0] rfl (by (try simp only [List.map_toArray, List.map_cons, List.map_nil]); first | done | rfl | (simp only [List.length_drop, List.length_take]; rfl)) ?_; (with_reducible refine (laws_toCarpetOrderS.calls kj31 _ _ l0 t127 _ ?side1 ?side2 A51.out).mono ?_); (case side1 => repeat (first | exact (Kd.C_below HR0.out HB.out) | (with_reducible refine Kd.C_alloc ?_ _) | (with_reducible refine Kd.C_drewN ?_ _) | (with_reducible refine Kd.C_drew ?_))); (case side2 => exact HC0.out); rintro e w57 ⟨v128, rfl, ho0, hb⟩; refine ⟨_, rfl, ?_⟩; have n0_ := Aside0.mk (Kd.R_elder' (by exact Ho.RS <| HO_8.out) (Kd.R_base ho0) hb); have n1_ := Aside0.mk (Kd.R_elder' (by exact Ho.RS <| HO_11.out) (Kd.R_base ho0) hb); have n2_ := Aside0.mk (Kd.R_lower (Kd.R_new' (Kd.R_new' ho0 (Kd.R_lt (by exact Ho.RS <| HO_8.out))) (Kd.R_lt (by exact Ho.RS <| HO_11.out))) (below_size (by exact eS HB.out))); have n3_ := Aside0.mk (below_step (by exact eS HB.out) hb); clear HO_8; clear HO_11; clear HB; have HO_8 := n0_; have HO_11 := n1_; have HO129 := n2_; have HB := n3_; clear n0_ n1_ n2_ n3_; (try clear hb); (try clear hb2); (try clear hk); (try clear hi); (try clear ho0); obtain ⟨Ao58, co58, eo58⟩ := Kd.R_slice HO129.out; subst eo58) | ((with_reducible refine gate_callee (f := 39) rfl ?_); refine goesL_ (some 86) rfl rfl Tryd.func39 (by kernel_rfl) rfl #[.slice Ao58 t127.length co58, .int .i64 a1, .int .i64 a2] rfl (by (try simp only [List.map_toArray, List.map_cons, List.map_nil]); first | done | rfl | (simp only [List.length_drop, List.length_take]; rfl)) ?_; (with_reducible refine (impl_PayPart.calls kj31 _ _ t127 a1 a2 t130 t131 _ ?side1 ?side2 A52.out).mono ?_); (case side1 => repeat (first | exact (Kd.R_reads' HO129.out).2.2 | (with_reducible refine Kd.C_alloc ?_ _) | (with_reducible refine Kd.C_drewN ?_ _) | (with_reducible refine Kd.C_drew ?_))); (case side2 => exact (Kd.R_reads' HO129.out).2.1); rintro e w59 ⟨v132, rfl, ho0, hb⟩; refine ⟨_, rfl, ?_⟩; have n0_ := Aside0.mk (Kd.R_elder' (by exact Ho.RS <| HO_8.out) (Kd.R_base ho0) hb); have n1_ := Aside0.mk (Kd.R_elder' (by exact Ho.RS <| HO_11.out) (Kd.R_base ho0) hb); have n2_ := Aside0.mk (Kd.R_elder' (by exact Ho.RS <| HO129.out) (Kd.R_base ho0) hb); have n3_ := Aside0.mk (Kd.R_lower (Kd.R_new' (Kd.R_new' (Kd.R_new' ho0 (Kd.R_lt (by exact Ho.RS <| HO_8.out))) (Kd.R_lt (by exact Ho.RS <| HO_11.out))) (Kd.R_lt (by exact Ho.RS <| HO129.out))) (below_size (by exact eS HB.out))); have n4_ := Aside0.mk (below_step (by exact eS HB.out) hb); clear HO_8; clear HO_11; clear HO129; clear HB; have HO_8 := n0_; have HO_11 := n1_; have HO129 := n2_; have HO133 := n3_; have HB := n4_; clear n0_ n1_ n2_ n3_ n4_; (try clear hb); (try clear hb2); (try clear hk); (try clear hi); (try clear ho0)))
           (try simp only [Act.put, List.setIfInBounds_toArray, List.set_cons_zero, List.set_cons_succ])
           go_cut [97] (fun v97 wc => ∃ (kq : Nat) (x97_52 : Bool), v97 = .bool x97_52 ∧ Aside0 (laws_FnExactPayPart.j2 kq t125 t124 x97_52 = some r) ∧ Aside0 (kq ≤ kj31) ∧ Aside0 (Kd.R k41 41 wc w.heap.size (fun _ => True) (.slice Ao54 t112.length co54) t125) ∧ Aside0 (Below w.heap.size w wc))
           case first =>
            have H := HC53.out
            clear HC53
            replace H := Option.bind_eq_some_iff.mp H
            obtain ⟨t134, A600, H⟩ := H
            replace H : (if t134 = true then (laws_FnExactPayPart.j2 kj31 t125 t124 (t131 != t106)) else (laws_FnExactPayPart.j2 kj31 t125 t124 true)) = some r := H
            have A60 := Aside0.mk A600
            clear A600
            by_cases c61 : t134 = true
            ·subst c61
             have H1 : (laws_FnExactPayPart.j2 kj31 t125 t124 (t131 != t106)) = some r := by rw [if_pos rfl] at H; exact H
             clear H
             have H := H1
             clear H1
             as_aux_lemma =>
              have H' := Aside0.mk H
              clear H
              obtain ⟨Ao62, co62, eo62⟩ := Kd.R_slice HO133.out
              subst eo62
              obtain ⟨Ao63, co63, eo63⟩ := Kd.R_slice HO_8.out
              subst eo63
              go_wp2_with (first | ((with_reducible refine gate_callee (f := 20) rfl ?_); refine goesL_ (some 91) rfl rfl Tryd.func20 (by kernel_rfl) rfl #[.slice Ao62 t130.length co62, .slice Ao63 t105.length co63] rfl (by (try simp only [List.map_toArray, List.map_cons, List.map_nil]); first | done | rfl | (simp only [List.length_drop, List.length_take]; rfl)) ?_; (with_reducible refine (laws_eqCarpetOrderS.calls kj31 _ _ t130 _ _ t105 true _ ?side1 ?side2 ?side3 ?side4 A60.out).mono ?_); (case side1 => repeat (first | exact (Kd.R_reads' HO133.out).2.2 | (with_reducible refine Kd.C_alloc ?_ _) | (with_reducible refine Kd.C_drewN ?_ _) | (with_reducible refine Kd.C_drew ?_))); (case side2 => exact (Kd.R_reads' HO133.out).2.1); (case side3 => repeat (first | exact (Kd.R_reads' HO_8.out).2.2 | (with_reducible refine Kd.C_alloc ?_ _) | (with_reducible refine Kd.C_drewN ?_ _) | (with_reducible refine Kd.C_drew ?_))); (case side4 => exact (Kd.R_reads' HO_8.out).2.1); rintro e w64 ⟨rfl, hb⟩; refine ⟨_, rfl, ?_⟩; have n0_ := Aside0.mk (Kd.R_below (by exact Ho.RS <| HO_8.out) hb); have n1_ := Aside0.mk (Kd.R_below (by exact Ho.RS <| HO_11.out) hb); have n2_ := Aside0.mk (Kd.R_below (by exact Ho.RS <| HO129.out) hb); have n3_ := Aside0.mk (Kd.R_below (by exact Ho.RS <| HO133.out) hb); have n4_ := Aside0.mk (below_step (by exact eS HB.out) hb); clear HO_8; clear HO_11; clear HO129; clear HO133; clear HB; have HO_8 := n0_; have HO_11 := n1_; have HO129 := n2_; have HO133 := n3_; have HB := n4_; clear n0_ n1_ n2_ n3_ n4_; (try clear hb); (try clear hb2); (try clear hk); (try clear hi)))
              go_meet
              case rel => exact ⟨_, ((t131 != t106)), (by first | rfl | (simp; done) | (simp [*]; done)), H', ⟨by have := HJ10.out; have := HJ31.out; first | omega | exact Nat.le_refl _⟩, ⟨by exact Ho.RS <| Kd.R_mono HO_11.out (fun _ hk => trivial)⟩, ⟨by exact eS HB.out⟩⟩
            ·replace c61 := Bool.eq_false_iff.mpr c61
             subst c61
             have H1 : (laws_FnExactPayPart.j2 kj31 t125 t124 true) = some r := by rw [if_neg (show ¬ (false = true) by decide)] at H; exact H
             clear H
             have H := H1
             clear H1
             as_aux_lemma =>
              have H' := Aside0.mk H
              clear H
              obtain ⟨Ao65, co65, eo65⟩ := Kd.R_slice HO133.out
              subst eo65
              obtain ⟨Ao66, co66, eo66⟩ := Kd.R_slice HO_8.out
              subst eo66
              go_wp2_with (first | ((with_reducible refine gate_callee (f := 20) rfl ?_); refine goesL_ (some 91) rfl rfl Tryd.func20 (by kernel_rfl) rfl #[.slice Ao65 t130.length co65, .slice Ao66 t105.length co66] rfl (by (try simp only [List.map_toArray, List.map_cons, List.map_nil]); first | done | rfl | (simp only [List.length_drop, List.length_take]; rfl)) ?_; (with_reducible refine (laws_eqCarpetOrderS.calls kj31 _ _ t130 _ _ t105 false _ ?side1 ?side2 ?side3 ?side4 A60.out).mono ?_); (case side1 => repeat (first | exact (Kd.R_reads' HO133.out).2.2 | (with_reducible refine Kd.C_alloc ?_ _) | (with_reducible refine Kd.C_drewN ?_ _) | (with_reducible refine Kd.C_drew ?_))); (case side2 => exact (Kd.R_reads' HO133.out).2.1); (case side3 => repeat (first | exact (Kd.R_reads' HO_8.out).2.2 | (with_reducible refine Kd.C_alloc ?_ _) | (with_reducible refine Kd.C_drewN ?_ _) | (with_reducible refine Kd.C_drew ?_))); (case side4 => exact (Kd.R_reads' HO_8.out).2.1); rintro e w67 ⟨rfl, hb⟩; refine ⟨_, rfl, ?_⟩; have n0_ := Aside0.mk (Kd.R_below (by exact Ho.RS <| HO_8.out) hb); have n1_ := Aside0.mk (Kd.R_below (by exact Ho.RS <| HO_11.out) hb); have n2_ := Aside0.mk (Kd.R_below (by exact Ho.RS <| HO129.out) hb); have n3_ := Aside0.mk (Kd.R_below (by exact Ho.RS <| HO133.out) hb); have n4_ := Aside0.mk (below_step (by exact eS HB.out) hb); clear HO_8; clear HO_11; clear HO129; clear HO133; clear HB; have HO_8 := n0_; have HO_11 := n1_; have HO129 := n2_; have HO133 := n3_; have HB := n4_; clear n0_ n1_ n2_ n3_ n4_; (try clear hb); (try clear hb2); (try clear hk); (try clear hi)))
              go_meet
              case rel => exact ⟨_, (true), (by first | rfl | (simp; done) | (simp [*]; done)), H', ⟨by have := HJ10.out; have := HJ31.out; first | omega | exact Nat.le_refl _⟩, ⟨by exact Ho.RS <| Kd.R_mono HO_11.out (fun _ hk => trivial)⟩, ⟨by exact eS HB.out⟩⟩
           case rest =>
            clear HC53
            try clear c1
            try clear c2
            try clear p2
            try clear c3
            try clear c4
            try clear c5
            try clear c5b0
            try clear c6
            try clear c9
            try clear c14
            try clear c16
            try clear c20
            try clear c21
            try clear c27
            try clear c30
            try clear c37
            try clear c37b0
            try clear c38
            try clear c39
            try clear c40
            try clear c46
            try clear c49
            try clear c49b0
            try clear c50
            try clear c50b0
            try clear c50b1
            try clear c61
            try clear p2
            obtain ⟨kq, x97_52, rfl, HA, HJ52, HO_11, HB⟩ := hcut
            have hl11_52 := (Kd.R_reads' HO_11.out).1
            rw [hl11_52] at HO_11
            (try simp only [hl11_52])
            cases kq with
            | zero => exact absurd HA.out (by simp [laws_FnExactPayPart.j2])
            | succ kj52 =>
             have H := HA.out
             clear HA
             simp only [laws_FnExactPayPart.j2] at H
             by_cases c68 : x97_52 = true
             ·subst c68
              have H1 : (some false) = some r := by rw [if_pos rfl] at H; exact H
              clear H
              have H := H1
              clear H1
              as_aux_lemma =>
               exact absurd ((Option.some.inj H).trans HT.out) (by decide)
             ·replace c68 := Bool.eq_false_iff.mpr c68
              subst c68
              have H1 : ((laws_heldCarpetOrderS.f kj52 t125 1).bind fun t135 => (if t135 < 0 then (some false) else (if t135 = t124 then (some true) else (some false)))) = some r := by rw [if_neg (show ¬ (false = true) by decide)] at H; exact H
              clear H
              have H := H1
              clear H1
              replace H := Option.bind_eq_some_iff.mp H
              obtain ⟨t135, A690, H⟩ := H
              replace H : (if t135 < 0 then (some false) else (if t135 = t124 then (some true) else (some false))) = some r := H
              have A69 := Aside0.mk A690
              clear A690
              by_cases c70 : t135 < 0
              ·rw [if_pos c70] at H
               have c70b0 : decide (t135 < 0) = true := decide_eq_true c70
               clear c70
               as_aux_lemma =>
                exact absurd ((Option.some.inj H).trans HT.out) (by decide)
              ·rw [if_neg c70] at H
               have c70b0 : decide (t135 < 0) = false := decide_eq_false c70
               clear c70
               by_cases c71 : t135 = t124
               ·rw [if_pos c71] at H
                have c71b0 : (t135 == t124) = true := beq_iff_eq.mpr c71
                have c71b1 : (t135 != t124) = false := bne_eq_false_iff_eq.mpr c71
                clear c71
                as_aux_lemma =>
                 obtain rfl := Option.some.inj H
                 go_wp2_with (first | ((with_reducible refine gate_callee (f := 40) rfl ?_); refine goesL_ (some 100) rfl rfl Tryd.func40 (by kernel_rfl) rfl #[.slice Ao54 t125.length co54, .int .i64 1] rfl (by (try simp only [List.map_toArray, List.map_cons, List.map_nil]); first | done | rfl | (simp only [List.length_drop, List.length_take]; rfl)) ?_; (with_reducible refine (laws_heldCarpetOrderS.calls kj52 _ _ t125 1 t135 _ ?side1 ?side2 A69.out).mono ?_); (case side1 => repeat (first | exact (Kd.R_reads' HO_11.out).2.2 | (with_reducible refine Kd.C_alloc ?_ _) | (with_reducible refine Kd.C_drewN ?_ _) | (with_reducible refine Kd.C_drew ?_))); (case side2 => exact (Kd.R_reads' HO_11.out).2.1); rintro e w72 ⟨rfl, hb⟩; refine ⟨_, rfl, ?_⟩; have n0_ := Aside0.mk (Kd.R_below (by exact Ho.RS <| HO_11.out) hb); have n1_ := Aside0.mk (below_step (by exact eS HB.out) hb); clear HO_11; clear HB; have HO_11 := n0_; have HB := n1_; clear n0_ n1_; (try clear hb); (try clear hb2); (try clear hk); (try clear hi)))
                 go_ret
                 exact ⟨by first | rfl | (simp [errW_none, errW_some] <;> rfl) | (simp [*, errW_none, errW_some] <;> rfl), by exact eS HB.out⟩
               ·rw [if_neg c71] at H
                have c71b0 : (t135 == t124) = false := beq_eq_false_iff_ne.mpr c71
                have c71b1 : (t135 != t124) = true := bne_iff_ne.mpr c71
                as_aux_lemma =>
                 exact absurd ((Option.some.inj H).trans HT.out) (by decide)
          ·rw [if_neg c50] at H
           have c50b0 : (t126 == t124) = false := beq_eq_false_iff_ne.mpr c50
           have c50b1 : (t126 != t124) = true := bne_iff_ne.mpr c50
           as_aux_lemma =>
            exact absurd ((Option.some.inj H).trans HT.out) (by decide)
     ·replace c30 := Bool.eq_false_iff.mpr c30
      subst c30
      have H1 : (some false) = some r := by rw [if_neg (show ¬ (false = true) by decide)] at H; exact H
      clear H
      have H := H1
      clear H1
      as_aux_lemma =>
       exact absurd ((Option.some.inj H).trans HT.out) (by decide)

/-- THE ONE PURE STATEMENT of laws_FnExactPayPart: yours. -/
def laws_FnExactPayPart.Pure : Prop := ∀ (l0 : List (S38)) (a1 : Int) (a2 : Int), (l0.length ≤ 9223372036854775807 ∧ ∀ y_ ∈ l0, ok38 y_) → (Lit.int .i64 a1).wf = true → (Lit.int .i64 a2).wf = true → ∃ k, laws_FnExactPayPart.f k l0 a1 a2 = some true

end Go.Proofs.YtahfahlbdgbfeaaDoor.X

-- PureFnExactPayPart
namespace Go.Proofs.YtahfahlbdgbfeaaDoor.Pure
open Go Go.RowKit Go.Proofs Go.Proofs.YtahfahlbdgbfeaaDoor.X Go.Proofs.YtahfahlbdgbfeaaDoorW.PrintWords Go.Proofs.YtahfahlbdgbfeaaDoorW.PrintLast
set_option linter.unusedVariables false
set_option linter.unusedSimpArgs false

theorem FnExactPayPart : laws_FnExactPayPart.Pure := by
  intro l id c hl _ _
  refine ⟨8000003, ?_⟩
  obtain ⟨r, hr, hor⟩ := szOrderS_ex (k := 8000003) (l := l) (by omega) hl.1 (fun x hx => (hl.2 x hx).2.1)
  simp only [laws_FnExactPayPart.f, hr, Option.bind_some]
  by_cases h : r < 0
  · rw [if_pos h]
  rw [if_neg h]
  have hs := hor.resolve_left h
  have hm := sizesOk_map hs
  have hlen := payM_len (l.map toOrder) id c
  simp only [toOrderS_eq (k := 8000003) (l := l) (by omega) hs.1, Option.bind_some, payS_eq (k := 8000003) (l := l.map toOrder) (id := id) (c := c) (by omega) hm, payI_eq (k := 8000003) (l := l.map toOrder) (id := id) (c := c) (by omega) hm.1, eqOrderS_refl (k := 8000003) (l := (payM (l.map toOrder) id c).1) (by omega) (by omega), if_true, bne_self_eq_false, laws_FnExactPayPart.j0, Bool.false_eq_true, if_false, toOrderS_eq (k := 8000002) (l := l) (by omega) hs.1, eqOrderS_refl (k := 8000002) (l := l.map toOrder) (by omega) (by omega), markOrderS_eq (k := 8000002) (l := l.map toOrder) (s := 1) (by omega) hm.1 (by omega), eqOrderS_refl (k := 8000002) (l := (payM (l.map toOrder) id c).1) (by omega) (by omega)]
  rw [if_neg (by omega)]
  simp only [laws_FnExactPayPart.j1, Bool.false_eq_true, if_false, markOrderS_eq (k := 8000001) (l := (payM (l.map toOrder) id c).1) (s := 1) (by omega) (by omega) (by omega), Option.bind_some, heldOrderS_eq (k := 8000001) (m := (payM (l.map toOrder) id c).1.length) (s := 1) (by omega) (by omega) (by omega), if_true, toOrderS_eq (k := 8000001) (l := l) (by omega) hs.1, payI_eq (k := 8000001) (l := l.map toOrder) (id := id) (c := c) (by omega) hm.1, eqOrderS_refl (k := 8000001) (l := (payM (l.map toOrder) id c).1) (by omega) (by omega), bne_self_eq_false]
  rw [if_neg (by omega)]
  simp only [laws_FnExactPayPart.j2, Bool.false_eq_true, if_false, heldOrderS_eq (k := 8000000) (m := (payM (l.map toOrder) id c).1.length) (s := 1) (by omega) (by omega) (by omega), Option.bind_some, if_true]
  rw [if_neg (by omega)]

end Go.Proofs.YtahfahlbdgbfeaaDoor.Pure
