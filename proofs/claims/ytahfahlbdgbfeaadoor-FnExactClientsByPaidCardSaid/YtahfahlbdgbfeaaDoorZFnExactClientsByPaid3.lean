/- What the law FnExactClientsByPaid needs, part 4 of 4: what each function of the program that it reaches returns (printed by this session's own program, checked by Lean), and plain mathematics about it. Conditions: those of each theorem. -/
import Derived.Test.YtahfahlbdgbfeaaDoorZFnExactClientsByPaid2
import Derived.Test.YtahfahlbdgbfeaaDoorYG
namespace Go.Proofs.YtahfahlbdgbfeaaDoor.X
open Ho (bS eS RS Ak Cs Ct Cd)
open Go.RowKit Go.Proofs.YtahfahlbdgbfeaaDoorW.PrintWords Go.Proofs.YtahfahlbdgbfeaaDoorW.PrintLast Go.Proofs.YtahfahlbdgbfeaaDoorW.PrintMore
attribute [local go_sem] max2_int min2_int max_two min_two max_three min_three max_four min_four   -- for this text's walks alone
set_option linter.unusedVariables false
set_option linter.unusedSimpArgs false
/-! ### Fb: function 3 -/
mutual
def Fb.j0 : Nat → List (S38) → List ByteArray → List Int → Bool → List (S41) → List ByteArray → List Int → Bool → Bool → Option (Bool)
  | 0, _, _, _, _, _, _, _, _, _ => none
  | k + 1, x0, x4, x5, x6, x7, x8, x9, x10, x51 => if x51 = true then (some false) else ((Ff.f k x0).bind fun t124 => ((Fe.f k x7 t124).bind fun t127 => (if t127 = true then ((Fd.f k x7 1).bind fun bt128 => (if bt128.1 < 0 then (Fb.j1 k x0 x4 x5 x6 x8 x9 true) else ((Fi.f k x8 x4).bind fun t130 => (if t130 = true then ((Fn.f k x9 x5).bind fun t131 => (if t131 = true then (Fb.j1 k x0 x4 x5 x6 x8 x9 (x10 != x6)) else (Fb.j1 k x0 x4 x5 x6 x8 x9 true))) else (Fb.j1 k x0 x4 x5 x6 x8 x9 true))))) else (some false))))
def Fb.j1 : Nat → List (S38) → List ByteArray → List Int → Bool → List ByteArray → List Int → Bool → Option (Bool)
  | 0, _, _, _, _, _, _, _ => none
  | k + 1, x0, x4, x5, x6, x8, x9, x78 => if x78 = true then (some false) else ((Fm.f k x8 1).bind fun bt132 => ((Fq.f k x9 bt132.1).bind fun bt134 => ((Fl.f k bt132.2 1).bind fun t136 => (if t136 < 0 then (some false) else ((Fo.f k bt134.2 t136).bind fun t137 => (if t137 < 0 then (some false) else (if t137 = bt134.1 then ((Ff.f k x0).bind fun t138 => ((Fp.f k t138).bind fun bt141 => ((Fi.f k bt141.1 x4).bind fun t148 => (if t148 = true then ((Fn.f k bt141.2.1 x5).bind fun t149 => (if t149 = true then (Fb.j2 k bt132.2 bt134.2 bt134.1 (bt141.2.2 != x6)) else (Fb.j2 k bt132.2 bt134.2 bt134.1 true))) else (Fb.j2 k bt132.2 bt134.2 bt134.1 true))))) else (some false))))))))
def Fb.j2 : Nat → List ByteArray → List Int → Int → Bool → Option (Bool)
  | 0, _, _, _, _ => none
  | k + 1, x8, x9, x12, x119 => if x119 = true then (some false) else ((Fl.f k x8 1).bind fun t150 => (if t150 < 0 then (some false) else ((Fo.f k x9 t150).bind fun t151 => (if t151 < 0 then (some false) else (if t151 = x12 then (some true) else (some false))))))
end
def Fb.f (k : Nat) (l0 : List (S38)) : Option (Bool) := (Fh.f k l0 1048576).bind fun t101 => (if t101 < 0 then (some true) else ((Ff.f k l0).bind fun t102 => ((Fa.f k t102).bind fun bt105 => ((Ff.f k l0).bind fun t112 => ((Fp.f k t112).bind fun bt115 => ((Fi.f k bt115.1 bt105.1).bind fun t122 => (if t122 = true then ((Fn.f k bt115.2.1 bt105.2.1).bind fun t123 => (if t123 = true then (Fb.j0 k l0 bt105.1 bt105.2.1 bt105.2.2 t112 bt115.1 bt115.2.1 bt115.2.2 (bt115.2.2 != bt105.2.2)) else (Fb.j0 k l0 bt105.1 bt105.2.1 bt105.2.2 t112 bt115.1 bt115.2.1 bt115.2.2 true))) else (Fb.j0 k l0 bt105.1 bt105.2.1 bt105.2.2 t112 bt115.1 bt115.2.1 bt115.2.2 true))))))))
theorem Fb.mono_l : ∀ k, (∀ y0 y1 y2 y3 y4 y5 y6 y7 y8, LeO (Fb.j0 k y0 y1 y2 y3 y4 y5 y6 y7 y8) (Fb.j0 (k + 1) y0 y1 y2 y3 y4 y5 y6 y7 y8)) ∧ (∀ y0 y1 y2 y3 y4 y5 y6, LeO (Fb.j1 k y0 y1 y2 y3 y4 y5 y6) (Fb.j1 (k + 1) y0 y1 y2 y3 y4 y5 y6)) ∧ (∀ y0 y1 y2 y3, LeO (Fb.j2 k y0 y1 y2 y3) (Fb.j2 (k + 1) y0 y1 y2 y3))
  | 0 => ⟨fun _ _ _ _ _ _ _ _ _ r h => by simp [Fb.j0] at h, fun _ _ _ _ _ _ _ r h => by simp [Fb.j1] at h, fun _ _ _ _ r h => by simp [Fb.j2] at h⟩
  | k + 1 => by
    obtain ⟨ih0, ih1, ih2⟩ := Fb.mono_l k
    refine ⟨?_, ?_, ?_⟩
    · intro y0 y1 y2 y3 y4 y5 y6 y7 y8
      unfold Fb.j0
      repeat' first | (with_reducible first | exact ih0 _ _ _ _ _ _ _ _ _ | exact ih1 _ _ _ _ _ _ _ | exact ih2 _ _ _ _ | exact Fp.mono _ _ | exact Fe.mono _ _ _ | exact Fn.mono _ _ _ | exact Fi.mono _ _ _ | exact Fo.mono _ _ _ | exact Fl.mono _ _ _ | exact Fd.mono _ _ _ | exact Fq.mono _ _ _ | exact Fm.mono _ _ _ | exact Fh.mono _ _ _ | exact Ff.mono _ _ | exact Fa.mono _ _ | exact LeO.refl _ | exact LeO.none _ | refine LeO.ite ?_ ?_ | refine LeO.bind ?_ (fun _ => ?_)) | exact ih0 _ _ _ _ _ _ _ _ _ | exact ih1 _ _ _ _ _ _ _ | exact ih2 _ _ _ _ | exact Fp.mono _ _ | exact Fe.mono _ _ _ | exact Fn.mono _ _ _ | exact Fi.mono _ _ _ | exact Fo.mono _ _ _ | exact Fl.mono _ _ _ | exact Fd.mono _ _ _ | exact Fq.mono _ _ _ | exact Fm.mono _ _ _ | exact Fh.mono _ _ _ | exact Ff.mono _ _ | exact Fa.mono _ _ | exact LeO.none _ | refine LeO.ite ?_ ?_ | refine LeO.bind ?_ (fun _ => ?_)
    · intro y0 y1 y2 y3 y4 y5 y6
      unfold Fb.j1
      repeat' first | (with_reducible first | exact ih0 _ _ _ _ _ _ _ _ _ | exact ih1 _ _ _ _ _ _ _ | exact ih2 _ _ _ _ | exact Fp.mono _ _ | exact Fe.mono _ _ _ | exact Fn.mono _ _ _ | exact Fi.mono _ _ _ | exact Fo.mono _ _ _ | exact Fl.mono _ _ _ | exact Fd.mono _ _ _ | exact Fq.mono _ _ _ | exact Fm.mono _ _ _ | exact Fh.mono _ _ _ | exact Ff.mono _ _ | exact Fa.mono _ _ | exact LeO.refl _ | exact LeO.none _ | refine LeO.ite ?_ ?_ | refine LeO.bind ?_ (fun _ => ?_)) | exact ih0 _ _ _ _ _ _ _ _ _ | exact ih1 _ _ _ _ _ _ _ | exact ih2 _ _ _ _ | exact Fp.mono _ _ | exact Fe.mono _ _ _ | exact Fn.mono _ _ _ | exact Fi.mono _ _ _ | exact Fo.mono _ _ _ | exact Fl.mono _ _ _ | exact Fd.mono _ _ _ | exact Fq.mono _ _ _ | exact Fm.mono _ _ _ | exact Fh.mono _ _ _ | exact Ff.mono _ _ | exact Fa.mono _ _ | exact LeO.none _ | refine LeO.ite ?_ ?_ | refine LeO.bind ?_ (fun _ => ?_)
    · intro y0 y1 y2 y3
      unfold Fb.j2
      repeat' first | (with_reducible first | exact ih0 _ _ _ _ _ _ _ _ _ | exact ih1 _ _ _ _ _ _ _ | exact ih2 _ _ _ _ | exact Fp.mono _ _ | exact Fe.mono _ _ _ | exact Fn.mono _ _ _ | exact Fi.mono _ _ _ | exact Fo.mono _ _ _ | exact Fl.mono _ _ _ | exact Fd.mono _ _ _ | exact Fq.mono _ _ _ | exact Fm.mono _ _ _ | exact Fh.mono _ _ _ | exact Ff.mono _ _ | exact Fa.mono _ _ | exact LeO.refl _ | exact LeO.none _ | refine LeO.ite ?_ ?_ | refine LeO.bind ?_ (fun _ => ?_)) | exact ih0 _ _ _ _ _ _ _ _ _ | exact ih1 _ _ _ _ _ _ _ | exact ih2 _ _ _ _ | exact Fp.mono _ _ | exact Fe.mono _ _ _ | exact Fn.mono _ _ _ | exact Fi.mono _ _ _ | exact Fo.mono _ _ _ | exact Fl.mono _ _ _ | exact Fd.mono _ _ _ | exact Fq.mono _ _ _ | exact Fm.mono _ _ _ | exact Fh.mono _ _ _ | exact Ff.mono _ _ | exact Fa.mono _ _ | exact LeO.none _ | refine LeO.ite ?_ ?_ | refine LeO.bind ?_ (fun _ => ?_)
theorem Fb.mono : ∀ a0 k, LeO (Fb.f k a0) (Fb.f (k + 1) a0) := by
  intro a0 k
  obtain ⟨ih0, ih1, ih2⟩ := Fb.mono_l k
  unfold Fb.f
  repeat' first | (with_reducible first | exact ih0 _ _ _ _ _ _ _ _ _ | exact ih1 _ _ _ _ _ _ _ | exact ih2 _ _ _ _ | exact Fp.mono _ _ | exact Fe.mono _ _ _ | exact Fn.mono _ _ _ | exact Fi.mono _ _ _ | exact Fo.mono _ _ _ | exact Fl.mono _ _ _ | exact Fd.mono _ _ _ | exact Fq.mono _ _ _ | exact Fm.mono _ _ _ | exact Fh.mono _ _ _ | exact Ff.mono _ _ | exact Fa.mono _ _ | exact LeO.refl _ | exact LeO.none _ | refine LeO.ite ?_ ?_ | refine LeO.bind ?_ (fun _ => ?_)) | exact ih0 _ _ _ _ _ _ _ _ _ | exact ih1 _ _ _ _ _ _ _ | exact ih2 _ _ _ _ | exact Fp.mono _ _ | exact Fe.mono _ _ _ | exact Fn.mono _ _ _ | exact Fi.mono _ _ _ | exact Fo.mono _ _ _ | exact Fl.mono _ _ _ | exact Fd.mono _ _ _ | exact Fq.mono _ _ _ | exact Fm.mono _ _ _ | exact Fh.mono _ _ _ | exact Ff.mono _ _ | exact Fa.mono _ _ | exact LeO.none _ | refine LeO.ite ?_ ?_ | refine LeO.bind ?_ (fun _ => ?_)
set_option maxHeartbeats 8000000 in
set_option maxRecDepth 100000 in
theorem Fb.calls (k : Nat) (A0 : Option Addr) (c0 : Nat) (l0 : List (S38)) (r : Bool) (w : World) (hr0 : Kd.C k38 w A0 l0.length l0) (hc0 : l0.length ≤ c0) (ht : r = true) (h : Fb.f k l0 = some r) :
  Calls Tryd.prog 3 #[.slice A0 l0.length c0] w fun e w' => e = .returned (.bool r) ∧ Below w.heap.size w w' := by
 have HR0 := Ak hr0
 have HC0 := Ak hc0
 clear hr0 hc0
 have HB := Ak (Below.refl w.heap.size w)
 have HT := Ak ht
 clear ht
 have H : ((Fh.f k l0 1048576).bind fun t101 => (if t101 < 0 then (some true) else ((Ff.f k l0).bind fun t102 => ((Fa.f k t102).bind fun bt105 => ((Ff.f k l0).bind fun t112 => ((Fp.f k t112).bind fun bt115 => ((Fi.f k bt115.1 bt105.1).bind fun t122 => (if t122 = true then ((Fn.f k bt115.2.1 bt105.2.1).bind fun t123 => (if t123 = true then (Fb.j0 k l0 bt105.1 bt105.2.1 bt105.2.2 t112 bt115.1 bt115.2.1 bt115.2.2 (bt115.2.2 != bt105.2.2)) else (Fb.j0 k l0 bt105.1 bt105.2.1 bt105.2.2 t112 bt115.1 bt115.2.1 bt115.2.2 true))) else (Fb.j0 k l0 bt105.1 bt105.2.1 bt105.2.2 t112 bt115.1 bt115.2.1 bt115.2.2 true))))))))) = some r := h
 clear h
 replace H := Option.bind_eq_some_iff.mp H
 obtain ⟨t101, A20, H⟩ := H
 (try dsimp only at H)
 have A2 := Ak A20
 clear A20
 by_cases c3 : t101 < 0
 ·rw [if_pos c3] at H
  have c3b0 : decide (t101 < 0) = true := decide_eq_true c3
  clear c3
  as_aux_lemma =>
   obtain rfl := Option.some.inj H
   go_enter Tryd.func3, Tryd.ntmps3
   go_wp2_with (first | ((with_reducible refine gate_callee (f := 14) rfl ?_); refine goesL_ (some 19) rfl rfl Tryd.func14 (by kernel_rfl) rfl #[.slice A0 l0.length c0, .int .i64 1048576] rfl (by (try simp only [List.map_toArray, List.map_cons, List.map_nil]); first | done | rfl | (simp only [List.length_drop, List.length_take]; rfl)) ?_; (with_reducible refine (Fh.calls k _ _ l0 1048576 t101 _ ?side1 ?side2 A2.out).mono ?_); (case side1 => exact Cs HR0.out); (case side2 => exact HC0.out); rintro e w4 ⟨rfl, hb⟩; refine ⟨_, rfl, ?_⟩; have n0_ := Ak (below_step (by exact eS HB.out) hb); clear HB; have HB := n0_; clear n0_; (try clear hb); (try clear hb2); (try clear hk); (try clear hi)))
   go_ret
   exact ⟨by first | rfl | (simp [errW_none, errW_some] <;> rfl) | (simp [*, errW_none, errW_some] <;> rfl), by exact eS HB.out⟩
 rw [if_neg c3] at H
 have c3b0 : decide (t101 < 0) = false := decide_eq_false c3
 clear c3
 replace H := Option.bind_eq_some_iff.mp H
 obtain ⟨t102, A50, H⟩ := H
 (try dsimp only at H)
 have A5 := Ak A50
 clear A50
 replace H := Option.bind_eq_some_iff.mp H
 obtain ⟨⟨t105, t106, t107⟩, A60, H⟩ := H
 (try dsimp only at H)
 have A6 := Ak A60
 clear A60
 replace H := Option.bind_eq_some_iff.mp H
 obtain ⟨t112, A70, H⟩ := H
 (try dsimp only at H)
 have A7 := Ak A70
 clear A70
 replace H := Option.bind_eq_some_iff.mp H
 obtain ⟨⟨t115, t116, t117⟩, A80, H⟩ := H
 (try dsimp only at H)
 have A8 := Ak A80
 clear A80
 have HC9 := Ak H
 clear H
 go_enter Tryd.func3, Tryd.ntmps3
 go_upto_region 8 with (first | ((with_reducible refine gate_callee (f := 14) rfl ?_); refine goesL_ (some 19) rfl rfl Tryd.func14 (by kernel_rfl) rfl #[.slice A0 l0.length c0, .int .i64 1048576] rfl (by (try simp only [List.map_toArray, List.map_cons, List.map_nil]); first | done | rfl | (simp only [List.length_drop, List.length_take]; rfl)) ?_; (with_reducible refine (Fh.calls k _ _ l0 1048576 t101 _ ?side1 ?side2 A2.out).mono ?_); (case side1 => exact Cs HR0.out); (case side2 => exact HC0.out); rintro e w10 ⟨rfl, hb⟩; refine ⟨_, rfl, ?_⟩; have n0_ := Ak (below_step (by exact eS HB.out) hb); clear HB; have HB := n0_; clear n0_; (try clear hb); (try clear hb2); (try clear hk); (try clear hi)) | ((with_reducible refine gate_callee (f := 16) rfl ?_); refine goesL_ (some 24) rfl rfl Tryd.func16 (by kernel_rfl) rfl #[.slice A0 l0.length c0] rfl (by (try simp only [List.map_toArray, List.map_cons, List.map_nil]); first | done | rfl | (simp only [List.length_drop, List.length_take]; rfl)) ?_; (with_reducible refine (Ff.calls k _ _ l0 t102 _ ?side1 ?side2 A5.out).mono ?_); (case side1 => repeat (first | exact (Kd.C_below HR0.out HB.out) | (with_reducible refine Kd.C_alloc ?_ _) | (with_reducible refine Kd.C_drewN ?_ _) | (with_reducible refine Kd.C_drew ?_))); (case side2 => exact HC0.out); rintro e w11 ⟨v103, rfl, ho0, hb⟩; refine ⟨_, rfl, ?_⟩; have n0_ := Ak (Kd.R_lower ho0 (below_size (by exact eS HB.out))); have n1_ := Ak (below_step (by exact eS HB.out) hb); clear HB; have HO104 := n0_; have HB := n1_; clear n0_ n1_; (try clear hb); (try clear hb2); (try clear hk); (try clear hi); (try clear ho0); obtain ⟨Ao12, co12, eo12⟩ := Kd.R_slice HO104.out; subst eo12) | ((with_reducible refine gate_callee (f := 15) rfl ?_); refine goesL_ (some 25) rfl rfl Tryd.func15 (by kernel_rfl) rfl #[.slice Ao12 t102.length co12] rfl (by (try simp only [List.map_toArray, List.map_cons, List.map_nil]); first | done | rfl | (simp only [List.length_drop, List.length_take]; rfl)) ?_; (with_reducible refine (Fa.calls k _ _ t102 t105 t106 t107 _ ?side1 ?side2 A6.out).mono ?_); (case side1 => repeat (first | exact (Kd.R_reads' HO104.out).2.2 | (with_reducible refine Kd.C_alloc ?_ _) | (with_reducible refine Kd.C_drewN ?_ _) | (with_reducible refine Kd.C_drew ?_))); (case side2 => exact (Kd.R_reads' HO104.out).2.1); rintro e w13 ⟨v108, v110, rfl, ho0, ho1, hb⟩; refine ⟨_, rfl, ?_⟩; have n0_ := Ak (Kd.R_below (by exact RS <| HO104.out) hb); have n1_ := Ak (Kd.R_lower ho0 (below_size (by exact eS HB.out))); have n2_ := Ak (Kd.R_lower ho1 (below_size (by exact eS HB.out))); have n3_ := Ak (below_step (by exact eS HB.out) hb); clear HO104; clear HB; have HO104 := n0_; have HO109 := n1_; have HO111 := n2_; have HB := n3_; clear n0_ n1_ n2_ n3_; (try clear hb); (try clear hb2); (try clear hk); (try clear hi); (try clear ho0); (try clear ho1)) | ((with_reducible refine gate_callee (f := 16) rfl ?_); refine goesL_ (some 30) rfl rfl Tryd.func16 (by kernel_rfl) rfl #[.slice A0 l0.length c0] rfl (by (try simp only [List.map_toArray, List.map_cons, List.map_nil]); first | done | rfl | (simp only [List.length_drop, List.length_take]; rfl)) ?_; (with_reducible refine (Ff.calls k _ _ l0 t112 _ ?side1 ?side2 A7.out).mono ?_); (case side1 => repeat (first | exact (Kd.C_below HR0.out HB.out) | (with_reducible refine Kd.C_alloc ?_ _) | (with_reducible refine Kd.C_drewN ?_ _) | (with_reducible refine Kd.C_drew ?_))); (case side2 => exact HC0.out); rintro e w14 ⟨v113, rfl, ho0, hb⟩; refine ⟨_, rfl, ?_⟩; have n0_ := Ak (Kd.R_elder' (by exact RS <| HO104.out) (Kd.R_base ho0) hb); have n1_ := Ak (Kd.R_below (by exact RS <| HO109.out) hb); have n2_ := Ak (Kd.R_below (by exact RS <| HO111.out) hb); have n3_ := Ak (Kd.R_lower (Kd.R_new' ho0 (Kd.R_lt (by exact RS <| HO104.out))) (below_size (by exact eS HB.out))); have n4_ := Ak (below_step (by exact eS HB.out) hb); clear HO104; clear HO109; clear HO111; clear HB; have HO104 := n0_; have HO109 := n1_; have HO111 := n2_; have HO114 := n3_; have HB := n4_; clear n0_ n1_ n2_ n3_ n4_; (try clear hb); (try clear hb2); (try clear hk); (try clear hi); (try clear ho0); obtain ⟨Ao15, co15, eo15⟩ := Kd.R_slice HO114.out; subst eo15) | ((with_reducible refine gate_callee (f := 17) rfl ?_); refine goesL_ (some 33) rfl rfl Tryd.func17 (by kernel_rfl) rfl #[.slice Ao15 t112.length co15] rfl (by (try simp only [List.map_toArray, List.map_cons, List.map_nil]); first | done | rfl | (simp only [List.length_drop, List.length_take]; rfl)) ?_; (with_reducible refine (Fp.calls k _ _ t112 t115 t116 t117 _ ?side1 ?side2 A8.out).mono ?_); (case side1 => repeat (first | exact (Kd.R_reads' HO114.out).2.2 | (with_reducible refine Kd.C_alloc ?_ _) | (with_reducible refine Kd.C_drewN ?_ _) | (with_reducible refine Kd.C_drew ?_))); (case side2 => exact (Kd.R_reads' HO114.out).2.1); rintro e w16 ⟨v118, v120, rfl, ho0, ho1, hb⟩; refine ⟨_, rfl, ?_⟩; have n0_ := Ak (Kd.R_below (by exact RS <| HO104.out) hb); have n1_ := Ak (Kd.R_elder' (by exact RS <| HO109.out) (Kd.R_base ho0) hb); have n2_ := Ak (Kd.R_elder' (by exact RS <| HO111.out) (Kd.R_base ho1) hb); have n3_ := Ak (Kd.R_below (by exact RS <| HO114.out) hb); have n4_ := Ak (Kd.R_lower (Kd.R_new' ho0 (Kd.R_lt (by exact RS <| HO109.out))) (below_size (by exact eS HB.out))); have n5_ := Ak (Kd.R_lower (Kd.R_new' ho1 (Kd.R_lt (by exact RS <| HO111.out))) (below_size (by exact eS HB.out))); have n6_ := Ak (below_step (by exact eS HB.out) hb); clear HO104; clear HO109; clear HO111; clear HO114; clear HB; have HO104 := n0_; have HO109 := n1_; have HO111 := n2_; have HO114 := n3_; have HO119 := n4_; have HO121 := n5_; have HB := n6_; clear n0_ n1_ n2_ n3_ n4_ n5_ n6_; (try clear hb); (try clear hb2); (try clear hk); (try clear hi); (try clear ho0); (try clear ho1)))
 (try simp only [Act.put, List.setIfInBounds_toArray, List.set_cons_zero, List.set_cons_succ])
 go_cut [51] (fun v51 wc => ∃ (kq : Nat) (x51_8 : Bool), v51 = .bool x51_8 ∧ Aside0 (Fb.j0 kq l0 t105 t106 t107 t112 t115 t116 t117 x51_8 = some r) ∧ Aside0 (kq ≤ k) ∧ Aside0 (Kd.R Kd.string 9 wc w.heap.size (fun k_ => some k_ ≠ (v118 : Value).ownBlock) v108 t105) ∧ Aside0 (Kd.R (Kd.int .i64) 3 wc w.heap.size (fun k_ => some k_ ≠ (v120 : Value).ownBlock) v110 t106) ∧ Aside0 (Kd.R k41 41 wc w.heap.size (fun _ => True) (.slice Ao15 t112.length co15) t112) ∧ Aside0 (Kd.R Kd.string 9 wc w.heap.size (fun k_ => some k_ ≠ (v108 : Value).ownBlock) v118 t115) ∧ Aside0 (Kd.R (Kd.int .i64) 3 wc w.heap.size (fun k_ => some k_ ≠ (v110 : Value).ownBlock) v120 t116) ∧ Aside0 (Below w.heap.size w wc))
 case first =>
  have H := HC9.out
  clear HC9
  replace H := Option.bind_eq_some_iff.mp H
  obtain ⟨t122, A170, H⟩ := H
  (try dsimp only at H)
  have A17 := Ak A170
  clear A170
  by_cases c18 : t122 = true
  rotate_left
  ·replace c18 := Bool.eq_false_iff.mpr c18
   subst c18
   have H1 : (Fb.j0 k l0 t105 t106 t107 t112 t115 t116 t117 true) = some r := by rw [if_neg (show ¬ (false = true) by decide)] at H; exact H
   clear H
   have H := H1
   clear H1
   as_aux_lemma =>
    have H' := Ak H
    clear H
    obtain ⟨Ao29, co29, eo29⟩ := Kd.R_slice HO119.out
    subst eo29
    obtain ⟨Ao30, co30, eo30⟩ := Kd.R_slice HO109.out
    subst eo30
    go_wp2_with (first | ((with_reducible refine gate_callee (f := 18) rfl ?_); refine goesL_ (some 39) rfl rfl Tryd.func18 (by kernel_rfl) rfl #[.slice Ao29 t115.length co29, .slice Ao30 t105.length co30] rfl (by (try simp only [List.map_toArray, List.map_cons, List.map_nil]); first | done | rfl | (simp only [List.length_drop, List.length_take]; rfl)) ?_; (with_reducible refine (Fi.calls k _ _ t115 _ _ t105 false _ ?side1 ?side2 ?side3 ?side4 A17.out).mono ?_); (case side1 => repeat (first | exact (Kd.R_reads' HO119.out).2.2 | (with_reducible refine Kd.C_alloc ?_ _) | (with_reducible refine Kd.C_drewN ?_ _) | (with_reducible refine Kd.C_drew ?_))); (case side2 => exact (Kd.R_reads' HO119.out).2.1); (case side3 => repeat (first | exact (Kd.R_reads' HO109.out).2.2 | (with_reducible refine Kd.C_alloc ?_ _) | (with_reducible refine Kd.C_drewN ?_ _) | (with_reducible refine Kd.C_drew ?_))); (case side4 => exact (Kd.R_reads' HO109.out).2.1); rintro e w' ⟨rfl, ⟨nd, rfl⟩⟩; refine ⟨_, rfl, ?_⟩))
    go_meet
    case rel => exact ⟨_, (true), (by first | rfl | (simp; done) | (simp [*]; done)), H', ⟨by first | omega | exact Nat.le_refl _⟩, ⟨by exact RS <| Kd.R_mono HO109.out (fun _ hk => hk.2)⟩, ⟨by exact RS <| Kd.R_mono HO111.out (fun _ hk => hk.2)⟩, ⟨by exact RS <| Kd.R_mono HO114.out (fun _ hk => trivial)⟩, ⟨by exact RS <| Kd.R_mono HO119.out (fun _ hk => hk.2)⟩, ⟨by exact RS <| Kd.R_mono HO121.out (fun _ hk => hk.2)⟩, ⟨by exact eS HB.out⟩⟩
  subst c18
  have H1 : ((Fn.f k t116 t106).bind fun t123 => (if t123 = true then (Fb.j0 k l0 t105 t106 t107 t112 t115 t116 t117 (t117 != t107)) else (Fb.j0 k l0 t105 t106 t107 t112 t115 t116 t117 true))) = some r := by rw [if_pos rfl] at H; exact H
  clear H
  have H := H1
  clear H1
  replace H := Option.bind_eq_some_iff.mp H
  obtain ⟨t123, A190, H⟩ := H
  (try dsimp only at H)
  have A19 := Ak A190
  clear A190
  by_cases c20 : t123 = true
  ·subst c20
   have H1 : (Fb.j0 k l0 t105 t106 t107 t112 t115 t116 t117 (t117 != t107)) = some r := by rw [if_pos rfl] at H; exact H
   clear H
   have H := H1
   clear H1
   as_aux_lemma =>
    have H' := Ak H
    clear H
    obtain ⟨Ao21, co21, eo21⟩ := Kd.R_slice HO119.out
    subst eo21
    obtain ⟨Ao22, co22, eo22⟩ := Kd.R_slice HO109.out
    subst eo22
    go_wp2_with (first | ((with_reducible refine gate_callee (f := 18) rfl ?_); refine goesL_ (some 39) rfl rfl Tryd.func18 (by kernel_rfl) rfl #[.slice Ao21 t115.length co21, .slice Ao22 t105.length co22] rfl (by (try simp only [List.map_toArray, List.map_cons, List.map_nil]); first | done | rfl | (simp only [List.length_drop, List.length_take]; rfl)) ?_; (with_reducible refine (Fi.calls k _ _ t115 _ _ t105 true _ ?side1 ?side2 ?side3 ?side4 A17.out).mono ?_); (case side1 => repeat (first | exact (Kd.R_reads' HO119.out).2.2 | (with_reducible refine Kd.C_alloc ?_ _) | (with_reducible refine Kd.C_drewN ?_ _) | (with_reducible refine Kd.C_drew ?_))); (case side2 => exact (Kd.R_reads' HO119.out).2.1); (case side3 => repeat (first | exact (Kd.R_reads' HO109.out).2.2 | (with_reducible refine Kd.C_alloc ?_ _) | (with_reducible refine Kd.C_drewN ?_ _) | (with_reducible refine Kd.C_drew ?_))); (case side4 => exact (Kd.R_reads' HO109.out).2.1); rintro e w' ⟨rfl, ⟨nd, rfl⟩⟩; refine ⟨_, rfl, ?_⟩; obtain ⟨Ao23, co23, eo23⟩ := Kd.R_slice HO121.out; subst eo23; obtain ⟨Ao24, co24, eo24⟩ := Kd.R_slice HO111.out; subst eo24) | (go_at_call 19; (with_reducible refine (Fn.calls k _ _ t116 _ _ t106 true _ ?side1 ?side2 ?side3 ?side4 A19.out).mono ?_); (case side1 => repeat (first | exact (Kd.R_reads' HO121.out).2.2 | (with_reducible refine Kd.C_alloc ?_ _) | (with_reducible refine Kd.C_drewN ?_ _) | (with_reducible refine Kd.C_drew ?_))); (case side2 => exact (Kd.R_reads' HO121.out).2.1); (case side3 => repeat (first | exact (Kd.R_reads' HO111.out).2.2 | (with_reducible refine Kd.C_alloc ?_ _) | (with_reducible refine Kd.C_drewN ?_ _) | (with_reducible refine Kd.C_drew ?_))); (case side4 => exact (Kd.R_reads' HO111.out).2.1); rintro e w' ⟨rfl, ⟨nd, rfl⟩⟩))
    go_meet
    case rel => exact ⟨_, ((t117 != t107)), (by first | rfl | (simp; done) | (simp [*]; done)), H', ⟨by first | omega | exact Nat.le_refl _⟩, ⟨by exact RS <| Kd.R_mono HO109.out (fun _ hk => hk.2)⟩, ⟨by exact RS <| Kd.R_mono HO111.out (fun _ hk => hk.2)⟩, ⟨by exact RS <| Kd.R_mono HO114.out (fun _ hk => trivial)⟩, ⟨by exact RS <| Kd.R_mono HO119.out (fun _ hk => hk.2)⟩, ⟨by exact RS <| Kd.R_mono HO121.out (fun _ hk => hk.2)⟩, ⟨by exact eS HB.out⟩⟩
  replace c20 := Bool.eq_false_iff.mpr c20
  subst c20
  have H1 : (Fb.j0 k l0 t105 t106 t107 t112 t115 t116 t117 true) = some r := by rw [if_neg (show ¬ (false = true) by decide)] at H; exact H
  clear H
  have H := H1
  clear H1
  as_aux_lemma =>
   have H' := Ak H
   clear H
   obtain ⟨Ao25, co25, eo25⟩ := Kd.R_slice HO119.out
   subst eo25
   obtain ⟨Ao26, co26, eo26⟩ := Kd.R_slice HO109.out
   subst eo26
   go_wp2_with (first | ((with_reducible refine gate_callee (f := 18) rfl ?_); refine goesL_ (some 39) rfl rfl Tryd.func18 (by kernel_rfl) rfl #[.slice Ao25 t115.length co25, .slice Ao26 t105.length co26] rfl (by (try simp only [List.map_toArray, List.map_cons, List.map_nil]); first | done | rfl | (simp only [List.length_drop, List.length_take]; rfl)) ?_; (with_reducible refine (Fi.calls k _ _ t115 _ _ t105 true _ ?side1 ?side2 ?side3 ?side4 A17.out).mono ?_); (case side1 => repeat (first | exact (Kd.R_reads' HO119.out).2.2 | (with_reducible refine Kd.C_alloc ?_ _) | (with_reducible refine Kd.C_drewN ?_ _) | (with_reducible refine Kd.C_drew ?_))); (case side2 => exact (Kd.R_reads' HO119.out).2.1); (case side3 => repeat (first | exact (Kd.R_reads' HO109.out).2.2 | (with_reducible refine Kd.C_alloc ?_ _) | (with_reducible refine Kd.C_drewN ?_ _) | (with_reducible refine Kd.C_drew ?_))); (case side4 => exact (Kd.R_reads' HO109.out).2.1); rintro e w' ⟨rfl, ⟨nd, rfl⟩⟩; refine ⟨_, rfl, ?_⟩; obtain ⟨Ao27, co27, eo27⟩ := Kd.R_slice HO121.out; subst eo27; obtain ⟨Ao28, co28, eo28⟩ := Kd.R_slice HO111.out; subst eo28) | (go_at_call 19; (with_reducible refine (Fn.calls k _ _ t116 _ _ t106 false _ ?side1 ?side2 ?side3 ?side4 A19.out).mono ?_); (case side1 => repeat (first | exact (Kd.R_reads' HO121.out).2.2 | (with_reducible refine Kd.C_alloc ?_ _) | (with_reducible refine Kd.C_drewN ?_ _) | (with_reducible refine Kd.C_drew ?_))); (case side2 => exact (Kd.R_reads' HO121.out).2.1); (case side3 => repeat (first | exact (Kd.R_reads' HO111.out).2.2 | (with_reducible refine Kd.C_alloc ?_ _) | (with_reducible refine Kd.C_drewN ?_ _) | (with_reducible refine Kd.C_drew ?_))); (case side4 => exact (Kd.R_reads' HO111.out).2.1); rintro e w' ⟨rfl, ⟨nd, rfl⟩⟩))
   go_meet
   case rel => exact ⟨_, (true), (by first | rfl | (simp; done) | (simp [*]; done)), H', ⟨by first | omega | exact Nat.le_refl _⟩, ⟨by exact RS <| Kd.R_mono HO109.out (fun _ hk => hk.2)⟩, ⟨by exact RS <| Kd.R_mono HO111.out (fun _ hk => hk.2)⟩, ⟨by exact RS <| Kd.R_mono HO114.out (fun _ hk => trivial)⟩, ⟨by exact RS <| Kd.R_mono HO119.out (fun _ hk => hk.2)⟩, ⟨by exact RS <| Kd.R_mono HO121.out (fun _ hk => hk.2)⟩, ⟨by exact eS HB.out⟩⟩
 case rest =>
  clear HC9
  try clear c1
  try clear c2
  try clear p2
  try clear c3
  try clear c3b0
  try clear c14
  try clear c15
  try clear c16
  try clear c17
  try clear c18
  try clear c20
  obtain ⟨kq, x51_8, rfl, HA, HJ8, HO_4, HO_5, HO_7, HO_8, HO_9, HB⟩ := hcut
  cases kq with
  | zero => exact absurd HA.out (by simp [Fb.j0])
  | succ kj8 =>
   have H := HA.out
   clear HA
   simp only [Fb.j0] at H
   by_cases c31 : x51_8 = true
   ·subst c31
    have H1 : (some false) = some r := by rw [if_pos rfl] at H; exact H
    clear H
    have H := H1
    clear H1
    as_aux_lemma =>
     exact absurd ((Option.some.inj H).trans HT.out) (by decide)
   replace c31 := Bool.eq_false_iff.mpr c31
   subst c31
   have H1 : ((Ff.f kj8 l0).bind fun t124 => ((Fe.f kj8 t112 t124).bind fun t127 => (if t127 = true then ((Fd.f kj8 t112 1).bind fun bt128 => (if bt128.1 < 0 then (Fb.j1 kj8 l0 t105 t106 t107 t115 t116 true) else ((Fi.f kj8 t115 t105).bind fun t130 => (if t130 = true then ((Fn.f kj8 t116 t106).bind fun t131 => (if t131 = true then (Fb.j1 kj8 l0 t105 t106 t107 t115 t116 (t117 != t107)) else (Fb.j1 kj8 l0 t105 t106 t107 t115 t116 true))) else (Fb.j1 kj8 l0 t105 t106 t107 t115 t116 true))))) else (some false)))) = some r := by rw [if_neg (show ¬ (false = true) by decide)] at H; exact H
   clear H
   have H := H1
   clear H1
   replace H := Option.bind_eq_some_iff.mp H
   obtain ⟨t124, A320, H⟩ := H
   (try dsimp only at H)
   have A32 := Ak A320
   clear A320
   replace H := Option.bind_eq_some_iff.mp H
   obtain ⟨t127, A330, H⟩ := H
   (try dsimp only at H)
   have A33 := Ak A330
   clear A330
   by_cases c34 : t127 = true
   rotate_left
   ·replace c34 := Bool.eq_false_iff.mpr c34
    subst c34
    have H1 : (some false) = some r := by rw [if_neg (show ¬ (false = true) by decide)] at H; exact H
    clear H
    have H := H1
    clear H1
    as_aux_lemma =>
     exact absurd ((Option.some.inj H).trans HT.out) (by decide)
   subst c34
   have H1 : ((Fd.f kj8 t112 1).bind fun bt128 => (if bt128.1 < 0 then (Fb.j1 kj8 l0 t105 t106 t107 t115 t116 true) else ((Fi.f kj8 t115 t105).bind fun t130 => (if t130 = true then ((Fn.f kj8 t116 t106).bind fun t131 => (if t131 = true then (Fb.j1 kj8 l0 t105 t106 t107 t115 t116 (t117 != t107)) else (Fb.j1 kj8 l0 t105 t106 t107 t115 t116 true))) else (Fb.j1 kj8 l0 t105 t106 t107 t115 t116 true))))) = some r := by rw [if_pos rfl] at H; exact H
   clear H
   have H := H1
   clear H1
   replace H := Option.bind_eq_some_iff.mp H
   obtain ⟨⟨t128, t129⟩, A350, H⟩ := H
   (try dsimp only at H)
   have A35 := Ak A350
   clear A350
   have HC36 := Ak H
   clear H
   go_upto_region 14 with (first | ((with_reducible refine gate_callee (f := 16) rfl ?_); refine goesL_ (some 54) rfl rfl Tryd.func16 (by kernel_rfl) rfl #[.slice A0 l0.length c0] rfl (by (try simp only [List.map_toArray, List.map_cons, List.map_nil]); first | done | rfl | (simp only [List.length_drop, List.length_take]; rfl)) ?_; (with_reducible refine (Ff.calls kj8 _ _ l0 t124 _ ?side1 ?side2 A32.out).mono ?_); (case side1 => repeat (first | exact (Kd.C_below HR0.out HB.out) | (with_reducible refine Kd.C_alloc ?_ _) | (with_reducible refine Kd.C_drewN ?_ _) | (with_reducible refine Kd.C_drew ?_))); (case side2 => exact HC0.out); rintro e w37 ⟨v125, rfl, ho0, hb⟩; refine ⟨_, rfl, ?_⟩; have n0_ := Ak (Kd.R_below (by exact RS <| HO_4.out) hb); have n1_ := Ak (Kd.R_below (by exact RS <| HO_5.out) hb); have n2_ := Ak (Kd.R_elder' (by exact RS <| HO_7.out) (Kd.R_base ho0) hb); have n3_ := Ak (Kd.R_below (by exact RS <| HO_8.out) hb); have n4_ := Ak (Kd.R_below (by exact RS <| HO_9.out) hb); have n5_ := Ak (Kd.R_lower (Kd.R_new' ho0 (Kd.R_lt (by exact RS <| HO_7.out))) (below_size (by exact eS HB.out))); have n6_ := Ak (below_step (by exact eS HB.out) hb); clear HO_4; clear HO_5; clear HO_7; clear HO_8; clear HO_9; clear HB; have HO_4 := n0_; have HO_5 := n1_; have HO_7 := n2_; have HO_8 := n3_; have HO_9 := n4_; have HO126 := n5_; have HB := n6_; clear n0_ n1_ n2_ n3_ n4_ n5_ n6_; (try clear hb); (try clear hb2); (try clear hk); (try clear hi); (try clear ho0); obtain ⟨Ao38, co38, eo38⟩ := Kd.R_slice HO126.out; subst eo38) | ((with_reducible refine gate_callee (f := 20) rfl ?_); refine goesL_ (some 55) rfl rfl Tryd.func20 (by kernel_rfl) rfl #[.slice Ao15 t112.length co15, .slice Ao38 t124.length co38] rfl (by (try simp only [List.map_toArray, List.map_cons, List.map_nil]); first | done | rfl | (simp only [List.length_drop, List.length_take]; rfl)) ?_; (with_reducible refine (Fe.calls kj8 _ _ t112 _ _ t124 true _ ?side1 ?side2 ?side3 ?side4 A33.out).mono ?_); (case side1 => repeat (first | exact (Kd.R_reads' HO_7.out).2.2 | (with_reducible refine Kd.C_alloc ?_ _) | (with_reducible refine Kd.C_drewN ?_ _) | (with_reducible refine Kd.C_drew ?_))); (case side2 => exact (Kd.R_reads' HO_7.out).2.1); (case side3 => repeat (first | exact (Kd.R_reads' HO126.out).2.2 | (with_reducible refine Kd.C_alloc ?_ _) | (with_reducible refine Kd.C_drewN ?_ _) | (with_reducible refine Kd.C_drew ?_))); (case side4 => exact (Kd.R_reads' HO126.out).2.1); rintro e w39 ⟨rfl, hb⟩; refine ⟨_, rfl, ?_⟩; have n0_ := Ak (Kd.R_below (by exact RS <| HO_4.out) hb); have n1_ := Ak (Kd.R_below (by exact RS <| HO_5.out) hb); have n2_ := Ak (Kd.R_below (by exact RS <| HO_7.out) hb); have n3_ := Ak (Kd.R_below (by exact RS <| HO_8.out) hb); have n4_ := Ak (Kd.R_below (by exact RS <| HO_9.out) hb); have n5_ := Ak (Kd.R_below (by exact RS <| HO126.out) hb); have n6_ := Ak (below_step (by exact eS HB.out) hb); clear HO_4; clear HO_5; clear HO_7; clear HO_8; clear HO_9; clear HO126; clear HB; have HO_4 := n0_; have HO_5 := n1_; have HO_7 := n2_; have HO_8 := n3_; have HO_9 := n4_; have HO126 := n5_; have HB := n6_; clear n0_ n1_ n2_ n3_ n4_ n5_ n6_; (try clear hb); (try clear hb2); (try clear hk); (try clear hi)) | ((with_reducible refine gate_callee (f := 21) rfl ?_); refine goesL_ (some 59) rfl rfl Tryd.func21 (by kernel_rfl) rfl #[.slice Ao15 t112.length co15, .int .i64 1] rfl (by (try simp only [List.map_toArray, List.map_cons, List.map_nil]); first | done | rfl | (simp only [List.length_drop, List.length_take]; rfl)) ?_; (with_reducible refine (Fd.calls kj8 (fun k_ => some k_ = (.slice Ao15 t112.length co15 : Value).ownBlock) (.slice Ao15 t112.length co15) t112 1 t128 t129 w _ ?side1 ?side2 A35.out).mono ?_); (case side1 => exact eS HB.out); (case side2 => exact Kd.R_tight rfl HO_7.out); rintro e w40 ⟨rfl, hy0, hb, hkp⟩; refine ⟨_, rfl, ?_⟩; have n0_ := Ak (Kd.R_mono (ok' := fun k_ => some k_ ≠ (v118 : Value).ownBlock) (Kd.R_keptB ((Kd.R_apart' HO_4.out (Kd.R_typed HO_7.out) (by decide))) hkp (fun k_ hk_ hs_ => (hk_.2) hs_)) (fun k_ hk_ => hk_.1.1)); have n1_ := Ak (Kd.R_mono (ok' := fun k_ => some k_ ≠ (v120 : Value).ownBlock) (Kd.R_keptB ((Kd.R_apart' HO_5.out (Kd.R_typed HO_7.out) (by decide))) hkp (fun k_ hk_ hs_ => (hk_.2) hs_)) (fun k_ hk_ => hk_.1.1)); have n2_ := Ak (Kd.R_reok rfl hy0 (fun k_ e_ => HO_7.out.1 k_ e_)); have n3_ := Ak (Kd.R_mono (ok' := fun k_ => some k_ ≠ (v108 : Value).ownBlock) (Kd.R_keptB ((Kd.R_apart' HO_8.out (Kd.R_typed HO_7.out) (by decide))) hkp (fun k_ hk_ hs_ => (hk_.2) hs_)) (fun k_ hk_ => hk_.1.1)); have n4_ := Ak (Kd.R_mono (ok' := fun k_ => some k_ ≠ (v110 : Value).ownBlock) (Kd.R_keptB ((Kd.R_apart' HO_9.out (Kd.R_typed HO_7.out) (by decide))) hkp (fun k_ hk_ hs_ => (hk_.2) hs_)) (fun k_ hk_ => hk_.1.1)); have n5_ := Ak (Kd.R_mono (ok' := fun k_ => some k_ ≠ (.slice Ao15 t112.length co15 : Value).ownBlock) (Kd.R_keptB (HO126.out) hkp (fun k_ hk_ hs_ => (hk_.2) hs_)) (fun k_ hk_ => hk_.1.2)); have n6_ := Ak (hb); clear HO_4; clear HO_5; clear HO_7; clear HO_8; clear HO_9; clear HO126; clear HB; have HO_4 := n0_; have HO_5 := n1_; have HO_7 := n2_; have HO_8 := n3_; have HO_9 := n4_; have HO126 := n5_; have HB := n6_; clear n0_ n1_ n2_ n3_ n4_ n5_ n6_; (try clear hb); (try clear hkp); (try clear hy0)))
   (try simp only [Act.put, List.setIfInBounds_toArray, List.set_cons_zero, List.set_cons_succ])
   go_cut [78] (fun v78 wc => ∃ (kq : Nat) (x78_35 : Bool), v78 = .bool x78_35 ∧ Aside0 (Fb.j1 kq l0 t105 t106 t107 t115 t116 x78_35 = some r) ∧ Aside0 (kq ≤ kj8) ∧ Aside0 (Kd.R Kd.string 9 wc w.heap.size (fun k_ => some k_ ≠ (v118 : Value).ownBlock) v108 t105) ∧ Aside0 (Kd.R (Kd.int .i64) 3 wc w.heap.size (fun k_ => some k_ ≠ (v120 : Value).ownBlock) v110 t106) ∧ Aside0 (Kd.R Kd.string 9 wc w.heap.size (fun k_ => some k_ ≠ (v108 : Value).ownBlock) v118 t115) ∧ Aside0 (Kd.R (Kd.int .i64) 3 wc w.heap.size (fun k_ => some k_ ≠ (v110 : Value).ownBlock) v120 t116) ∧ Aside0 (Below w.heap.size w wc))
   case first =>
    have H := HC36.out
    clear HC36
    by_cases c41 : t128 < 0
    ·rw [if_pos c41] at H
     have c41b0 : decide (t128 < 0) = true := decide_eq_true c41
     clear c41
     (first | rw [c41b0] | (simp only [i64_w, i32_w]; rw [c41b0]) | skip)
     as_aux_lemma =>
      have H' := Ak H
      clear H
      go_wp2
      go_meet
      case rel => exact ⟨_, (true), (by first | rfl | (simp; done) | (simp [*]; done)), H', ⟨by have := HJ8.out; first | omega | exact Nat.le_refl _⟩, ⟨by exact RS <| HO_4.out⟩, ⟨by exact RS <| HO_5.out⟩, ⟨by exact RS <| HO_8.out⟩, ⟨by exact RS <| HO_9.out⟩, ⟨by exact eS HB.out⟩⟩
    rw [if_neg c41] at H
    have c41b0 : decide (t128 < 0) = false := decide_eq_false c41
    clear c41
    (first | rw [c41b0] | (simp only [i64_w, i32_w]; rw [c41b0]) | skip)
    replace H := Option.bind_eq_some_iff.mp H
    obtain ⟨t130, A420, H⟩ := H
    (try dsimp only at H)
    have A42 := Ak A420
    clear A420
    by_cases c43 : t130 = true
    rotate_left
    ·replace c43 := Bool.eq_false_iff.mpr c43
     subst c43
     have H1 : (Fb.j1 kj8 l0 t105 t106 t107 t115 t116 true) = some r := by rw [if_neg (show ¬ (false = true) by decide)] at H; exact H
     clear H
     have H := H1
     clear H1
     as_aux_lemma =>
      have H' := Ak H
      clear H
      obtain ⟨Ao54, co54, eo54⟩ := Kd.R_slice HO_8.out
      subst eo54
      obtain ⟨Ao55, co55, eo55⟩ := Kd.R_slice HO_4.out
      subst eo55
      go_wp2_with (first | (go_at_call 18; (with_reducible refine (Fi.calls kj8 _ _ t115 _ _ t105 false _ ?side1 ?side2 ?side3 ?side4 A42.out).mono ?_); (case side1 => repeat (first | exact (Kd.R_reads' HO_8.out).2.2 | (with_reducible refine Kd.C_alloc ?_ _) | (with_reducible refine Kd.C_drewN ?_ _) | (with_reducible refine Kd.C_drew ?_))); (case side2 => exact (Kd.R_reads' HO_8.out).2.1); (case side3 => repeat (first | exact (Kd.R_reads' HO_4.out).2.2 | (with_reducible refine Kd.C_alloc ?_ _) | (with_reducible refine Kd.C_drewN ?_ _) | (with_reducible refine Kd.C_drew ?_))); (case side4 => exact (Kd.R_reads' HO_4.out).2.1); rintro e w' ⟨rfl, ⟨nd, rfl⟩⟩))
      go_meet
      case rel => exact ⟨_, (true), (by first | rfl | (simp; done) | (simp [*]; done)), H', ⟨by have := HJ8.out; first | omega | exact Nat.le_refl _⟩, ⟨by exact RS <| HO_4.out⟩, ⟨by exact RS <| HO_5.out⟩, ⟨by exact RS <| HO_8.out⟩, ⟨by exact RS <| HO_9.out⟩, ⟨by exact eS HB.out⟩⟩
    subst c43
    have H1 : ((Fn.f kj8 t116 t106).bind fun t131 => (if t131 = true then (Fb.j1 kj8 l0 t105 t106 t107 t115 t116 (t117 != t107)) else (Fb.j1 kj8 l0 t105 t106 t107 t115 t116 true))) = some r := by rw [if_pos rfl] at H; exact H
    clear H
    have H := H1
    clear H1
    replace H := Option.bind_eq_some_iff.mp H
    obtain ⟨t131, A440, H⟩ := H
    (try dsimp only at H)
    have A44 := Ak A440
    clear A440
    by_cases c45 : t131 = true
    ·subst c45
     have H1 : (Fb.j1 kj8 l0 t105 t106 t107 t115 t116 (t117 != t107)) = some r := by rw [if_pos rfl] at H; exact H
     clear H
     have H := H1
     clear H1
     as_aux_lemma =>
      have H' := Ak H
      clear H
      obtain ⟨Ao46, co46, eo46⟩ := Kd.R_slice HO_8.out
      subst eo46
      obtain ⟨Ao47, co47, eo47⟩ := Kd.R_slice HO_4.out
      subst eo47
      go_wp2_with (first | (go_at_call 18; (with_reducible refine (Fi.calls kj8 _ _ t115 _ _ t105 true _ ?side1 ?side2 ?side3 ?side4 A42.out).mono ?_); (case side1 => repeat (first | exact (Kd.R_reads' HO_8.out).2.2 | (with_reducible refine Kd.C_alloc ?_ _) | (with_reducible refine Kd.C_drewN ?_ _) | (with_reducible refine Kd.C_drew ?_))); (case side2 => exact (Kd.R_reads' HO_8.out).2.1); (case side3 => repeat (first | exact (Kd.R_reads' HO_4.out).2.2 | (with_reducible refine Kd.C_alloc ?_ _) | (with_reducible refine Kd.C_drewN ?_ _) | (with_reducible refine Kd.C_drew ?_))); (case side4 => exact (Kd.R_reads' HO_4.out).2.1); rintro e w' ⟨rfl, ⟨nd, rfl⟩⟩; obtain ⟨Ao48, co48, eo48⟩ := Kd.R_slice HO_9.out; subst eo48; obtain ⟨Ao49, co49, eo49⟩ := Kd.R_slice HO_5.out; subst eo49) | (go_at_call 19; (with_reducible refine (Fn.calls kj8 _ _ t116 _ _ t106 true _ ?side1 ?side2 ?side3 ?side4 A44.out).mono ?_); (case side1 => repeat (first | exact (Kd.R_reads' HO_9.out).2.2 | (with_reducible refine Kd.C_alloc ?_ _) | (with_reducible refine Kd.C_drewN ?_ _) | (with_reducible refine Kd.C_drew ?_))); (case side2 => exact (Kd.R_reads' HO_9.out).2.1); (case side3 => repeat (first | exact (Kd.R_reads' HO_5.out).2.2 | (with_reducible refine Kd.C_alloc ?_ _) | (with_reducible refine Kd.C_drewN ?_ _) | (with_reducible refine Kd.C_drew ?_))); (case side4 => exact (Kd.R_reads' HO_5.out).2.1); rintro e w' ⟨rfl, ⟨nd, rfl⟩⟩))
      go_meet
      case rel => exact ⟨_, ((t117 != t107)), (by first | rfl | (simp; done) | (simp [*]; done)), H', ⟨by have := HJ8.out; first | omega | exact Nat.le_refl _⟩, ⟨by exact RS <| HO_4.out⟩, ⟨by exact RS <| HO_5.out⟩, ⟨by exact RS <| HO_8.out⟩, ⟨by exact RS <| HO_9.out⟩, ⟨by exact eS HB.out⟩⟩
    replace c45 := Bool.eq_false_iff.mpr c45
    subst c45
    have H1 : (Fb.j1 kj8 l0 t105 t106 t107 t115 t116 true) = some r := by rw [if_neg (show ¬ (false = true) by decide)] at H; exact H
    clear H
    have H := H1
    clear H1
    as_aux_lemma =>
     have H' := Ak H
     clear H
     obtain ⟨Ao50, co50, eo50⟩ := Kd.R_slice HO_8.out
     subst eo50
     obtain ⟨Ao51, co51, eo51⟩ := Kd.R_slice HO_4.out
     subst eo51
     go_wp2_with (first | (go_at_call 18; (with_reducible refine (Fi.calls kj8 _ _ t115 _ _ t105 true _ ?side1 ?side2 ?side3 ?side4 A42.out).mono ?_); (case side1 => repeat (first | exact (Kd.R_reads' HO_8.out).2.2 | (with_reducible refine Kd.C_alloc ?_ _) | (with_reducible refine Kd.C_drewN ?_ _) | (with_reducible refine Kd.C_drew ?_))); (case side2 => exact (Kd.R_reads' HO_8.out).2.1); (case side3 => repeat (first | exact (Kd.R_reads' HO_4.out).2.2 | (with_reducible refine Kd.C_alloc ?_ _) | (with_reducible refine Kd.C_drewN ?_ _) | (with_reducible refine Kd.C_drew ?_))); (case side4 => exact (Kd.R_reads' HO_4.out).2.1); rintro e w' ⟨rfl, ⟨nd, rfl⟩⟩; obtain ⟨Ao52, co52, eo52⟩ := Kd.R_slice HO_9.out; subst eo52; obtain ⟨Ao53, co53, eo53⟩ := Kd.R_slice HO_5.out; subst eo53) | (go_at_call 19; (with_reducible refine (Fn.calls kj8 _ _ t116 _ _ t106 false _ ?side1 ?side2 ?side3 ?side4 A44.out).mono ?_); (case side1 => repeat (first | exact (Kd.R_reads' HO_9.out).2.2 | (with_reducible refine Kd.C_alloc ?_ _) | (with_reducible refine Kd.C_drewN ?_ _) | (with_reducible refine Kd.C_drew ?_))); (case side2 => exact (Kd.R_reads' HO_9.out).2.1); (case side3 => repeat (first | exact (Kd.R_reads' HO_5.out).2.2 | (with_reducible refine Kd.C_alloc ?_ _) | (with_reducible refine Kd.C_drewN ?_ _) | (with_reducible refine Kd.C_drew ?_))); (case side4 => exact (Kd.R_reads' HO_5.out).2.1); rintro e w' ⟨rfl, ⟨nd, rfl⟩⟩))
     go_meet
     case rel => exact ⟨_, (true), (by first | rfl | (simp; done) | (simp [*]; done)), H', ⟨by have := HJ8.out; first | omega | exact Nat.le_refl _⟩, ⟨by exact RS <| HO_4.out⟩, ⟨by exact RS <| HO_5.out⟩, ⟨by exact RS <| HO_8.out⟩, ⟨by exact RS <| HO_9.out⟩, ⟨by exact eS HB.out⟩⟩
   case rest =>
    clear HC36
    try clear c1
    try clear c2
    try clear p2
    try clear c3
    try clear c3b0
    try clear c4
    try clear c14
    try clear c15
    try clear c16
    try clear c17
    try clear c18
    try clear c20
    try clear c21
    try clear c31
    try clear c34
    try clear c41
    try clear c41b0
    try clear c43
    try clear c45
    try clear p2
    obtain ⟨kq, x78_35, rfl, HA, HJ35, HO_4, HO_5, HO_8, HO_9, HB⟩ := hcut
    cases kq with
    | zero => exact absurd HA.out (by simp [Fb.j1])
    | succ kj35 =>
     have H := HA.out
     clear HA
     simp only [Fb.j1] at H
     by_cases c56 : x78_35 = true
     ·subst c56
      have H1 : (some false) = some r := by rw [if_pos rfl] at H; exact H
      clear H
      have H := H1
      clear H1
      as_aux_lemma =>
       exact absurd ((Option.some.inj H).trans HT.out) (by decide)
     replace c56 := Bool.eq_false_iff.mpr c56
     subst c56
     have H1 : ((Fm.f kj35 t115 1).bind fun bt132 => ((Fq.f kj35 t116 bt132.1).bind fun bt134 => ((Fl.f kj35 bt132.2 1).bind fun t136 => (if t136 < 0 then (some false) else ((Fo.f kj35 bt134.2 t136).bind fun t137 => (if t137 < 0 then (some false) else (if t137 = bt134.1 then ((Ff.f kj35 l0).bind fun t138 => ((Fp.f kj35 t138).bind fun bt141 => ((Fi.f kj35 bt141.1 t105).bind fun t148 => (if t148 = true then ((Fn.f kj35 bt141.2.1 t106).bind fun t149 => (if t149 = true then (Fb.j2 kj35 bt132.2 bt134.2 bt134.1 (bt141.2.2 != t107)) else (Fb.j2 kj35 bt132.2 bt134.2 bt134.1 true))) else (Fb.j2 kj35 bt132.2 bt134.2 bt134.1 true))))) else (some false)))))))) = some r := by rw [if_neg (show ¬ (false = true) by decide)] at H; exact H
     clear H
     have H := H1
     clear H1
     replace H := Option.bind_eq_some_iff.mp H
     obtain ⟨⟨t132, t133⟩, A570, H⟩ := H
     (try dsimp only at H)
     have A57 := Ak A570
     clear A570
     replace H := Option.bind_eq_some_iff.mp H
     obtain ⟨⟨t134, t135⟩, A580, H⟩ := H
     (try dsimp only at H)
     have A58 := Ak A580
     clear A580
     replace H := Option.bind_eq_some_iff.mp H
     obtain ⟨t136, A590, H⟩ := H
     (try dsimp only at H)
     have A59 := Ak A590
     clear A590
     by_cases c60 : t136 < 0
     ·rw [if_pos c60] at H
      have c60b0 : decide (t136 < 0) = true := decide_eq_true c60
      clear c60
      as_aux_lemma =>
       exact absurd ((Option.some.inj H).trans HT.out) (by decide)
     rw [if_neg c60] at H
     have c60b0 : decide (t136 < 0) = false := decide_eq_false c60
     clear c60
     replace H := Option.bind_eq_some_iff.mp H
     obtain ⟨t137, A610, H⟩ := H
     (try dsimp only at H)
     have A61 := Ak A610
     clear A610
     by_cases c62 : t137 < 0
     ·rw [if_pos c62] at H
      have c62b0 : decide (t137 < 0) = true := decide_eq_true c62
      clear c62
      as_aux_lemma =>
       exact absurd ((Option.some.inj H).trans HT.out) (by decide)
     rw [if_neg c62] at H
     have c62b0 : decide (t137 < 0) = false := decide_eq_false c62
     clear c62
     by_cases c63 : t137 = t134
     rotate_left
     ·rw [if_neg c63] at H
      have c63b0 : (t137 == t134) = false := beq_eq_false_iff_ne.mpr c63
      have c63b1 : (t137 != t134) = true := bne_iff_ne.mpr c63
      as_aux_lemma =>
       exact absurd ((Option.some.inj H).trans HT.out) (by decide)
     rw [if_pos c63] at H
     have c63b0 : (t137 == t134) = true := beq_iff_eq.mpr c63
     have c63b1 : (t137 != t134) = false := bne_eq_false_iff_eq.mpr c63
     clear c63
     replace H := Option.bind_eq_some_iff.mp H
     obtain ⟨t138, A640, H⟩ := H
     (try dsimp only at H)
     have A64 := Ak A640
     clear A640
     replace H := Option.bind_eq_some_iff.mp H
     obtain ⟨⟨t141, t142, t143⟩, A650, H⟩ := H
     (try dsimp only at H)
     have A65 := Ak A650
     clear A650
     have HC66 := Ak H
     clear H
     obtain ⟨Ao67, co67, eo67⟩ := Kd.R_slice HO_8.out
     subst eo67
     go_upto_region 29 with (first | ((with_reducible refine gate_callee (f := 22) rfl ?_); refine goesL_ (some 81) rfl rfl Tryd.func22 (by kernel_rfl) rfl #[.slice Ao67 t115.length co67, .int .i64 1] rfl (by (try simp only [List.map_toArray, List.map_cons, List.map_nil]); first | done | rfl | (simp only [List.length_drop, List.length_take]; rfl)) ?_; (with_reducible refine (Fm.calls kj35 (fun k_ => some k_ = (.slice Ao67 t115.length co67 : Value).ownBlock) (.slice Ao67 t115.length co67) t115 1 t132 t133 w _ ?side1 ?side2 A57.out).mono ?_); (case side1 => exact eS HB.out); (case side2 => exact Kd.R_tight rfl HO_8.out); rintro e w68 ⟨rfl, hy0, hb, hkp⟩; refine ⟨_, rfl, ?_⟩; have n0_ := Ak (Kd.R_mono (ok' := fun k_ => some k_ ≠ (.slice Ao67 t115.length co67 : Value).ownBlock) (Kd.R_keptB (HO_4.out) hkp (fun k_ hk_ hs_ => (hk_) hs_)) (fun k_ hk_ => hk_.1)); have n1_ := Ak (Kd.R_mono (ok' := fun k_ => some k_ ≠ (v120 : Value).ownBlock) (Kd.R_keptB ((Kd.R_apart' HO_5.out (Kd.R_typed HO_8.out) (by decide))) hkp (fun k_ hk_ hs_ => (hk_.2) hs_)) (fun k_ hk_ => hk_.1.1)); have n2_ := Ak (Kd.R_reok rfl hy0 (fun k_ e_ => HO_8.out.1 k_ e_)); have n3_ := Ak (Kd.R_mono (ok' := fun k_ => some k_ ≠ (v110 : Value).ownBlock) (Kd.R_keptB ((Kd.R_apart' HO_9.out (Kd.R_typed HO_8.out) (by decide))) hkp (fun k_ hk_ hs_ => (hk_.2) hs_)) (fun k_ hk_ => hk_.1.1)); have n4_ := Ak (hb); clear HO_4; clear HO_5; clear HO_8; clear HO_9; clear HB; have HO_4 := n0_; have HO_5 := n1_; have HO_8 := n2_; have HO_9 := n3_; have HB := n4_; clear n0_ n1_ n2_ n3_ n4_; (try clear hb); (try clear hkp); (try clear hy0); obtain ⟨Ao69, co69, eo69⟩ := Kd.R_slice HO_9.out; subst eo69) | ((with_reducible refine gate_callee (f := 23) rfl ?_); refine goesL_ (some 84) rfl rfl Tryd.func23 (by kernel_rfl) rfl #[.slice Ao69 t116.length co69, .int .i64 t132] rfl (by (try simp only [List.map_toArray, List.map_cons, List.map_nil]); first | done | rfl | (simp only [List.length_drop, List.length_take]; rfl)) ?_; (with_reducible refine (Fq.calls kj35 (fun k_ => some k_ = (.slice Ao69 t116.length co69 : Value).ownBlock) (.slice Ao69 t116.length co69) t116 t132 t134 t135 w _ ?side1 ?side2 A58.out).mono ?_); (case side1 => exact eS HB.out); (case side2 => exact Kd.R_tight rfl HO_9.out); rintro e w70 ⟨rfl, hy0, hb, hkp⟩; refine ⟨_, rfl, ?_⟩; have n0_ := Ak (Kd.R_mono (ok' := fun k_ => some k_ ≠ (.slice Ao67 t115.length co67 : Value).ownBlock) (Kd.R_keptB ((Kd.R_apart' HO_4.out (Kd.R_typed HO_9.out) (by decide))) hkp (fun k_ hk_ hs_ => (hk_.2) hs_)) (fun k_ hk_ => hk_.1.1)); have n1_ := Ak (Kd.R_mono (ok' := fun k_ => some k_ ≠ (.slice Ao69 t116.length co69 : Value).ownBlock) (Kd.R_keptB (HO_5.out) hkp (fun k_ hk_ hs_ => (hk_) hs_)) (fun k_ hk_ => hk_.1)); have n2_ := Ak (Kd.R_mono (ok' := fun k_ => some k_ ≠ (v108 : Value).ownBlock) (Kd.R_keptB ((Kd.R_apart' HO_8.out (Kd.R_typed HO_9.out) (by decide))) hkp (fun k_ hk_ hs_ => (hk_.2) hs_)) (fun k_ hk_ => hk_.1.1)); have n3_ := Ak (Kd.R_reok rfl hy0 (fun k_ e_ => HO_9.out.1 k_ e_)); have n4_ := Ak (hb); clear HO_4; clear HO_5; clear HO_8; clear HO_9; clear HB; have HO_4 := n0_; have HO_5 := n1_; have HO_8 := n2_; have HO_9 := n3_; have HB := n4_; clear n0_ n1_ n2_ n3_ n4_; (try clear hb); (try clear hkp); (try clear hy0)) | ((with_reducible refine gate_callee (f := 24) rfl ?_); refine goesL_ (some 87) rfl rfl Tryd.func24 (by kernel_rfl) rfl #[.slice Ao67 t133.length co67, .int .i64 1] rfl (by (try simp only [List.map_toArray, List.map_cons, List.map_nil]); first | done | (rw [show t133.length = t115.length from (Kd.R_reads' HO_8.out).1.symm] <;> rfl) | rfl | (simp only [List.length_drop, List.length_take]; rfl)) ?_; (with_reducible refine (Fl.calls kj35 _ _ t133 1 t136 _ ?side1 ?side2 A59.out).mono ?_); (case side1 => repeat (first | exact (Kd.R_reads' HO_8.out).2.2 | (with_reducible refine Kd.C_alloc ?_ _) | (with_reducible refine Kd.C_drewN ?_ _) | (with_reducible refine Kd.C_drew ?_))); (case side2 => rw [show t133.length = t115.length from (Kd.R_reads' HO_8.out).1.symm]; exact (Kd.R_reads' HO_8.out).2.1); rintro e w71 ⟨rfl, hb⟩; refine ⟨_, rfl, ?_⟩; have n0_ := Ak (Kd.R_below (by exact RS <| HO_4.out) hb); have n1_ := Ak (Kd.R_below (by exact RS <| HO_5.out) hb); have n2_ := Ak (Kd.R_below (by exact RS <| HO_8.out) hb); have n3_ := Ak (Kd.R_below (by exact RS <| HO_9.out) hb); have n4_ := Ak (below_step (by exact eS HB.out) hb); clear HO_4; clear HO_5; clear HO_8; clear HO_9; clear HB; have HO_4 := n0_; have HO_5 := n1_; have HO_8 := n2_; have HO_9 := n3_; have HB := n4_; clear n0_ n1_ n2_ n3_ n4_; (try clear hb); (try clear hb2); (try clear hk); (try clear hi)) | ((with_reducible refine gate_callee (f := 25) rfl ?_); refine goesL_ (some 92) rfl rfl Tryd.func25 (by kernel_rfl) rfl #[.slice Ao69 t135.length co69, .int .i64 t136] rfl (by (try simp only [List.map_toArray, List.map_cons, List.map_nil]); first | done | (rw [show t135.length = t116.length from (Kd.R_reads' HO_9.out).1.symm] <;> rfl) | rfl | (simp only [List.length_drop, List.length_take]; rfl)) ?_; (with_reducible refine (Fo.calls kj35 _ _ t135 t136 t137 _ ?side1 ?side2 A61.out).mono ?_); (case side1 => repeat (first | exact (Kd.R_reads' HO_9.out).2.2 | (with_reducible refine Kd.C_alloc ?_ _) | (with_reducible refine Kd.C_drewN ?_ _) | (with_reducible refine Kd.C_drew ?_))); (case side2 => rw [show t135.length = t116.length from (Kd.R_reads' HO_9.out).1.symm]; exact (Kd.R_reads' HO_9.out).2.1); rintro e w' ⟨rfl, ⟨nd, rfl⟩⟩; refine ⟨_, rfl, ?_⟩) | ((with_reducible refine gate_callee (f := 16) rfl ?_); refine goesL_ (some 100) rfl rfl Tryd.func16 (by kernel_rfl) rfl #[.slice A0 l0.length c0] rfl (by (try simp only [List.map_toArray, List.map_cons, List.map_nil]); first | done | rfl | (simp only [List.length_drop, List.length_take]; rfl)) ?_; (with_reducible refine (Ff.calls kj35 _ _ l0 t138 _ ?side1 ?side2 A64.out).mono ?_); (case side1 => repeat (first | exact (Kd.C_below HR0.out (by exact eS HB.out)) | (with_reducible refine Kd.C_alloc ?_ _) | (with_reducible refine Kd.C_drewN ?_ _) | (with_reducible refine Kd.C_drew ?_))); (case side2 => exact HC0.out); rintro e w72 ⟨v139, rfl, ho0, hb⟩; refine ⟨_, rfl, ?_⟩; have n0_ := Ak (Kd.R_below (by exact RS <| HO_4.out) hb); have n1_ := Ak (Kd.R_below (by exact RS <| HO_5.out) hb); have n2_ := Ak (Kd.R_below (by exact RS <| HO_8.out) hb); have n3_ := Ak (Kd.R_below (by exact RS <| HO_9.out) hb); have n4_ := Ak (Kd.R_lower ho0 (below_size (by exact eS HB.out))); have n5_ := Ak (below_step (by exact eS HB.out) hb); clear HO_4; clear HO_5; clear HO_8; clear HO_9; clear HB; have HO_4 := n0_; have HO_5 := n1_; have HO_8 := n2_; have HO_9 := n3_; have HO140 := n4_; have HB := n5_; clear n0_ n1_ n2_ n3_ n4_ n5_; (try clear hb); (try clear hb2); (try clear hk); (try clear hi); (try clear ho0); obtain ⟨Ao73, co73, eo73⟩ := Kd.R_slice HO140.out; subst eo73) | ((with_reducible refine gate_callee (f := 17) rfl ?_); refine goesL_ (some 101) rfl rfl Tryd.func17 (by kernel_rfl) rfl #[.slice Ao73 t138.length co73] rfl (by (try simp only [List.map_toArray, List.map_cons, List.map_nil]); first | done | rfl | (simp only [List.length_drop, List.length_take]; rfl)) ?_; (with_reducible refine (Fp.calls kj35 _ _ t138 t141 t142 t143 _ ?side1 ?side2 A65.out).mono ?_); (case side1 => repeat (first | exact (Kd.R_reads' HO140.out).2.2 | (with_reducible refine Kd.C_alloc ?_ _) | (with_reducible refine Kd.C_drewN ?_ _) | (with_reducible refine Kd.C_drew ?_))); (case side2 => exact (Kd.R_reads' HO140.out).2.1); rintro e w74 ⟨v144, v146, rfl, ho0, ho1, hb⟩; refine ⟨_, rfl, ?_⟩; have n0_ := Ak (Kd.R_elder' (by exact RS <| HO_4.out) (Kd.R_base ho0) hb); have n1_ := Ak (Kd.R_elder' (by exact RS <| HO_5.out) (Kd.R_base ho1) hb); have n2_ := Ak (Kd.R_elder' (by exact RS <| HO_8.out) (Kd.R_base ho0) hb); have n3_ := Ak (Kd.R_elder' (by exact RS <| HO_9.out) (Kd.R_base ho1) hb); have n4_ := Ak (Kd.R_below (by exact RS <| HO140.out) hb); have n5_ := Ak (Kd.R_lower (Kd.R_new' (Kd.R_new' ho0 (Kd.R_lt (by exact RS <| HO_4.out))) (Kd.R_lt (by exact RS <| HO_8.out))) (below_size (by exact eS HB.out))); have n6_ := Ak (Kd.R_lower (Kd.R_new' (Kd.R_new' ho1 (Kd.R_lt (by exact RS <| HO_5.out))) (Kd.R_lt (by exact RS <| HO_9.out))) (below_size (by exact eS HB.out))); have n7_ := Ak (below_step (by exact eS HB.out) hb); clear HO_4; clear HO_5; clear HO_8; clear HO_9; clear HO140; clear HB; have HO_4 := n0_; have HO_5 := n1_; have HO_8 := n2_; have HO_9 := n3_; have HO140 := n4_; have HO145 := n5_; have HO147 := n6_; have HB := n7_; clear n0_ n1_ n2_ n3_ n4_ n5_ n6_ n7_; (try clear hb); (try clear hb2); (try clear hk); (try clear hi); (try clear ho0); (try clear ho1)))
     (try simp only [Act.put, List.setIfInBounds_toArray, List.set_cons_zero, List.set_cons_succ])
     go_cut [119] (fun v119 wc => ∃ (kq : Nat) (x119_65 : Bool), v119 = .bool x119_65 ∧ Aside0 (Fb.j2 kq t133 t135 t134 x119_65 = some r) ∧ Aside0 (kq ≤ kj35) ∧ Aside0 (Kd.R Kd.string 9 wc w.heap.size (fun _ => True) (.slice Ao67 t115.length co67) t133) ∧ Aside0 (Kd.R (Kd.int .i64) 3 wc w.heap.size (fun _ => True) (.slice Ao69 t116.length co69) t135) ∧ Aside0 (Below w.heap.size w wc))
     case first =>
      have H := HC66.out
      clear HC66
      replace H := Option.bind_eq_some_iff.mp H
      obtain ⟨t148, A750, H⟩ := H
      (try dsimp only at H)
      have A75 := Ak A750
      clear A750
      by_cases c76 : t148 = true
      rotate_left
      ·replace c76 := Bool.eq_false_iff.mpr c76
       subst c76
       have H1 : (Fb.j2 kj35 t133 t135 t134 true) = some r := by rw [if_neg (show ¬ (false = true) by decide)] at H; exact H
       clear H
       have H := H1
       clear H1
       as_aux_lemma =>
        have H' := Ak H
        clear H
        obtain ⟨Ao87, co87, eo87⟩ := Kd.R_slice HO145.out
        subst eo87
        obtain ⟨Ao88, co88, eo88⟩ := Kd.R_slice HO_4.out
        subst eo88
        go_wp2_with (first | ((with_reducible refine gate_callee (f := 18) rfl ?_); refine goesL_ (some 107) rfl rfl Tryd.func18 (by kernel_rfl) rfl #[.slice Ao87 t141.length co87, .slice Ao88 t105.length co88] rfl (by (try simp only [List.map_toArray, List.map_cons, List.map_nil]); first | done | rfl | (simp only [List.length_drop, List.length_take]; rfl)) ?_; (with_reducible refine (Fi.calls kj35 _ _ t141 _ _ t105 false _ ?side1 ?side2 ?side3 ?side4 A75.out).mono ?_); (case side1 => repeat (first | exact (Kd.R_reads' HO145.out).2.2 | (with_reducible refine Kd.C_alloc ?_ _) | (with_reducible refine Kd.C_drewN ?_ _) | (with_reducible refine Kd.C_drew ?_))); (case side2 => exact (Kd.R_reads' HO145.out).2.1); (case side3 => repeat (first | exact (Kd.R_reads' HO_4.out).2.2 | (with_reducible refine Kd.C_alloc ?_ _) | (with_reducible refine Kd.C_drewN ?_ _) | (with_reducible refine Kd.C_drew ?_))); (case side4 => exact (Kd.R_reads' HO_4.out).2.1); rintro e w' ⟨rfl, ⟨nd, rfl⟩⟩; refine ⟨_, rfl, ?_⟩))
        go_meet
        case rel => exact ⟨_, (true), (by first | rfl | (simp; done) | (simp [*]; done)), H', ⟨by have := HJ8.out; have := HJ35.out; first | omega | exact Nat.le_refl _⟩, ⟨by exact RS <| Kd.R_mono HO_8.out (fun _ hk => trivial)⟩, ⟨by exact RS <| Kd.R_mono HO_9.out (fun _ hk => trivial)⟩, ⟨by exact eS HB.out⟩⟩
      subst c76
      have H1 : ((Fn.f kj35 t142 t106).bind fun t149 => (if t149 = true then (Fb.j2 kj35 t133 t135 t134 (t143 != t107)) else (Fb.j2 kj35 t133 t135 t134 true))) = some r := by rw [if_pos rfl] at H; exact H
      clear H
      have H := H1
      clear H1
      replace H := Option.bind_eq_some_iff.mp H
      obtain ⟨t149, A770, H⟩ := H
      (try dsimp only at H)
      have A77 := Ak A770
      clear A770
      by_cases c78 : t149 = true
      ·subst c78
       have H1 : (Fb.j2 kj35 t133 t135 t134 (t143 != t107)) = some r := by rw [if_pos rfl] at H; exact H
       clear H
       have H := H1
       clear H1
       as_aux_lemma =>
        have H' := Ak H
        clear H
        obtain ⟨Ao79, co79, eo79⟩ := Kd.R_slice HO145.out
        subst eo79
        obtain ⟨Ao80, co80, eo80⟩ := Kd.R_slice HO_4.out
        subst eo80
        go_wp2_with (first | ((with_reducible refine gate_callee (f := 18) rfl ?_); refine goesL_ (some 107) rfl rfl Tryd.func18 (by kernel_rfl) rfl #[.slice Ao79 t141.length co79, .slice Ao80 t105.length co80] rfl (by (try simp only [List.map_toArray, List.map_cons, List.map_nil]); first | done | rfl | (simp only [List.length_drop, List.length_take]; rfl)) ?_; (with_reducible refine (Fi.calls kj35 _ _ t141 _ _ t105 true _ ?side1 ?side2 ?side3 ?side4 A75.out).mono ?_); (case side1 => repeat (first | exact (Kd.R_reads' HO145.out).2.2 | (with_reducible refine Kd.C_alloc ?_ _) | (with_reducible refine Kd.C_drewN ?_ _) | (with_reducible refine Kd.C_drew ?_))); (case side2 => exact (Kd.R_reads' HO145.out).2.1); (case side3 => repeat (first | exact (Kd.R_reads' HO_4.out).2.2 | (with_reducible refine Kd.C_alloc ?_ _) | (with_reducible refine Kd.C_drewN ?_ _) | (with_reducible refine Kd.C_drew ?_))); (case side4 => exact (Kd.R_reads' HO_4.out).2.1); rintro e w' ⟨rfl, ⟨nd, rfl⟩⟩; refine ⟨_, rfl, ?_⟩; obtain ⟨Ao81, co81, eo81⟩ := Kd.R_slice HO147.out; subst eo81; obtain ⟨Ao82, co82, eo82⟩ := Kd.R_slice HO_5.out; subst eo82) | (go_at_call 19; (with_reducible refine (Fn.calls kj35 _ _ t142 _ _ t106 true _ ?side1 ?side2 ?side3 ?side4 A77.out).mono ?_); (case side1 => repeat (first | exact (Kd.R_reads' HO147.out).2.2 | (with_reducible refine Kd.C_alloc ?_ _) | (with_reducible refine Kd.C_drewN ?_ _) | (with_reducible refine Kd.C_drew ?_))); (case side2 => exact (Kd.R_reads' HO147.out).2.1); (case side3 => repeat (first | exact (Kd.R_reads' HO_5.out).2.2 | (with_reducible refine Kd.C_alloc ?_ _) | (with_reducible refine Kd.C_drewN ?_ _) | (with_reducible refine Kd.C_drew ?_))); (case side4 => exact (Kd.R_reads' HO_5.out).2.1); rintro e w' ⟨rfl, ⟨nd, rfl⟩⟩))
        go_meet
        case rel => exact ⟨_, ((t143 != t107)), (by first | rfl | (simp; done) | (simp [*]; done)), H', ⟨by have := HJ8.out; have := HJ35.out; first | omega | exact Nat.le_refl _⟩, ⟨by exact RS <| Kd.R_mono HO_8.out (fun _ hk => trivial)⟩, ⟨by exact RS <| Kd.R_mono HO_9.out (fun _ hk => trivial)⟩, ⟨by exact eS HB.out⟩⟩
      replace c78 := Bool.eq_false_iff.mpr c78
      subst c78
      have H1 : (Fb.j2 kj35 t133 t135 t134 true) = some r := by rw [if_neg (show ¬ (false = true) by decide)] at H; exact H
      clear H
      have H := H1
      clear H1
      as_aux_lemma =>
       have H' := Ak H
       clear H
       obtain ⟨Ao83, co83, eo83⟩ := Kd.R_slice HO145.out
       subst eo83
       obtain ⟨Ao84, co84, eo84⟩ := Kd.R_slice HO_4.out
       subst eo84
       go_wp2_with (first | ((with_reducible refine gate_callee (f := 18) rfl ?_); refine goesL_ (some 107) rfl rfl Tryd.func18 (by kernel_rfl) rfl #[.slice Ao83 t141.length co83, .slice Ao84 t105.length co84] rfl (by (try simp only [List.map_toArray, List.map_cons, List.map_nil]); first | done | rfl | (simp only [List.length_drop, List.length_take]; rfl)) ?_; (with_reducible refine (Fi.calls kj35 _ _ t141 _ _ t105 true _ ?side1 ?side2 ?side3 ?side4 A75.out).mono ?_); (case side1 => repeat (first | exact (Kd.R_reads' HO145.out).2.2 | (with_reducible refine Kd.C_alloc ?_ _) | (with_reducible refine Kd.C_drewN ?_ _) | (with_reducible refine Kd.C_drew ?_))); (case side2 => exact (Kd.R_reads' HO145.out).2.1); (case side3 => repeat (first | exact (Kd.R_reads' HO_4.out).2.2 | (with_reducible refine Kd.C_alloc ?_ _) | (with_reducible refine Kd.C_drewN ?_ _) | (with_reducible refine Kd.C_drew ?_))); (case side4 => exact (Kd.R_reads' HO_4.out).2.1); rintro e w' ⟨rfl, ⟨nd, rfl⟩⟩; refine ⟨_, rfl, ?_⟩; obtain ⟨Ao85, co85, eo85⟩ := Kd.R_slice HO147.out; subst eo85; obtain ⟨Ao86, co86, eo86⟩ := Kd.R_slice HO_5.out; subst eo86) | (go_at_call 19; (with_reducible refine (Fn.calls kj35 _ _ t142 _ _ t106 false _ ?side1 ?side2 ?side3 ?side4 A77.out).mono ?_); (case side1 => repeat (first | exact (Kd.R_reads' HO147.out).2.2 | (with_reducible refine Kd.C_alloc ?_ _) | (with_reducible refine Kd.C_drewN ?_ _) | (with_reducible refine Kd.C_drew ?_))); (case side2 => exact (Kd.R_reads' HO147.out).2.1); (case side3 => repeat (first | exact (Kd.R_reads' HO_5.out).2.2 | (with_reducible refine Kd.C_alloc ?_ _) | (with_reducible refine Kd.C_drewN ?_ _) | (with_reducible refine Kd.C_drew ?_))); (case side4 => exact (Kd.R_reads' HO_5.out).2.1); rintro e w' ⟨rfl, ⟨nd, rfl⟩⟩))
       go_meet
       case rel => exact ⟨_, (true), (by first | rfl | (simp; done) | (simp [*]; done)), H', ⟨by have := HJ8.out; have := HJ35.out; first | omega | exact Nat.le_refl _⟩, ⟨by exact RS <| Kd.R_mono HO_8.out (fun _ hk => trivial)⟩, ⟨by exact RS <| Kd.R_mono HO_9.out (fun _ hk => trivial)⟩, ⟨by exact eS HB.out⟩⟩
     case rest =>
      clear HC66
      try clear c1
      try clear c2
      try clear p2
      try clear c3
      try clear c3b0
      try clear c4
      try clear c5
      try clear c6
      try clear c7
      try clear c14
      try clear c15
      try clear c16
      try clear c17
      try clear c18
      try clear c20
      try clear c21
      try clear c22
      try clear c23
      try clear c24
      try clear c25
      try clear c31
      try clear c34
      try clear c41
      try clear c41b0
      try clear c43
      try clear c45
      try clear c56
      try clear c60
      try clear c60b0
      try clear c62
      try clear c62b0
      try clear c63
      try clear c63b0
      try clear c63b1
      try clear c76
      try clear c78
      try clear p2
      obtain ⟨kq, x119_65, rfl, HA, HJ65, HO_8, HO_9, HB⟩ := hcut
      have hl8_65 := (Kd.R_reads' HO_8.out).1
      rw [hl8_65] at HO_8
      (try simp only [hl8_65])
      (try simp only [hl8_65] at HO_9)
      have hl9_65 := (Kd.R_reads' HO_9.out).1
      rw [hl9_65] at HO_9
      (try simp only [hl9_65])
      (try simp only [hl9_65] at HO_8)
      cases kq with
      | zero => exact absurd HA.out (by simp [Fb.j2])
      | succ kj65 =>
       have H := HA.out
       clear HA
       simp only [Fb.j2] at H
       by_cases c89 : x119_65 = true
       ·subst c89
        have H1 : (some false) = some r := by rw [if_pos rfl] at H; exact H
        clear H
        have H := H1
        clear H1
        as_aux_lemma =>
         exact absurd ((Option.some.inj H).trans HT.out) (by decide)
       replace c89 := Bool.eq_false_iff.mpr c89
       subst c89
       have H1 : ((Fl.f kj65 t133 1).bind fun t150 => (if t150 < 0 then (some false) else ((Fo.f kj65 t135 t150).bind fun t151 => (if t151 < 0 then (some false) else (if t151 = t134 then (some true) else (some false)))))) = some r := by rw [if_neg (show ¬ (false = true) by decide)] at H; exact H
       clear H
       have H := H1
       clear H1
       replace H := Option.bind_eq_some_iff.mp H
       obtain ⟨t150, A900, H⟩ := H
       (try dsimp only at H)
       have A90 := Ak A900
       clear A900
       by_cases c91 : t150 < 0
       ·rw [if_pos c91] at H
        have c91b0 : decide (t150 < 0) = true := decide_eq_true c91
        clear c91
        as_aux_lemma =>
         exact absurd ((Option.some.inj H).trans HT.out) (by decide)
       rw [if_neg c91] at H
       have c91b0 : decide (t150 < 0) = false := decide_eq_false c91
       clear c91
       replace H := Option.bind_eq_some_iff.mp H
       obtain ⟨t151, A920, H⟩ := H
       (try dsimp only at H)
       have A92 := Ak A920
       clear A920
       by_cases c93 : t151 < 0
       ·rw [if_pos c93] at H
        have c93b0 : decide (t151 < 0) = true := decide_eq_true c93
        clear c93
        as_aux_lemma =>
         exact absurd ((Option.some.inj H).trans HT.out) (by decide)
       rw [if_neg c93] at H
       have c93b0 : decide (t151 < 0) = false := decide_eq_false c93
       clear c93
       by_cases c94 : t151 = t134
       rotate_left
       ·rw [if_neg c94] at H
        have c94b0 : (t151 == t134) = false := beq_eq_false_iff_ne.mpr c94
        have c94b1 : (t151 != t134) = true := bne_iff_ne.mpr c94
        as_aux_lemma =>
         exact absurd ((Option.some.inj H).trans HT.out) (by decide)
       rw [if_pos c94] at H
       have c94b0 : (t151 == t134) = true := beq_iff_eq.mpr c94
       have c94b1 : (t151 != t134) = false := bne_eq_false_iff_eq.mpr c94
       clear c94
       as_aux_lemma =>
        obtain rfl := Option.some.inj H
        go_wp2_with (first | ((with_reducible refine gate_callee (f := 24) rfl ?_); refine goesL_ (some 122) rfl rfl Tryd.func24 (by kernel_rfl) rfl #[.slice Ao67 t133.length co67, .int .i64 1] rfl (by (try simp only [List.map_toArray, List.map_cons, List.map_nil]); first | done | rfl | (simp only [List.length_drop, List.length_take]; rfl)) ?_; (with_reducible refine (Fl.calls kj65 _ _ t133 1 t150 _ ?side1 ?side2 A90.out).mono ?_); (case side1 => repeat (first | exact (Kd.R_reads' HO_8.out).2.2 | (with_reducible refine Kd.C_alloc ?_ _) | (with_reducible refine Kd.C_drewN ?_ _) | (with_reducible refine Kd.C_drew ?_))); (case side2 => exact (Kd.R_reads' HO_8.out).2.1); rintro e w95 ⟨rfl, hb⟩; refine ⟨_, rfl, ?_⟩; have n0_ := Ak (Kd.R_below (by exact RS <| HO_8.out) hb); have n1_ := Ak (Kd.R_below (by exact RS <| HO_9.out) hb); have n2_ := Ak (below_step (by exact eS HB.out) hb); clear HO_8; clear HO_9; clear HB; have HO_8 := n0_; have HO_9 := n1_; have HB := n2_; clear n0_ n1_ n2_; (try clear hb); (try clear hb2); (try clear hk); (try clear hi)) | ((with_reducible refine gate_callee (f := 25) rfl ?_); refine goesL_ (some 127) rfl rfl Tryd.func25 (by kernel_rfl) rfl #[.slice Ao69 t135.length co69, .int .i64 t150] rfl (by (try simp only [List.map_toArray, List.map_cons, List.map_nil]); first | done | rfl | (simp only [List.length_drop, List.length_take]; rfl)) ?_; (with_reducible refine (Fo.calls kj65 _ _ t135 t150 t151 _ ?side1 ?side2 A92.out).mono ?_); (case side1 => repeat (first | exact (Kd.R_reads' HO_9.out).2.2 | (with_reducible refine Kd.C_alloc ?_ _) | (with_reducible refine Kd.C_drewN ?_ _) | (with_reducible refine Kd.C_drew ?_))); (case side2 => exact (Kd.R_reads' HO_9.out).2.1); rintro e w' ⟨rfl, ⟨nd, rfl⟩⟩; refine ⟨_, rfl, ?_⟩))
        go_ret
        exact ⟨by first | rfl | (simp [errW_none, errW_some] <;> rfl) | (simp [*, errW_none, errW_some] <;> rfl), by exact eS HB.out⟩
/-- THE ONE PURE STATEMENT of Fb: yours. -/
def Fb.Pure : Prop := ∀ (l0 : List (S38)), (l0.length ≤ 9223372036854775807 ∧ ∀ y_ ∈ l0, ok38 y_) → ∃ k, Fb.f k l0 = some true
end Go.Proofs.YtahfahlbdgbfeaaDoor.X

namespace Go.Proofs.YtahfahlbdgbfeaaDoor.Pure
open Go Go.RowKit Go.Proofs Go.Proofs.YtahfahlbdgbfeaaDoorW.PrintWords Go.Proofs.YtahfahlbdgbfeaaDoorW.PrintLast
set_option linter.unusedVariables false
set_option linter.unusedSimpArgs false
theorem w64 {x : Int} (h1 : -9223372036854775808 ≤ x) (h2 : x ≤ 9223372036854775807) : wrap64 x = x := by unfold wrap64; omega
theorem drop_step {α : Type} {l : List α} {i : Nat} (h : i < l.length) (d : α) : l.drop i = l.getD i d :: l.drop (i + 1) := by
  rw [List.drop_eq_getElem_cons h]; congr 1; simp [List.getD_eq_getElem?_getD, List.getElem?_eq_getElem h]
theorem wstep {i : Nat} {n : Nat} (h : i < n) (hn : n ≤ 9223372036854775807) : wrap64 ((i : Int) + 1) = ((i + 1 : Nat) : Int) := by unfold wrap64; omega
theorem succ_of {k d : Nat} (h : d < k) : ∃ m, k = m + 1 ∧ d ≤ m := ⟨k - 1, by omega, by omega⟩
end Go.Proofs.YtahfahlbdgbfeaaDoor.Pure

namespace Go.Proofs.YtahfahlbdgbfeaaDoor.Pure
open Go Go.RowKit Go.Proofs Go.Proofs.YtahfahlbdgbfeaaDoor.X Go.Proofs.YtahfahlbdgbfeaaDoorW.PrintWords Go.Proofs.YtahfahlbdgbfeaaDoorW.PrintLast
set_option linter.unusedVariables false
set_option linter.unusedSimpArgs false
def cbP (l : List S41) (c : ByteArray) : Int := (l.map fun o => if o.f1 = c then o.f6 else 0).sum
instance cbDecMem (x : ByteArray) (l : List ByteArray) : Decidable (x ∈ l) := decidable_of_iff (l.any (fun y => decide (y = x)) = true) (by simp)
def cbFirst (l : List S41) : List ByteArray := l.foldl (fun acc o => if o.f1 ∈ acc then acc else acc ++ [o.f1]) []
def cbLe (p : ByteArray → Int) (x y : ByteArray) : Prop := p y < p x ∨ p x = p y ∧ Op.bytesLess y.toList x.toList = false
theorem cbKey_ne {x y : ByteArray} (h : y ≠ x) : CbKey y ≠ CbKey x := by
  intro e
  injection e with e
  exact h (ByteArray.ext (Array.toList_inj.mp e))
theorem cbKey_lit (x : ByteArray) : Go.WideAt.IsKeyLit (CbKey x) := trivial
theorem CbStep_map {s : DataW Unit × List ByteArray} (h : Go.Maps.IsMap s.1) (o : S41) : Go.Maps.IsMap (CbStep s o).1 := h.put _ _
theorem CbStep_at {s : DataW Unit × List ByteArray} (h : Go.Maps.IsMap s.1) (o : S41) (c : ByteArray) : CbAt (CbStep s o).1 c = if o.f1 = c then wrap64 (CbAt s.1 o.f1 + o.f6) else CbAt s.1 c := by
  by_cases g : o.f1 = c
  · subst g
    rw [if_pos rfl]
    exact CbAt_of (Go.Maps.atKey_put_same h (cbKey_lit _) _ _)
  · rw [if_neg g]
    have e := Go.Maps.atKey_put_other (D := s.1) (cbKey_ne (x := o.f1) (y := c) (fun e => g e.symm)) (.lit (.int .i64 (wrap64 (CbAt s.1 o.f1 + o.f6)))) (.lit (.int .i64 0))
    unfold CbAt CbStep
    dsimp only
    exact congrArg (fun d : DataW Unit => match d with | .lit (.int _ c) => c | _ => (0 : Int)) e
theorem CbStep_has {s : DataW Unit × List ByteArray} (h : Go.Maps.IsMap s.1) (hi : ∀ c, Go.Maps.has s.1 (CbKey c) = true ↔ c ∈ s.2) (o : S41) : (∀ c, Go.Maps.has (CbStep s o).1 (CbKey c) = true ↔ c ∈ (CbStep s o).2) ∧ (CbStep s o).2 = if o.f1 ∈ s.2 then s.2 else s.2 ++ [o.f1] := by
  have h2 : (CbStep s o).2 = if o.f1 ∈ s.2 then s.2 else s.2 ++ [o.f1] := by
    unfold CbStep
    dsimp only
    by_cases g : o.f1 ∈ s.2
    · rw [if_pos g, if_pos ((hi _).mpr g)]
    · rw [if_neg g, if_neg (fun e => g ((hi _).mp e))]
  refine ⟨fun c => ?_, h2⟩
  rw [h2]
  by_cases g : o.f1 = c
  · subst g
    have := Go.Maps.has_put_same h (cbKey_lit o.f1) (.lit (.int .i64 (wrap64 (CbAt s.1 o.f1 + o.f6))))
    refine ⟨fun _ => ?_, fun _ => this⟩
    split
    · assumption
    · simp
  · have e := Go.Maps.has_put_other (D := s.1) (cbKey_ne (x := o.f1) (y := c) (fun e => g e.symm)) (.lit (.int .i64 (wrap64 (CbAt s.1 o.f1 + o.f6))))
    rw [show Go.Maps.has (CbStep s o).1 (CbKey c) = Go.Maps.has s.1 (CbKey c) from e, hi c]
    split
    · rfl
    · rw [List.mem_append, List.mem_singleton]
      exact ⟨.inl, fun h => h.resolve_right (fun e => g e.symm)⟩
theorem CbRun_inv (B : Int) (hB : 0 ≤ B) : ∀ (l : List S41) (s : DataW Unit × List ByteArray) (M : Int), Go.Maps.IsMap s.1 → (∀ c, Go.Maps.has s.1 (CbKey c) = true ↔ c ∈ s.2) → (∀ c, 0 ≤ CbAt s.1 c ∧ CbAt s.1 c ≤ M) → (∀ o ∈ l, 0 ≤ o.f6 ∧ o.f6 ≤ B) → M + B * l.length ≤ 9223372036854775807 →
    (∀ c, CbAt (l.foldl CbStep s).1 c = CbAt s.1 c + cbP l c) ∧ (l.foldl CbStep s).2 = l.foldl (fun acc o => if o.f1 ∈ acc then acc else acc ++ [o.f1]) s.2
  | [], s, M, _, _, _, _, _ => ⟨fun c => by simp [cbP], rfl⟩
  | o :: l, s, M, h1, h2, h3, h4, h5 => by
    have ho := h4 o (List.mem_cons_self)
    have hlen : B * ((o :: l).length : Int) = B * (l.length : Int) + B := by rw [List.length_cons]; push_cast; rw [Int.mul_add, Int.mul_one]
    have hnn : 0 ≤ B * (l.length : Int) := Int.mul_nonneg hB (by omega)
    have hat : ∀ c, CbAt (CbStep s o).1 c = CbAt s.1 c + if o.f1 = c then o.f6 else 0 := fun c => by
      rw [CbStep_at h1]
      by_cases g : o.f1 = c
      · subst g
        have := h3 o.f1
        rw [if_pos rfl, if_pos rfl, w64 (by omega) (by omega)]
      · rw [if_neg g, if_neg g, Int.add_zero]
    obtain ⟨g1, g2⟩ := CbStep_has h1 h2 o
    obtain ⟨r1, r2⟩ := CbRun_inv B hB l (CbStep s o) (M + B) (CbStep_map h1 o) g1 (fun c => by
      rw [hat c]
      have := h3 c
      split <;> omega) (fun x hx => h4 x (List.mem_cons_of_mem _ hx)) (by omega)
    refine ⟨fun c => ?_, ?_⟩
    · rw [List.foldl_cons, r1 c, hat c]
      simp only [cbP, List.map_cons, List.sum_cons]
      omega
    · rw [List.foldl_cons, r2, g2, List.foldl_cons]
theorem CbRun_eq {l : List S41} {B : Int} (hB : 0 ≤ B) (h4 : ∀ o ∈ l, 0 ≤ o.f6 ∧ o.f6 ≤ B) (h5 : B * l.length ≤ 9223372036854775807) : (∀ c, CbAt (CbRun l).1 c = cbP l c) ∧ (CbRun l).2 = cbFirst l := by
  have z : ∀ c, CbAt (.map []) c = 0 := fun c => rfl
  obtain ⟨h1, h2⟩ := CbRun_inv B hB l (.map [], []) 0 Go.Maps.isMap_empty (fun c => by simp [Go.Maps.has_eq]) (fun c => by rw [z]; omega) h4 (by omega)
  exact ⟨fun c => by rw [CbRun, h1 c, z, Int.zero_add], h2⟩
theorem cbLe_trans {p : ByteArray → Int} {x y z : ByteArray} (h1 : cbLe p x y) (h2 : cbLe p y z) : cbLe p x z := by
  rcases h1 with h1 | ⟨e1, h1⟩ <;> rcases h2 with h2 | ⟨e2, h2⟩
  · exact .inl (by omega)
  · exact .inl (by omega)
  · exact .inl (by omega)
  · refine .inr ⟨by omega, Bool.eq_false_iff.mpr fun h3 => ?_⟩
    rcases hb : Op.bytesLess z.toList y.toList with _ | _
    · rcases hc : Op.bytesLess y.toList z.toList with _ | _
      · rw [CbL_total _ _ hb hc, h1] at h3; cases h3
      · have := CbL_trans _ _ _ hc h3
        rw [h1] at this; cases this
    · rw [h2] at hb; cases hb
theorem cbLe_anti {p : ByteArray → Int} {x y : ByteArray} (h1 : cbLe p x y) (h2 : cbLe p y x) : x = y := by
  rcases h1 with h1 | ⟨e1, h1⟩ <;> rcases h2 with h2 | ⟨e2, h2⟩
  · omega
  · omega
  · omega
  · exact CbBytes (CbL_total _ _ h2 h1)
theorem CbSorted_le (D : DataW Unit) (acc : List ByteArray) : (CbSorted D acc).Pairwise (cbLe (CbAt D)) := by
  unfold CbSorted
  have hS := CbSWO D
  have h := List.pairwise_mergeSort (le := fun x y : CbT => !(ltOf (CbCf D)) y x) (fun a b c h1 h2 => by
      simp only [Bool.not_eq_true'] at h1 h2 ⊢
      exact hS.ntrans _ _ _ h2 h1) (fun a b => by
      rcases h1 : ltOf (CbCf D) b a with _ | _
      · rfl
      · rcases h2 : ltOf (CbCf D) a b with _ | _
        · rfl
        · have := hS.trans _ _ _ h1 h2
          rw [hS.irrefl] at this; cases this) (acc.map CbMk)
  refine List.pairwise_map.mpr (h.imp fun {x y} h => ?_)
  simp only [Bool.not_eq_true'] at h
  have g := mt (CbLt_iff D y x).mpr (by rw [h]; decide)
  by_cases e : CbAt D y.1 < CbAt D x.1
  · exact .inl e
  · refine .inr ⟨by omega, Bool.eq_false_iff.mpr fun e2 => g (.inr ⟨by omega, e2⟩)⟩
theorem CbSorted_perm (D : DataW Unit) (acc : List ByteArray) (h : ∀ s ∈ acc, s.size ≤ maxLen) : (CbSorted D acc).Perm acc := by
  unfold CbSorted
  have e : acc = (acc.map CbMk).map Subtype.val := by
    rw [List.map_map]
    conv => lhs; rw [← List.map_id acc]
    exact List.map_congr_left fun s hs => (CbMk_val (h s hs)).symm
  conv => rhs; rw [e]
  exact (List.mergeSort_perm _ _).map _
/-- whoever sorts the names alike has the same list -/
theorem CbSorted_uniq {D : DataW Unit} {acc L : List ByteArray} (h : ∀ s ∈ acc, s.size ≤ maxLen) (hL : L.Pairwise (cbLe (CbAt D))) (hp : L.Perm acc) : CbSorted D acc = L :=
  List.Perm.eq_of_pairwise (fun _ _ _ _ h1 h2 => cbLe_anti h1 h2) (CbSorted_le D acc) hL ((CbSorted_perm D acc h).trans hp.symm)
theorem cbIns_perm (L : List ByteArray) (c : ByteArray) (k : Nat) : (L.take k ++ c :: L.drop k).Perm (c :: L) := by
  have := List.perm_middle (a := c) (l₁ := L.take k) (l₂ := L.drop k)
  rwa [List.take_append_drop] at this
theorem cbIns_le {p : ByteArray → Int} {L : List ByteArray} {c : ByteArray} {k : Nat} (hL : L.Pairwise (cbLe p)) (hk : k ≤ L.length) (h1 : ∀ j, k ≤ j → (hj : j < L.length) → cbLe p c L[j]) (h2 : ∀ h : 0 < k, cbLe p L[k - 1] c) : (L.take k ++ c :: L.drop k).Pairwise (cbLe p) := by
  have h12 : ∀ x ∈ L.take k, cbLe p x c := fun x hx => by
    obtain ⟨i, hi, rfl⟩ := List.mem_iff_getElem.mp hx
    rw [List.length_take] at hi
    rw [List.getElem_take]
    by_cases e : i = k - 1
    · subst e; exact h2 (by omega)
    · exact cbLe_trans (List.pairwise_iff_getElem.mp hL i (k - 1) (by omega) (by omega) (by omega)) (h2 (by omega))
  have h13 : ∀ x ∈ L.drop k, cbLe p c x := fun x hx => by
    obtain ⟨i, hi, rfl⟩ := List.mem_iff_getElem.mp hx
    rw [List.length_drop] at hi
    rw [List.getElem_drop]
    exact h1 _ (by omega) (by omega)
  refine List.pairwise_append.mpr ⟨hL.sublist (List.take_sublist _ _), List.pairwise_cons.mpr ⟨h13, hL.sublist (List.drop_sublist _ _)⟩, fun x hx y hy => ?_⟩
  rcases List.mem_cons.mp hy with rfl | hy
  · exact h12 x hx
  · exact cbLe_trans (h12 x hx) (h13 y hy)
theorem cbFirst_mem {l : List S41} (c : ByteArray) : c ∈ cbFirst l ↔ ∃ o ∈ l, o.f1 = c := by
  suffices h : ∀ (l : List S41) acc, c ∈ l.foldl (fun acc o => if o.f1 ∈ acc then acc else acc ++ [o.f1]) acc ↔ c ∈ acc ∨ ∃ o ∈ l, o.f1 = c by simpa [cbFirst] using h l []
  intro l
  induction l with
  | nil => intro acc; simp
  | cons o l ih =>
    intro acc
    rw [List.foldl_cons, ih]
    by_cases g : o.f1 ∈ acc
    · rw [if_pos g]
      constructor
      · rintro (h | ⟨x, hx, e⟩)
        · exact .inl h
        · exact .inr ⟨x, List.mem_cons_of_mem _ hx, e⟩
      · rintro (h | ⟨x, hx, e⟩)
        · exact .inl h
        · rcases List.mem_cons.mp hx with rfl | hx
          · exact .inl (e ▸ g)
          · exact .inr ⟨x, hx, e⟩
    · rw [if_neg g, List.mem_append, List.mem_singleton]
      constructor
      · rintro ((h | h) | ⟨x, hx, e⟩)
        · exact .inl h
        · exact .inr ⟨o, List.mem_cons_self, h.symm⟩
        · exact .inr ⟨x, List.mem_cons_of_mem _ hx, e⟩
      · rintro (h | ⟨x, hx, e⟩)
        · exact .inl (.inl h)
        · rcases List.mem_cons.mp hx with rfl | hx
          · exact .inl (.inr e.symm)
          · exact .inr ⟨x, hx, e⟩
theorem cbFirst_take {l : List S41} {i : Nat} {o : S41} (h : l[i]? = some o) : cbFirst (l.take (i + 1)) = if o.f1 ∈ cbFirst (l.take i) then cbFirst (l.take i) else cbFirst (l.take i) ++ [o.f1] := by
  unfold cbFirst
  rw [List.take_add_one, h, Option.toList_some, List.foldl_append]
  rfl
end Go.Proofs.YtahfahlbdgbfeaaDoor.Pure

namespace Go.Proofs.YtahfahlbdgbfeaaDoor.Pure
open Go Go.RowKit Go.Proofs Go.Proofs.YtahfahlbdgbfeaaDoorW.PrintWords Go.Proofs.YtahfahlbdgbfeaaDoorW.PrintLast
set_option linter.unusedVariables false
set_option linter.unusedSimpArgs false
/-- q at all numbers from i on, n of them -/
def allR (q : Nat → Bool) (i n : Nat) : Bool := (List.range' i n).all q
theorem allR_iff {q : Nat → Bool} {i n : Nat} : allR q i n = true ↔ ∀ j, i ≤ j → j < i + n → q j = true := by
  unfold allR
  rw [List.all_eq_true]
  exact ⟨fun h j h1 h2 => h j (List.mem_range'_1.mpr ⟨h1, h2⟩), fun h j hj => h j (List.mem_range'_1.mp hj).1 (List.mem_range'_1.mp hj).2⟩
theorem allR_succ (q : Nat → Bool) (i n : Nat) : allR q i (n + 1) = (q i && allR q (i + 1) n) := by
  unfold allR; rw [List.range'_succ, List.all_cons]
/-- A loop that asks of all numbers, from i on. -/
theorem idx_loop (L : Nat → Int → Option Bool) (q : Nat → Bool) (i0 n0 : Nat) (e : Bool) (hb : n0 ≤ 9223372036854775806)
    (hs : ∀ k (i : Nat), i0 ≤ i → i < n0 → L (k + 1) i = if q i = true then L k (wrap64 ((i : Int) + 1)) else some false) (he : ∀ k (i : Nat), n0 ≤ i → L (k + 1) i = some e) :
    ∀ n k (i : Nat), i0 ≤ i → i + n = n0 → n < k → L k i = some (allR q i n && e) := by
  intro n
  induction n with
  | zero =>
    intro k i h0 hi hk
    obtain ⟨k, rfl, _⟩ := succ_of hk
    rw [he k i (by omega)]; simp [allR]
  | succ n ih =>
    intro k i h0 hi hk
    obtain ⟨k, rfl, hk⟩ := succ_of hk
    rw [hs k i h0 (by omega), wstep (show i < n0 by omega) (by omega), allR_succ, ih k (i + 1) (by omega) (by omega) (by omega)]
    cases q i <;> simp
theorem all_getD {α : Type} {p : α → Bool} {l : List α} (d : α) : l.all p = true ↔ ∀ j, j < l.length → p (l.getD j d) = true := by
  rw [List.all_eq_true]
  constructor
  · intro h j hj
    rw [List.getD_eq_getElem?_getD, List.getElem?_eq_getElem hj]
    exact h _ (List.getElem_mem hj)
  · intro h x hx
    obtain ⟨j, hj, rfl⟩ := List.mem_iff_getElem.mp hx
    have := h j hj
    rwa [List.getD_eq_getElem?_getD, List.getElem?_eq_getElem hj] at this
/-- A loop that adds up. -/
theorem sum_loop {α β : Type} (L : Nat → Int → Int → Option β) (v : α → Int) (r : Int → Option β) (d : α) (B : Int) (l : List α) (hb : l.length ≤ 9223372036854775806) (hv : ∀ x ∈ l, 0 ≤ v x ∧ v x ≤ B)
    (hs : ∀ k (acc : Int) (i : Nat), i < l.length → 0 ≤ acc → acc ≤ B * i → L (k + 1) acc i = L k (acc + v (l.getD i d)) (wrap64 ((i : Int) + 1)))
    (he : ∀ k (acc : Int) (i : Nat), l.length ≤ i → L (k + 1) acc i = r acc) :
    ∀ n k (acc : Int) (i : Nat), i + n = l.length → n < k → 0 ≤ acc → acc ≤ B * i → L k acc i = r (acc + ((l.drop i).map v).sum) := by
  intro n
  induction n with
  | zero =>
    intro k acc i hi hk h0 h1
    obtain ⟨k, rfl, _⟩ := succ_of hk
    rw [he k acc i (by omega), List.drop_eq_nil_of_le (by omega)]; simp
  | succ n ih =>
    intro k acc i hi hk h0 h1
    obtain ⟨k, rfl, hk⟩ := succ_of hk
    have hlt : i < l.length := by omega
    have hm : l.getD i d ∈ l := by rw [List.getD_eq_getElem?_getD, List.getElem?_eq_getElem hlt]; exact List.getElem_mem hlt
    have := hv _ hm
    rw [hs k acc i hlt h0 h1, wstep hlt (by omega), drop_step hlt d, List.map_cons, List.sum_cons]
    have hB : B * ((i + 1 : Nat) : Int) = B * i + B := by push_cast; rw [Int.mul_add, Int.mul_one]
    rw [ih k _ (i + 1) (by omega) (by omega) (by omega) (by omega), Int.add_assoc]
/-- The same, where the end leans on all that was asked, and needs fuel of its own. -/
theorem idx_loop2 (L : Nat → Int → Option Bool) (q : Nat → Bool) (i0 n0 m0 : Nat) (e : Bool) (hb : n0 ≤ 9223372036854775806)
    (hs : ∀ k (i : Nat), i0 ≤ i → i < n0 → m0 ≤ k → L (k + 1) i = if q i = true then L k (wrap64 ((i : Int) + 1)) else some false) (he : (∀ j, i0 ≤ j → j < n0 → q j = true) → ∀ k, m0 ≤ k → L (k + 1) (n0 : Int) = some e) :
    ∀ n k (i : Nat), i0 ≤ i → i + n = n0 → n + m0 < k → (∀ j, i0 ≤ j → j < i → q j = true) → L k i = some (allR q i n && e) := by
  intro n
  induction n with
  | zero =>
    intro k i h0 hi hk hq
    obtain ⟨k, rfl, _⟩ := succ_of (show 0 < k by omega)
    obtain rfl : i = n0 := by omega
    rw [he hq k (by omega)]; simp [allR]
  | succ n ih =>
    intro k i h0 hi hk hq
    obtain ⟨k, rfl, hk'⟩ := succ_of (show 0 < k by omega)
    rw [hs k i h0 (by omega) (by omega), wstep (show i < n0 by omega) (by omega), allR_succ]
    cases hc : q i
    · simp
    · rw [if_pos rfl, ih k (i + 1) (by omega) (by omega) (by omega) (fun j h1 h2 => by
        by_cases hj : j = i
        · rw [hj]; exact hc
        · exact hq j h1 (by omega)), Bool.true_and]
/-- A loop that copies element by element into a new row. -/
theorem copy_loop {α β : Type} (L : Nat → List α → List β → Int → Option (List β)) (f : α → β) (d : α) (l : List α) (hb : l.length ≤ 9223372036854775806)
    (hs : ∀ k x3 (i : Nat), i < l.length → x3.length = l.length → L (k + 1) l x3 i = L k l (x3.set i (f (l.getD i d))) (wrap64 ((i : Int) + 1)))
    (he : ∀ k x3 (i : Nat), l.length ≤ i → L (k + 1) l x3 i = some x3) :
    ∀ n k (i : Nat) (x3 : List β), i + n = l.length → n < k → x3.length = l.length → x3.take i = (l.take i).map f → L k l x3 i = some (l.map f) := by
  intro n
  induction n with
  | zero =>
    intro k i x3 hi hk hl ht
    obtain ⟨k, rfl, _⟩ := succ_of hk
    rw [he k x3 i (by omega)]
    rw [List.take_of_length_le (by omega), List.take_of_length_le (by omega)] at ht
    rw [ht]
  | succ n ih =>
    intro k i x3 hi hk hl ht
    obtain ⟨k, rfl, hk⟩ := succ_of hk
    rw [hs k x3 i (by omega) hl, wstep (show i < l.length by omega) (by omega)]
    refine ih k (i + 1) _ (by omega) (by omega) (by rw [List.length_set]; exact hl) ?_
    rw [List.take_succ_eq_append_getElem (by rw [List.length_set]; omega), List.take_succ_eq_append_getElem (by omega), List.map_append, ← ht]
    congr 1
    · rw [List.take_set_of_le (Nat.le_refl _)]
    · simp [List.getD_eq_getElem?_getD, List.getElem?_eq_getElem (show i < l.length by omega)]
/-- A loop that compares a row with itself. -/
theorem refl_loop {α : Type} (L : Nat → List α → List α → Int → Option Bool) (l : List α) (hb : l.length ≤ 9223372036854775806)
    (hs : ∀ k (i : Nat), i < l.length → L (k + 1) l l i = L k l l (wrap64 ((i : Int) + 1))) (he : ∀ k (i : Nat), l.length ≤ i → L (k + 1) l l i = some true) :
    ∀ n k (i : Nat), i + n = l.length → n < k → L k l l i = some true := by
  intro n
  induction n with
  | zero =>
    intro k i hi hk
    obtain ⟨k, rfl, _⟩ := succ_of hk
    exact he k i (by omega)
  | succ n ih =>
    intro k i hi hk
    obtain ⟨k, rfl, hk⟩ := succ_of hk
    rw [hs k i (by omega), wstep (show i < l.length by omega) (by omega)]
    exact ih k (i + 1) (by omega) (by omega)
/-- A loop that asks of all elements, from i on. -/
theorem all_loop {α : Type} (L : Nat → Int → Option Bool) (q : α → Bool) (d : α) (l : List α) (e : Bool) (hb : l.length ≤ 9223372036854775806)
    (hs : ∀ k (i : Nat), i < l.length → L (k + 1) i = if q (l.getD i d) = true then L k (wrap64 ((i : Int) + 1)) else some false) (he : ∀ k (i : Nat), l.length ≤ i → L (k + 1) i = some e) :
    ∀ n k (i : Nat), i + n = l.length → n < k → L k i = some ((l.drop i).all q && e) := by
  intro n
  induction n with
  | zero =>
    intro k i hi hk
    obtain ⟨k, rfl, _⟩ := succ_of hk
    rw [he k i (by omega), List.drop_eq_nil_of_le (by omega)]; rfl
  | succ n ih =>
    intro k i hi hk
    obtain ⟨k, rfl, hk⟩ := succ_of hk
    rw [hs k i (by omega), wstep (show i < l.length by omega) (by omega), drop_step (by omega) d, List.all_cons, ih k (i + 1) (by omega) (by omega)]
    cases q (l.getD i d) <;> simp
/-- What marks leave: each element tells its own number. -/
def markM {α : Type} (g : Int → α) (c : Int) (n : Nat) (s : Int) : List α := (List.range n).map fun (j : Nat) => g (s + c * (j : Int))
theorem markM_length {α : Type} (g : Int → α) (c : Int) (n : Nat) (s : Int) : (markM g c n s).length = n := by simp [markM]
theorem markM_getD {α : Type} (g : Int → α) (c : Int) (n : Nat) (s : Int) (d : α) {i : Nat} (h : i < n) : (markM g c n s).getD i d = g (s + c * i) := by
  simp [markM, List.getD_eq_getElem?_getD, List.getElem?_map, List.getElem?_range h]
/-- A loop that marks. -/
theorem mark_loop {α : Type} (L : Nat → List α → Int → Int → Option (Int × List α)) (g : Int → α) (c : Int) (n0 : Nat) (s : Int) (hb : n0 ≤ 9223372036854775806) 
    (hs : ∀ k x (i : Nat), i < n0 → x.length = n0 → L (k + 1) x (s + c * i) i = L k (x.set i (g (s + c * i))) (s + c * ((i + 1 : Nat) : Int)) (wrap64 ((i : Int) + 1)))
    (he : ∀ k x m (i : Nat), n0 ≤ i → x.length = n0 → L (k + 1) x m i = some (m, x)) :
    ∀ n k (i : Nat) (x : List α), i + n = n0 → n < k → x.length = n0 → x.take i = (markM g c n0 s).take i → L k x (s + c * i) i = some (s + c * n0, markM g c n0 s) := by
  intro n
  induction n with
  | zero =>
    intro k i x hi hk hl ht
    obtain ⟨k, rfl, _⟩ := succ_of hk
    rw [he k x _ i (by omega) hl]
    rw [List.take_of_length_le (by omega), List.take_of_length_le (by rw [markM_length]; omega)] at ht
    rw [ht]; simp [show i = n0 by omega]
  | succ n ih =>
    intro k i x hi hk hl ht
    obtain ⟨k, rfl, hk⟩ := succ_of hk
    rw [hs k x i (by omega) hl, wstep (show i < n0 by omega) (by omega)]
    refine ih k (i + 1) _ (by omega) (by omega) (by rw [List.length_set]; exact hl) ?_
    rw [List.take_succ_eq_append_getElem (by rw [List.length_set]; omega), List.take_succ_eq_append_getElem (by rw [markM_length]; omega), ← ht]
    congr 1
    · rw [List.take_set_of_le (Nat.le_refl _)]
    · simp [markM]
/-- A loop that asks for the marks. -/
theorem held_loop {α : Type} (L : Nat → List α → Int → Int → Option Int) (g : Int → α) (c : Int) (n0 : Nat) (s : Int) (hb : n0 ≤ 9223372036854775806)
    (hs : ∀ k (i : Nat), i < n0 → L (k + 1) (markM g c n0 s) (s + c * i) i = L k (markM g c n0 s) (s + c * ((i + 1 : Nat) : Int)) (wrap64 ((i : Int) + 1)))
    (he : ∀ k m (i : Nat), n0 ≤ i → L (k + 1) (markM g c n0 s) m i = some m) :
    ∀ n k (i : Nat), i + n = n0 → n < k → L k (markM g c n0 s) (s + c * i) i = some (s + c * n0) := by
  intro n
  induction n with
  | zero =>
    intro k i hi hk
    obtain ⟨k, rfl, _⟩ := succ_of hk
    rw [he k _ i (by omega), show i = n0 by omega]
  | succ n ih =>
    intro k i hi hk
    obtain ⟨k, rfl, hk⟩ := succ_of hk
    rw [hs k i (by omega), wstep (show i < n0 by omega) (by omega)]
    exact ih k (i + 1) (by omega) (by omega)
theorem rd_nat (l : List Int) (i : Nat) : rd l (i : Int) = l.getD i 0 := by simp [rd]
end Go.Proofs.YtahfahlbdgbfeaaDoor.Pure

namespace Go.Proofs.YtahfahlbdgbfeaaDoor.Pure
open Go Go.RowKit Go.Proofs Go.Proofs.YtahfahlbdgbfeaaDoor.X Go.Proofs.YtahfahlbdgbfeaaDoorW.PrintWords Go.Proofs.YtahfahlbdgbfeaaDoorW.PrintLast
set_option linter.unusedVariables false
set_option linter.unusedSimpArgs false
def toOrder (x : S38) : S41 := ⟨x.f0, x.f1, x.f2, x.f3, x.f4, x.f5, x.f6, x.f7⟩
theorem rdVOrder_nat (l : List S38) (i : Nat) : rd_T38 l (i : Int) = l.getD i z38 := by simp [rd_T38]
theorem rdIOrder_nat (l : List S41) (i : Nat) : rd_T41 l (i : Int) = l.getD i z41 := by simp [rd_T41]
theorem toOrderS_eq {k : Nat} {l : List S38} (hk : l.length < k) (hl : l.length ≤ 1048576) : Ff.f k l = some (l.map toOrder) := by
  unfold Ff.f
  rw [if_pos (by omega), if_pos (by simp; omega)]
  exact copy_loop Ff.l0 toOrder z38 l (by omega)
    (fun k x3 i h1 h2 => by
      simp only [Ff.l0, Fan.f, Option.bind_some]
      rw [if_pos (by omega), if_pos (by omega), if_pos (by omega), rdVOrder_nat]
      simp [toOrder])
    (fun k x3 i h1 => by simp only [Ff.l0]; rw [if_neg (by omega)])
    l.length k 0 _ (by omega) hk (by simp) (by simp)
theorem eqOrder_refl (a0 : Int) (a1 : ByteArray) (a2 a3 a4 a5 a6 a7 : Int) : Faf.f a0 a1 a2 a3 a4 a5 a6 a7 a0 a1 a2 a3 a4 a5 a6 a7 = some true := by simp [Faf.f]
theorem eqOrderS_refl {k : Nat} {l : List S41} (hk : l.length < k) (hl : l.length ≤ 9223372036854775806) : Fe.f k l l = some true := by
  unfold Fe.f
  rw [if_pos rfl]
  exact refl_loop Fe.l0 l hl
    (fun k i h => by simp only [Fe.l0, eqOrder_refl, Option.bind_some]; rw [if_pos (by omega), if_pos (by omega), if_pos (by omega)]; simp)
    (fun k i h => by simp only [Fe.l0]; rw [if_neg (by omega)])
    l.length k 0 (by omega) hk
/-- what the law's own guard lets in -/
theorem szOrderS_ex {k : Nat} {l : List S38} (hk : 1048577 < k) (hl : l.length ≤ 9223372036854775807) (hs : ∀ x ∈ l, x.f1.size ≤ 9223372036854775807) : ∃ r, Fh.f k l 1048576 = some r ∧ (r < 0 ∨ (l.length ≤ 1048576 ∧ ∀ x ∈ l, x.f1.size ≤ 1048576)) := by
  unfold Fh.f
  rw [w64 (x := 1048576 - (l.length : Int)) (by omega) (by omega)]
  by_cases h : 1048576 - (l.length : Int) < 0
  · exact ⟨-1, by rw [if_pos h], .inl (by omega)⟩
  rw [if_neg h]
  have : ∀ (n k i : Nat) (a : Int), i + n = l.length → n < k → 0 ≤ a → a ≤ 1048576 → ∃ r, Fh.l0 k l a (i : Int) = some r ∧ (r < 0 ∨ ∀ x ∈ l.drop i, x.f1.size ≤ 1048576) := by
    intro n
    induction n with
    | zero =>
      intro k i a hi hk h0 h1
      obtain ⟨k, rfl, _⟩ := succ_of hk
      refine ⟨a, by simp only [Fh.l0]; rw [if_neg (by omega)], .inr ?_⟩
      rw [List.drop_eq_nil_of_le (by omega)]
      intro x hx; simp at hx
    | succ n ih =>
      intro k i a hi hk h0 h1
      obtain ⟨k, rfl, hk⟩ := succ_of hk
      have hlt : i < l.length := by omega
      have hm : l.getD i z38 ∈ l := by rw [List.getD_eq_getElem?_getD, List.getElem?_eq_getElem hlt]; exact List.getElem_mem hlt
      have hsz := hs _ hm
      simp only [Fh.l0, Fai.f, rdVOrder_nat]
      rw [if_pos (by omega), if_pos (by omega), w64 (x := a - ((l.getD i z38).f1.size : Int)) (by omega) (by omega)]
      by_cases g : a - ((l.getD i z38).f1.size : Int) < 0
      · rw [if_pos g]
        exact ⟨-1, by simp, .inl (by omega)⟩
      · rw [if_neg g]
        simp only [Option.bind_some]
        rw [if_neg g, wstep hlt hl]
        obtain ⟨r, hr, hor⟩ := ih k (i + 1) (a - ((l.getD i z38).f1.size : Int)) (by omega) (by omega) (by omega) (by omega)
        refine ⟨r, hr, hor.imp id fun hx => ?_⟩
        rw [drop_step hlt z38]
        intro x hx2
        rw [List.mem_cons] at hx2
        rcases hx2 with rfl | hx2
        · omega
        · exact hx x hx2
  obtain ⟨r, hr, hor⟩ := this l.length k 0 (1048576 - (l.length : Int)) (by omega) (by omega) (by omega) (by omega)
  refine ⟨r, hr, hor.imp id fun hx => ⟨by omega, by simpa using hx⟩⟩
theorem sizesOk_map {l : List S38} (h : l.length ≤ 1048576 ∧ ∀ x ∈ l, x.f1.size ≤ 1048576) : (l.map toOrder).length ≤ 1048576 ∧ ∀ x ∈ l.map toOrder, x.f1.size ≤ 1048576 := by
  refine ⟨by rw [List.length_map]; exact h.1, fun x hx => ?_⟩
  rw [List.mem_map] at hx
  obtain ⟨y, hy, rfl⟩ := hx
  exact h.2 y hy
theorem in_eq (x a b : Int) : Fz.f x a b = some (decide (a ≤ x ∧ x ≤ b)) := by
  unfold Fz.f
  by_cases h1 : a ≤ x <;> simp [h1]
theorem l1In_eq (x a b : Int) : Ft.f x a b = some (decide (a ≤ x ∧ x ≤ b)) := by
  unfold Ft.f
  by_cases h1 : a ≤ x <;> simp [h1]
def lowB (b : UInt8) : Bool := decide (97 ≤ b.toNat ∧ b.toNat ≤ 122)
/-- a word: one to ten small letters -/
def wordB (s : ByteArray) : Bool := decide (1 ≤ s.size ∧ s.size ≤ 10) && s.data.toList.all lowB
theorem bt_nat (s : ByteArray) (i : Nat) (h : i < s.size) : bt s (i : Int) = ((s.data.toList.getD i 0).toNat : Int) := by
  have h2 : i < s.data.toList.length := by simpa using h
  unfold bt
  rw [dif_pos (by simpa using h), List.getD_eq_getElem?_getD, List.getElem?_eq_getElem h2]
  rfl
theorem wordS_eq {k : Nat} {s : ByteArray} (hk : s.size < k) (hs : s.size ≤ 9223372036854775806) : Fu.f k s = some (wordB s) := by
  unfold Fu.f
  have hl : s.data.toList.length = s.size := by rw [Array.length_toList]; rfl
  have h := all_loop (fun k i => Fu.l0 k s i) lowB 0 s.data.toList (decide (1 ≤ s.size ∧ s.size ≤ 10)) (by omega)
    (fun k i h1 => by
      simp only [Fu.l0]
      rw [if_pos (by omega), if_pos (by omega), bt_nat s i (by omega)]
      unfold lowB
      by_cases g1 : ((s.data.toList.getD i 0).toNat : Int) < 97
      · rw [if_pos g1, decide_eq_false (by omega)]; simp
      · rw [if_neg g1]
        by_cases g2 : ((s.data.toList.getD i 0).toNat : Int) > 122
        · rw [if_pos g2, decide_eq_false (by omega)]; simp
        · rw [if_neg g2, decide_eq_true (by omega)]; simp)
    (fun k i h1 => by
      simp only [Fu.l0]
      rw [if_neg (by omega), l1In_eq]
      simp only [Option.bind_some]
      congr 2
      exact propext ⟨fun h => by omega, fun h => by omega⟩)
    s.data.toList.length k 0 (by omega) (by omega)
  refine h.trans ?_
  simp only [List.drop_zero, wordB, Bool.and_comm]
theorem dropWhile_nil (p : UInt8 → Bool) (l : List UInt8) : l.dropWhile p = [] ↔ l.all p = true := by
  induction l with
  | nil => simp
  | cons a l ih =>
    by_cases h : p a = true
    · rw [List.dropWhile_cons_of_pos h, ih]; simp [h]
    · rw [List.dropWhile_cons_of_neg h]; simp [h]
theorem trim_nil (p : UInt8 → Bool) (l : List UInt8) : ((l.reverse.dropWhile p).reverse.dropWhile p) = [] ↔ l.all p = true := by
  rw [dropWhile_nil, List.all_reverse]
  constructor
  · intro h
    have : (l.reverse.dropWhile p) = [] := by
      cases hd : l.reverse.dropWhile p with
      | nil => rfl
      | cons x t =>
        rw [hd] at h
        have h1 : p x = true := by simp at h; exact h.1
        have h2 := List.head?_dropWhile_not p l.reverse
        rw [hd] at h2
        simp [h1] at h2
    rw [dropWhile_nil, List.all_reverse] at this
    exact this
  · intro h
    have : (l.reverse.dropWhile p) = [] := by rw [dropWhile_nil, List.all_reverse]; exact h
    rw [this]; rfl
def abcB : ByteArray := ⟨#[97, 98, 99, 100, 101, 102, 103, 104, 105, 106, 107, 108, 109, 110, 111, 112, 113, 114, 115, 116, 117, 118, 119, 120, 121, 122]⟩
theorem abc_has (b : UInt8) : abcB.data.toList.contains b = lowB b := by
  have e : ∀ c : UInt8, (b == c) = decide (b.toNat = c.toNat) := fun c => by
    rw [Bool.eq_iff_iff]; simp [UInt8.toNat_inj]
  unfold lowB abcB
  simp only [List.contains_cons, List.contains_nil, e]
  rw [Bool.eq_iff_iff]
  simp only [Bool.or_eq_true, decide_eq_true_eq, Bool.false_eq_true, or_false, UInt8.reduceToNat]
  omega
theorem wordI_eq (s : ByteArray) : Fam.f s = some (wordB s) := by
  unfold Fam.f
  rw [in_eq]
  simp only [Option.bind_some, wordB]
  by_cases hs : 1 ≤ s.size ∧ s.size ≤ 10
  · rw [decide_eq_true (show 1 ≤ (s.size : Int) ∧ (s.size : Int) ≤ 10 by omega), decide_eq_true hs, if_pos rfl, Bool.true_and]
    show (Fah.f s abcB).bind _ = _
    unfold Fah.f
    rw [if_pos ⟨by omega, by decide, by decide⟩]
    simp only [Option.bind_some, ByteArray.toList_eq]
    congr 1
    unfold Go.Lib.trimS Go.Lib.trimLeftS Go.Lib.trimRightS
    rw [Bool.eq_iff_iff, beq_iff_eq, trim_nil, show (fun b => abcB.data.toList.contains b) = lowB from funext abc_has]
  · rw [decide_eq_false (show ¬ (1 ≤ (s.size : Int) ∧ (s.size : Int) ≤ 10) by omega), decide_eq_false hs]; simp
def orderB (x : S41) : Bool := decide (1 ≤ x.f0 ∧ x.f0 ≤ 999) && (wordB x.f1 && (decide (30 ≤ x.f2 ∧ x.f2 ≤ 600) && (decide (30 ≤ x.f3 ∧ x.f3 ≤ 600) && (decide (0 ≤ x.f4 ∧ x.f4 ≤ 5) && (decide (0 ≤ x.f5 ∧ x.f5 ≤ 10000000) && (decide (0 ≤ x.f6 ∧ x.f6 ≤ x.f5) && decide (0 ≤ x.f7 ∧ x.f7 ≤ 4000)))))))
def ascO (l : List S41) (j : Nat) : Bool := decide ((l.getD (j - 1) z41).f0 < (l.getD j z41).f0)
def ordersB (l : List S41) : Bool := decide (l.length ≤ 10) && (l.all orderB && allR (ascO l) 1 (l.length - 1))
def sizesOk (l : List S41) : Prop := l.length ≤ 1048576 ∧ ∀ x ∈ l, x.f1.size ≤ 1048576
theorem oneOS_eq {k : Nat} (x : S41) (hk : x.f1.size < k) (hs : x.f1.size ≤ 1048576) : Faa.f k x.f0 x.f1 x.f2 x.f3 x.f4 x.f5 x.f6 x.f7 = some (orderB x) := by
  simp only [Faa.f, Fad.f, Fag.f, l1In_eq, wordS_eq hk (by omega), Option.bind_some, orderB]
  generalize decide (1 ≤ x.f0 ∧ x.f0 ≤ 999) = p1; generalize wordB x.f1 = p2; generalize decide (30 ≤ x.f2 ∧ x.f2 ≤ 600) = p3; generalize decide (30 ≤ x.f3 ∧ x.f3 ≤ 600) = p4; generalize decide (0 ≤ x.f4 ∧ x.f4 ≤ 5) = p5; generalize decide (0 ≤ x.f5 ∧ x.f5 ≤ 10000000) = p6; generalize decide (0 ≤ x.f6 ∧ x.f6 ≤ x.f5) = p7; generalize decide (0 ≤ x.f7 ∧ x.f7 ≤ 4000) = p8
  cases p1 <;> cases p2 <;> cases p3 <;> cases p4 <;> cases p5 <;> cases p6 <;> cases p7 <;> rfl
theorem oneOI_eq {k : Nat} (x : S41) (hk : 0 < k) : Fg.f k x.f0 x.f1 x.f2 x.f3 x.f4 x.f5 x.f6 x.f7 = some (orderB x) := by
  obtain ⟨k, rfl, _⟩ := succ_of hk
  simp only [Fg.f, Fg.j0, Faj.f, Fac.f, Fal.f, Fak.f, Fap.f, in_eq, wordI_eq, Option.bind_some, orderB]
  generalize decide (1 ≤ x.f0 ∧ x.f0 ≤ 999) = p1; generalize wordB x.f1 = p2; generalize decide (30 ≤ x.f2 ∧ x.f2 ≤ 600) = p3; generalize decide (30 ≤ x.f3 ∧ x.f3 ≤ 600) = p4; generalize decide (0 ≤ x.f4 ∧ x.f4 ≤ 5) = p5; generalize decide (0 ≤ x.f5 ∧ x.f5 ≤ 10000000) = p6; generalize decide (0 ≤ x.f6 ∧ x.f6 ≤ x.f5) = p7; generalize decide (0 ≤ x.f7 ∧ x.f7 ≤ 4000) = p8
  cases p1 <;> cases p2 <;> cases p3 <;> cases p4 <;> cases p5 <;> cases p6 <;> cases p7 <;> rfl
theorem ordersS_eq {k : Nat} {l : List S41} (hk : l.length + 1048577 < k) (hs : sizesOk l) : Fj.f k l = some (ordersB l) := by
  unfold Fj.f
  have hx := idx_loop2 (fun k i => Fj.l0 k l i) (fun j => orderB (l.getD j z41) && (decide (j = 0) || ascO l j)) 0 l.length 1048577 (decide (l.length ≤ 10)) (by have := hs.1; omega)
    (fun k i _ h1 h2 => by
      have hm : l.getD i z41 ∈ l := by rw [List.getD_eq_getElem?_getD, List.getElem?_eq_getElem h1]; exact List.getElem_mem h1
      have hsz := hs.2 _ hm
      have hlen := hs.1
      simp only [Fj.l0, rdIOrder_nat]
      rw [if_pos (by omega), if_pos (by omega), oneOS_eq _ (by omega) hsz]
      simp only [Option.bind_some]
      cases orderB (l.getD i z41)
      · simp
      · by_cases hi : i = 0
        · rw [if_pos rfl, if_neg (by omega), decide_eq_true hi]; simp
        · rw [if_pos rfl, if_pos (by omega), w64 (x := (i : Int) - 1) (by omega) (by omega), if_pos (by omega), if_pos (by omega), show (i : Int) - 1 = ((i - 1 : Nat) : Int) by omega, rdIOrder_nat, decide_eq_false hi]
          unfold ascO
          by_cases g : (l.getD (i - 1) z41).f0 ≥ (l.getD i z41).f0
          · rw [if_pos g, decide_eq_false (by omega)]; simp
          · rw [if_neg g, decide_eq_true (by omega)]; simp)
    (fun hq k hk => by
      simp only [Fj.l0]
      rw [if_neg (by omega)]
      congr 2
      exact propext ⟨fun h => by omega, fun h => by omega⟩)
    l.length k 0 (by omega) (by omega) (by omega) (fun j h1 h2 => by omega)
  refine hx.trans (congrArg some ?_)
  unfold ordersB
  rw [Bool.and_comm]
  congr 1
  rw [Bool.eq_iff_iff, Bool.and_eq_true, allR_iff, allR_iff, all_getD z41]
  constructor
  · intro h
    refine ⟨fun j hj => ?_, fun j h1 h2 => ?_⟩
    · have := h j (by omega) (by omega)
      rw [Bool.and_eq_true] at this; exact this.1
    · have := h j (by omega) (by omega)
      rw [Bool.and_eq_true, decide_eq_false (show ¬ j = 0 by omega), Bool.false_or] at this; exact this.2
  · intro h j h1 h2
    rw [Bool.and_eq_true]
    refine ⟨h.1 j (by omega), ?_⟩
    by_cases hj : j = 0
    · rw [decide_eq_true hj]; rfl
    · rw [h.2 j (by omega) (by omega), Bool.or_true]
theorem ordersI_eq {k : Nat} {l : List S41} (hk : l.length + 1 < k) (hs : l.length ≤ 1048576) : Fw.f k l = some (ordersB l) := by
  unfold Fw.f ordersB
  by_cases h10 : (l.length : Int) ≤ 10
  · rw [if_pos h10, decide_eq_true (show l.length ≤ 10 by omega), Bool.true_and]
    simp only [Fr.f]
    rw [Ho.allO_eq (q := orderB) (fun x _ => oneOI_eq x (by omega))]
    simp only [Option.bind_some]
    have hasc : Fc.f k l = some (allR (ascO l) 1 (l.length - 1)) := by
      unfold Fc.f
      by_cases h0 : l.length = 0
      · obtain ⟨k, rfl, _⟩ := succ_of (show 0 < k by omega)
        simp only [Fc.l0]
        rw [if_neg (by omega), h0]; rfl
      have h := idx_loop (fun k i => Fc.l0 k l i) (ascO l) 1 l.length true (by omega)
        (fun k i h1 h2 => by
          simp only [Fc.l0, Fx.f, Option.bind_some]
          rw [if_pos (by omega), w64 (x := (i : Int) - 1) (by omega) (by omega), if_pos (by omega), if_pos (by omega), if_pos (by omega), show (i : Int) - 1 = ((i - 1 : Nat) : Int) by omega, rdIOrder_nat, rdIOrder_nat]
          unfold ascO
          by_cases g : (l.getD (i - 1) z41).f0 ≥ (l.getD i z41).f0
          · rw [if_pos g, decide_eq_false (by omega)]; simp
          · rw [if_neg g, decide_eq_true (by omega)]; simp)
        (fun k i h1 => by simp only [Fc.l0]; rw [if_neg (by omega)])
        (l.length - 1) k 1 (by omega) (by omega) (by omega)
      simpa using h
    rw [hasc]
    simp only [Option.bind_some]
    cases l.all orderB <;> simp
  · rw [if_neg h10, decide_eq_false (show ¬ l.length ≤ 10 by omega)]; simp
theorem orders_of {l : List S41} (h : ordersB l = true) : l.length ≤ 10 ∧ ∀ x ∈ l, orderB x = true := by
  simp only [ordersB, Bool.and_eq_true, decide_eq_true_eq, List.all_eq_true] at h
  exact ⟨h.1, h.2.1⟩
theorem order_of {x : S41} (h : orderB x = true) : (1 ≤ x.f0 ∧ x.f0 ≤ 999) ∧ wordB x.f1 = true ∧ (30 ≤ x.f2 ∧ x.f2 ≤ 600) ∧ (30 ≤ x.f3 ∧ x.f3 ≤ 600) ∧ (0 ≤ x.f4 ∧ x.f4 ≤ 5) ∧ (0 ≤ x.f5 ∧ x.f5 ≤ 10000000) ∧ (0 ≤ x.f6 ∧ x.f6 ≤ x.f5) ∧ (0 ≤ x.f7 ∧ x.f7 ≤ 4000) := by
  simpa only [orderB, Bool.and_eq_true, decide_eq_true_eq] using h
theorem cbL_asymm {x y : ByteArray} (h : Op.bytesLess x.toList y.toList = true) : Op.bytesLess y.toList x.toList = false := by
  refine Bool.eq_false_iff.mpr fun h2 => ?_
  have := CbL_trans _ _ _ h h2
  rw [CbL_irrefl] at this; cases this
theorem cbEq_iff {x y : ByteArray} : x.toList = y.toList ↔ x = y := ⟨CbBytes, fun h => h ▸ rfl⟩
theorem paidS_eq {k : Nat} {l : List S41} {c : ByteArray} (hk : l.length < k) (h : ordersB l = true) : Fs.f k l c = some (cbP l c) := by
  obtain ⟨h10, hx⟩ := orders_of h
  unfold Fs.f
  have := sum_loop (fun k a i => Fs.l0 k l c a i) (fun o => if o.f1 = c then o.f6 else 0) (fun a => some a) z41 10000000 l (by omega) (fun x hm => by
      have := order_of (hx x hm)
      split <;> omega)
    (fun k acc i h1 h2 h3 => by
      have hm : l.getD i z41 ∈ l := by rw [List.getD_eq_getElem?_getD, List.getElem?_eq_getElem h1]; exact List.getElem_mem h1
      have hb := order_of (hx _ hm)
      simp only [Fs.l0, rdIOrder_nat, cbEq_iff]
      rw [if_pos (by omega), if_pos (by omega)]
      by_cases g1 : (l.getD i z41).f1 = c
      · rw [if_pos g1, if_pos g1, w64 (x := acc + _) (by omega) (by omega)]
      · rw [if_neg g1, if_neg g1, Int.add_zero])
    (fun k acc i h1 => by simp only [Fs.l0]; rw [if_neg (by omega)])
    l.length k 0 0 (by omega) (by omega) (by omega) (by omega)
  simpa [cbP] using this
/-- the search for the place -/
theorem clients_l2 {l : List S41} {L : List ByteArray} {p : ByteArray → Int} {c : ByteArray} {i : Nat} (hL : L.length ≤ 100) (hi : i ≤ 1000) :
    ∀ (j : Nat) (K : Nat), j ≤ L.length → (∀ q, j ≤ q → (hq : q < L.length) → cbLe p c L[q]) →
      ∃ m K', m ≤ L.length ∧ K ≤ K' ∧ (∀ q, m ≤ q → (hq : q < L.length) → cbLe p c L[q]) ∧ (∀ h : 0 < m, ∃ hq : m - 1 < L.length, cbLe p (L[m - 1]'hq) c) ∧
        Fa.l2 (K + j + 1) l L (L.map p) (i : Int) c (j : Int) (p c) = Fa.l0 K' l (L.take m ++ c :: L.drop m) ((L.take m ++ c :: L.drop m).map p) ((i + 1 : Nat) : Int)
  | 0, K, hj, h1 => by
    refine ⟨0, K, Nat.zero_le _, Nat.le_refl _, h1, fun h => absurd h (by omega), ?_⟩
    have w1 : wrap64 ((i : Int) + 1) = ((i + 1 : Nat) : Int) := by rw [w64 (by omega) (by omega)]; push_cast; rfl
    simp only [Fa.l2, Option.bind_some, Nat.add_zero, w1, Int.toNat_natCast, List.nil_append, List.length_nil, List.length_append, List.length_take, List.length_drop, List.length_cons, List.length_map]
    rw [if_neg (by omega)]
    simp only [show (0 : Int) ≤ ((0 : Nat) : Int) by omega, show ((0 : Nat) : Int) ≤ (L.length : Int) by omega, if_true]
    repeat rw [if_pos (by omega)]
    simp
  | j + 1, K, hj, h1 => by
    have hlt : j < L.length := by omega
    have w1 : wrap64 ((i : Int) + 1) = ((i + 1 : Nat) : Int) := by rw [w64 (by omega) (by omega)]; push_cast; rfl
    have w2 : wrap64 (((j + 1 : Nat) : Int) - 1) = (j : Int) := by rw [w64 (by omega) (by omega)]; push_cast; omega
    have e1 : rd (L.map p) (j : Int) = p L[j] := by rw [rd_nat, List.getD_eq_getElem?_getD, List.getElem?_map, List.getElem?_eq_getElem hlt]; rfl
    have e2 : rdOf ByteArray.empty L (j : Int) = L[j] := by simp [rdOf, List.getElem?_eq_getElem hlt]
    have stop : cbLe p L[j] c → (∀ q, j + 1 ≤ q → (hq : q < L.length) → cbLe p c L[q]) ∧ (∀ h : 0 < j + 1, ∃ hq : j + 1 - 1 < L.length, cbLe p (L[j + 1 - 1]'hq) c) := fun h => ⟨h1, fun _ => ⟨hlt, h⟩⟩
    have go : cbLe p c L[j] → ∀ q, j ≤ q → (hq : q < L.length) → cbLe p c L[q] := fun h q h2 hq => by
      rcases Nat.lt_or_ge j q with h3 | h3
      · exact h1 q h3 hq
      · obtain rfl : q = j := by omega
        exact h
    have a1 : ((j + 1 : Nat) : Int) > 0 := by omega
    have a2 : (0 : Int) ≤ (j : Int) := by omega
    have a3 : (j : Int) < ((L.map p).length : Int) := by rw [List.length_map]; omega
    have a4 : (j : Int) < (L.length : Int) := by omega
    have a5 : (0 : Int) ≤ ((j + 1 : Nat) : Int) := by omega
    have a6 : ((j + 1 : Nat) : Int) ≤ (L.length : Int) := by omega
    by_cases g1 : p L[j] < p c
    · obtain ⟨m, K', hm, hK, h2, h3, h4⟩ := clients_l2 hL hi j K (by omega) (go (.inl g1))
      refine ⟨m, K', hm, hK, h2, h3, ?_⟩
      rw [← h4, show K + (j + 1) + 1 = (K + j + 1) + 1 by omega]
      conv => lhs; rw [Fa.l2]
      simp only [w2, e1, a1, a2, a3, g1, if_true]
    · by_cases g2 : p L[j] = p c
      · by_cases g3 : Op.bytesLess c.toList L[j].toList = true
        · obtain ⟨m, K', hm, hK, h2, h3, h4⟩ := clients_l2 hL hi j K (by omega) (go (.inr ⟨g2.symm, cbL_asymm g3⟩))
          refine ⟨m, K', hm, hK, h2, h3, ?_⟩
          rw [← h4, show K + (j + 1) + 1 = (K + j + 1) + 1 by omega]
          conv => lhs; rw [Fa.l2]
          simp only [w2, e1, e2, a1, a2, a3, a4, g2, g3, if_true, Int.lt_irrefl, if_false]
        · obtain ⟨h2, h3⟩ := stop (.inr ⟨g2, by simpa using g3⟩)
          refine ⟨j + 1, K + j + 1, hj, by omega, h2, h3, ?_⟩
          rw [show K + (j + 1) + 1 = (K + j + 1) + 1 by omega]
          conv => lhs; rw [Fa.l2]
          simp only [w2, e1, e2, a1, a2, a3, a4, g2, g3, if_true, Int.lt_irrefl, if_false, Bool.false_eq_true, Option.bind_some, w1, Int.toNat_natCast, List.nil_append, List.length_nil, List.length_append, List.length_take, List.length_drop, List.length_cons, List.length_map, a5, a6]
          repeat rw [if_pos (by omega)]
          simp [List.map_take, List.map_drop]
      · obtain ⟨h2, h3⟩ := stop (.inl (by omega))
        refine ⟨j + 1, K + j + 1, hj, by omega, h2, h3, ?_⟩
        rw [show K + (j + 1) + 1 = (K + j + 1) + 1 by omega]
        conv => lhs; rw [Fa.l2]
        simp only [w2, e1, e2, a1, a2, a3, a4, g1, g2, if_true, if_false, Option.bind_some, w1, Int.toNat_natCast, List.nil_append, List.length_nil, List.length_append, List.length_take, List.length_drop, List.length_cons, List.length_map, a5, a6]
        repeat rw [if_pos (by omega)]
        simp [List.map_take, List.map_drop]
/-- was the client met before? -/
theorem clients_l1 {l : List S41} {L : List ByteArray} {S : List Int} {c : ByteArray} {i K : Nat} (hi : i ≤ l.length) (hl : l.length ≤ 1000) :
    ∀ (n j : Nat) (b : Bool), j + n = i → (b = true ↔ ∃ q, q < j ∧ (l.getD q z41).f1 = c) →
      Fa.l1 (K + n + 1) l L S (i : Int) c b (j : Int) = if (∃ q, q < i ∧ (l.getD q z41).f1 = c) then Fa.l0 K l L S ((i + 1 : Nat) : Int) else (Fs.f K l c).bind fun t => Fa.l2 K l L S (i : Int) c (L.length : Int) t := by
  intro n
  induction n with
  | zero =>
    intro j b hj hb
    obtain rfl : j = i := by omega
    have w1 : wrap64 ((j : Int) + 1) = ((j + 1 : Nat) : Int) := by rw [w64 (by omega) (by omega)]; push_cast; rfl
    conv => lhs; rw [Fa.l1]
    rw [if_neg (by omega), w1]
    cases b
    · rw [if_neg (by decide), if_neg (fun h => absurd (hb.mpr h) (by decide))]
    · rw [if_pos rfl, if_pos (hb.mp rfl)]
  | succ n ih =>
    intro j b hj hb
    have w1 : wrap64 ((j : Int) + 1) = ((j + 1 : Nat) : Int) := by rw [w64 (by omega) (by omega)]; push_cast; rfl
    rw [show K + (n + 1) + 1 = (K + n + 1) + 1 by omega]
    conv => lhs; rw [Fa.l1]
    rw [if_pos (by omega), w1]
    cases b
    · rw [if_neg (by decide), if_pos (by omega), if_pos (by omega), rdIOrder_nat]
      refine ih (j + 1) _ (by omega) ?_
      rw [beq_iff_eq, cbEq_iff]
      constructor
      · intro h; exact ⟨j, by omega, h⟩
      · rintro ⟨q, hq, e⟩
        rcases Nat.lt_or_ge q j with h2 | h2
        · exact absurd (hb.mpr ⟨q, h2, e⟩) (by decide)
        · obtain rfl : q = j := by omega
          exact e
    · rw [if_pos rfl]
      refine ih (j + 1) _ (by omega) ?_
      obtain ⟨q, hq, e⟩ := hb.mp rfl
      exact ⟨fun _ => ⟨q, by omega, e⟩, fun _ => rfl⟩
theorem cbFirst_len (l : List S41) : (cbFirst l).length ≤ l.length := by
  unfold cbFirst
  suffices h : ∀ (l : List S41) acc, (l.foldl (fun acc o => if o.f1 ∈ acc then acc else acc ++ [o.f1]) acc).length ≤ acc.length + l.length by simpa using h l []
  intro l
  induction l with
  | nil => intro acc; simp
  | cons o l ih =>
    intro acc
    rw [List.foldl_cons, List.length_cons]
    have := ih (if o.f1 ∈ acc then acc else acc ++ [o.f1])
    by_cases g : o.f1 ∈ acc
    · rw [if_pos g] at this ⊢; omega
    · rw [if_neg g] at this ⊢; rw [List.length_append, List.length_singleton] at this; omega
/-- all orders -/
theorem clients_l0 {l : List S41} (h : ordersB l = true) :
    ∀ (n i K : Nat) (L : List ByteArray), i + n = l.length → 64 * n + 64 ≤ K → L.Perm (cbFirst (l.take i)) → L.Pairwise (cbLe (cbP l)) →
      ∃ L', L'.Perm (cbFirst l) ∧ L'.Pairwise (cbLe (cbP l)) ∧ Fa.l0 K l L (L.map (cbP l)) (i : Int) = some (L', L'.map (cbP l), true) := by
  obtain ⟨h10, hx⟩ := orders_of h
  intro n
  induction n with
  | zero =>
    intro i K L hi hK hp hs
    obtain rfl : i = l.length := by omega
    rw [List.take_length] at hp
    refine ⟨L, hp, hs, ?_⟩
    obtain ⟨K, rfl, _⟩ := succ_of (show 0 < K by omega)
    rw [Fa.l0, if_neg (by omega)]
  | succ n ih =>
    intro i K L hi hK hp hs
    have hlt : i < l.length := by omega
    have hLl : L.length ≤ 10 := by
      have h1 := hp.length_eq
      have h2 := cbFirst_len (l.take i)
      rw [List.length_take] at h2
      omega
    have hgd : ∀ q, (hq : q < l.length) → l.getD q z41 = l[q] := fun q hq => by rw [List.getD_eq_getElem?_getD, List.getElem?_eq_getElem hq, Option.getD_some]
    have hget : l[i]? = some (l.getD i z41) := by rw [hgd i hlt, List.getElem?_eq_getElem hlt]
    have hf := cbFirst_take hget
    have hmem : (l.getD i z41).f1 ∈ cbFirst (l.take i) ↔ ∃ q, q < i ∧ (l.getD q z41).f1 = (l.getD i z41).f1 := by
      rw [cbFirst_mem]
      generalize (l.getD i z41).f1 = c
      constructor
      · rintro ⟨o, ho, e⟩
        obtain ⟨q, hq, rfl⟩ := List.mem_iff_getElem.mp ho
        rw [List.length_take] at hq
        rw [List.getElem_take] at e
        exact ⟨q, by omega, by rw [hgd q (by omega)]; exact e⟩
      · rintro ⟨q, hq, e⟩
        rw [hgd q (by omega)] at e
        exact ⟨l[q], List.mem_iff_getElem.mpr ⟨q, by rw [List.length_take]; omega, List.getElem_take⟩, e⟩
    obtain ⟨K1, rfl⟩ : ∃ K1, K = (K1 + i + 1) + 1 := ⟨K - i - 2, by omega⟩
    have hK1 : 64 * n + 64 + 40 ≤ K1 := by have := hK; have := hi; clear hK hi hget hf hmem hgd hp hs ih; omega
    rw [Fa.l0, if_pos (by omega), if_pos (by omega), rdIOrder_nat]
    have e1 := clients_l1 (l := l) (L := L) (S := L.map (cbP l)) (c := (l.getD i z41).f1) (i := i) (K := K1) (by omega) (by omega) i 0 false (by omega) ⟨fun h => absurd h (by decide), fun ⟨q, hq, _⟩ => absurd hq (by omega)⟩
    rw [show ((0 : Nat) : Int) = 0 from rfl] at e1
    rw [e1]
    by_cases g : (l.getD i z41).f1 ∈ cbFirst (l.take i)
    · rw [if_pos (hmem.mp g)]
      rw [if_pos g] at hf
      exact ih (i + 1) K1 L (by clear hK; omega) (Nat.le_trans (Nat.le_add_right _ _) hK1) (by rw [hf]; exact hp) hs
    · rw [if_neg (fun e => g (hmem.mpr e)), paidS_eq (k := K1) (l := l) (c := (l.getD i z41).f1) (by omega) h, Option.bind_some]
      rw [if_neg g] at hf
      obtain ⟨K2, rfl⟩ : ∃ K2, K1 = K2 + L.length + 1 := ⟨K1 - L.length - 1, by clear hK; omega⟩
      have hK2 : 64 * n + 64 ≤ K2 := by clear hK; omega
      obtain ⟨m, K', hm, hK', h2, h3, h4⟩ := clients_l2 (l := l) (L := L) (p := cbP l) (c := (l.getD i z41).f1) (i := i) (by omega) (by omega) L.length K2 (Nat.le_refl _) (fun q h1 hq => absurd hq (by omega))
      rw [h4]
      refine ih (i + 1) K' _ (by clear hK hK1; omega) (Nat.le_trans hK2 hK') ?_ ?_
      · rw [hf]
        refine (cbIns_perm L _ m).trans ?_
        refine ((hp.cons _).trans ?_)
        exact (List.perm_append_singleton _ _).symm
      · exact cbIns_le hs hm h2 (fun h => (h3 h).2)
def clientsM (l : List S41) : List ByteArray × List Int × Bool := if ordersB l then (CbSorted (CbRun l).1 (CbRun l).2, (CbSorted (CbRun l).1 (CbRun l).2).map (CbAt (CbRun l).1), true) else ([], [], false)
theorem clients_run {l : List S41} (h : ordersB l = true) : CbAt (CbRun l).1 = cbP l ∧ (CbRun l).2 = cbFirst l := by
  obtain ⟨h10, hx⟩ := orders_of h
  obtain ⟨h1, h2⟩ := CbRun_eq (l := l) (B := 10000000) (by omega) (fun o ho => by have := order_of (hx o ho); omega) (by omega)
  exact ⟨funext h1, h2⟩
theorem clients_word {s : ByteArray} (h : wordB s = true) : s.size ≤ 10 := by
  simp only [wordB, Bool.and_eq_true, decide_eq_true_eq] at h
  exact h.1.2
theorem clientsI_eq {k : Nat} {l : List S41} (hk : l.length + 1 < k) (hs : l.length ≤ 1048576) : Fp.f k l = some (clientsM l) := by
  simp only [Fp.f, ordersI_eq (k := k) (l := l) hk hs, Option.bind_some, clientsM]
  cases hb : ordersB l
  · simp
  · obtain ⟨h10, hx⟩ := orders_of hb
    have ho : CbOk l := ⟨by omega, fun o ho => by have := clients_word (order_of (hx o ho)).2.1; omega⟩
    simp only [if_true, if_pos ho]
theorem clientsS_eq {k : Nat} {l : List S41} (hk : l.length + 1048577 < k) (hs : sizesOk l) : Fa.f k l = some (clientsM l) := by
  simp only [Fa.f, Option.bind_some, ordersS_eq (k := k) (l := l) hk hs, clientsM]
  cases hb : ordersB l
  · simp
  · obtain ⟨h10, hx⟩ := orders_of hb
    obtain ⟨h1, h2⟩ := clients_run hb
    obtain ⟨L', hp, hl, e⟩ := clients_l0 hb l.length 0 k [] (by omega) (by omega) (by simp [cbFirst]) List.Pairwise.nil
    have hu := CbSorted_uniq (D := (CbRun l).1) (acc := (CbRun l).2) (L := L') (fun s hs => by
      rw [h2, cbFirst_mem] at hs
      obtain ⟨o, ho, rfl⟩ := hs
      have := clients_word (order_of (hx o ho)).2.1
      unfold maxLen; omega) (by rw [h1]; exact hl) (by rw [h2]; exact hp)
    rw [if_pos rfl, if_pos rfl, hu, h1]
    exact e
theorem clientsM_len (l : List S41) : (clientsM l).1.length ≤ 10 ∧ (clientsM l).2.1.length = (clientsM l).1.length := by
  unfold clientsM
  cases hb : ordersB l
  · simp
  · obtain ⟨h10, hx⟩ := orders_of hb
    have h2 := (clients_run hb).2
    have := cbFirst_len l
    simp only [if_true, List.length_map, CbSorted_len, h2]
    exact ⟨by omega, trivial⟩
theorem eqIntS_refl {k : Nat} {l : List Int} (hk : l.length < k) (hl : l.length ≤ 9223372036854775806) : Fn.f k l l = some true := by
  unfold Fn.f
  rw [if_pos rfl]
  exact refl_loop Fn.l0 l hl
    (fun k i h => by simp only [Fn.l0]; rw [if_pos (by omega), if_pos (by omega), if_pos (by omega)]; simp)
    (fun k i h => by simp only [Fn.l0]; rw [if_neg (by omega)])
    l.length k 0 (by omega) hk
theorem markIntS_eq {k : Nat} {l : List Int} {s : Int} (hk : l.length < k) (hl : l.length ≤ 1073741824) (hs : 0 ≤ s ∧ s ≤ 1073741824) : Fq.f k l s = some (s + 1 * l.length, markM (fun x => x) 1 l.length s) := by
  unfold Fq.f
  have h := mark_loop Fq.l0 (fun x => x) 1 l.length s (by omega)
    (fun k x i h1 h2 => by
      simp only [Fq.l0]
      rw [if_pos (by omega), if_pos (by omega)]
      rw [w64 (x := s + 1 * (i : Int) + 1) (by omega) (by omega)]
      congr 1 <;> first | (push_cast; omega) | simp)
    (fun k x m i h1 h2 => by simp only [Fq.l0]; rw [if_neg (by omega)])
    l.length k 0 l (by omega) hk rfl (by simp)
  simpa using h
theorem heldIntS_eq {k : Nat} {n : Nat} {s : Int} (hk : n < k) (hl : n ≤ 1073741824) (hs : 0 ≤ s ∧ s ≤ 1073741824) : Fo.f k (markM (fun x => x) 1 n s) s = some (s + 1 * n) := by
  unfold Fo.f
  have h := held_loop Fo.l0 (fun x => x) 1 n s (by omega)
    (fun k i h1 => by
      simp only [Fo.l0, markM_length]
      rw [if_pos (by omega), if_pos (by omega), rd_nat, markM_getD _ _ _ _ _ h1, if_pos rfl]
      rw [w64 (x := s + 1 * (i : Int) + 1) (by omega) (by omega)]
      congr 1; push_cast; omega)
    (fun k m i h1 => by simp only [Fo.l0, markM_length]; rw [if_neg (by omega)])
    n k 0 (by omega) hk
  simpa using h
end Go.Proofs.YtahfahlbdgbfeaaDoor.Pure

namespace Go.Proofs.YtahfahlbdgbfeaaDoor.Pure
open Go Go.RowKit Go.Proofs Go.Proofs.YtahfahlbdgbfeaaDoorW.PrintWords Go.Proofs.YtahfahlbdgbfeaaDoorW.PrintLast
set_option linter.unusedVariables false
set_option linter.unusedSimpArgs false
/-- A loop that marks, whose rounds need some fuel. -/
theorem mark_loop2 {α : Type} (L : Nat → List α → Int → Int → Option (Int × List α)) (g : Int → α) (c : Int) (n0 m0 : Nat) (s : Int) (hb : n0 ≤ 9223372036854775806)
    (hs : ∀ k x (i : Nat), m0 ≤ k → i < n0 → x.length = n0 → L (k + 1) x (s + c * i) i = L k (x.set i (g (s + c * i))) (s + c * ((i + 1 : Nat) : Int)) (wrap64 ((i : Int) + 1)))
    (he : ∀ k x m (i : Nat), n0 ≤ i → x.length = n0 → L (k + 1) x m i = some (m, x)) :
    ∀ n k (i : Nat) (x : List α), i + n = n0 → n + m0 < k → x.length = n0 → x.take i = (markM g c n0 s).take i → L k x (s + c * i) i = some (s + c * n0, markM g c n0 s) := by
  intro n
  induction n with
  | zero =>
    intro k i x hi hk hl ht
    obtain ⟨k, rfl, _⟩ := succ_of (show 0 < k by omega)
    rw [he k x _ i (by omega) hl]
    rw [List.take_of_length_le (by omega), List.take_of_length_le (by rw [markM_length]; omega)] at ht
    rw [ht]; simp [show i = n0 by omega]
  | succ n ih =>
    intro k i x hi hk hl ht
    obtain ⟨k, rfl, _⟩ := succ_of (show 0 < k by omega)
    rw [hs k x i (by omega) (by omega) hl, wstep (show i < n0 by omega) (by omega)]
    refine ih k (i + 1) _ (by omega) (by omega) (by rw [List.length_set]; exact hl) ?_
    rw [List.take_succ_eq_append_getElem (by rw [List.length_set]; omega), List.take_succ_eq_append_getElem (by rw [markM_length]; omega), ← ht]
    congr 1
    · rw [List.take_set_of_le (Nat.le_refl _)]
    · simp [markM]
theorem held_loop2 {α : Type} (L : Nat → List α → Int → Int → Option Int) (g : Int → α) (c : Int) (n0 m0 : Nat) (s : Int) (hb : n0 ≤ 9223372036854775806)
    (hs : ∀ k (i : Nat), m0 ≤ k → i < n0 → L (k + 1) (markM g c n0 s) (s + c * i) i = L k (markM g c n0 s) (s + c * ((i + 1 : Nat) : Int)) (wrap64 ((i : Int) + 1)))
    (he : ∀ k m (i : Nat), n0 ≤ i → L (k + 1) (markM g c n0 s) m i = some m) :
    ∀ n k (i : Nat), i + n = n0 → n + m0 < k → L k (markM g c n0 s) (s + c * i) i = some (s + c * n0) := by
  intro n
  induction n with
  | zero =>
    intro k i hi hk
    obtain ⟨k, rfl, _⟩ := succ_of (show 0 < k by omega)
    rw [he k _ i (by omega), show i = n0 by omega]
  | succ n ih =>
    intro k i hi hk
    obtain ⟨k, rfl, _⟩ := succ_of (show 0 < k by omega)
    rw [hs k i (by omega) (by omega), wstep (show i < n0 by omega) (by omega)]
    exact ih k (i + 1) (by omega) (by omega)
end Go.Proofs.YtahfahlbdgbfeaaDoor.Pure

namespace Go.Proofs.YtahfahlbdgbfeaaDoor.Pure
open Go Go.RowKit Go.Proofs Go.Proofs.YtahfahlbdgbfeaaDoor.X Go.Proofs.YtahfahlbdgbfeaaDoorW.PrintWords Go.Proofs.YtahfahlbdgbfeaaDoorW.PrintLast
set_option linter.unusedVariables false
set_option linter.unusedSimpArgs false
theorem strOf_one (c : Int) : (strOfNums [c]).size = 1 := rfl
theorem markText_loop : ∀ (m : Nat) (x0 : Int) (x3 : ByteArray), 0 ≤ x0 → x0 ≤ 9223372036854775807 → x0 < ((10 ^ m : Nat) : Int) → x3.size + m ≤ 100 → ∃ t, ∀ k, m < k → Fk.l0 k x0 x3 = some t := by
  intro m
  induction m with
  | zero =>
    intro x0 x3 h0 hb h1 hs
    refine ⟨(⟨#[109]⟩ : ByteArray) ++ x3, fun k hk => ?_⟩
    obtain ⟨k, rfl, _⟩ := succ_of hk
    rw [Fk.l0, if_neg (by simp at h1; omega), if_pos (by omega)]
  | succ m ih =>
    intro x0 x3 h0 hb h1 hs
    by_cases hx : x0 > 0
    · have hq : Int.tdiv x0 10 = x0 / 10 := Int.tdiv_eq_ediv_of_nonneg h0
      have hp : ((10 ^ (m + 1) : Nat) : Int) = 10 * ((10 ^ m : Nat) : Int) := by rw [Nat.pow_succ]; push_cast; omega
      obtain ⟨t, ht⟩ := ih (x0 / 10) (strOfNums [(wrap64 (48 + (Int.tmod x0 10))) % 256] ++ x3) (by omega) (by omega) (by omega) (by rw [ByteArray.size_append, strOf_one]; omega)
      refine ⟨t, fun k hk => ?_⟩
      obtain ⟨k, rfl, hk2⟩ := succ_of (show 0 < k by omega)
      rw [Fk.l0, if_pos hx]
      simp only [Option.bind_some]
      rw [if_pos (by rw [strOf_one]; omega), hq]
      rw [w64 (x := x0 / 10) (by omega) (by omega)]; exact ht k (by omega)
    · refine ⟨(⟨#[109]⟩ : ByteArray) ++ x3, fun k hk => ?_⟩
      obtain ⟨k, rfl, _⟩ := succ_of (show 0 < k by omega)
      rw [Fk.l0, if_neg hx, if_pos (by omega)]
theorem markText_ex (n : Int) (h : n ≤ 9223372036854775807) : ∃ t, ∀ k, 19 < k → Fk.f k n = some t := by
  by_cases h0 : n ≤ 0
  · exact ⟨_, fun k _ => by unfold Fk.f; rw [if_pos h0]⟩
  · obtain ⟨t, ht⟩ := markText_loop 19 n ⟨#[]⟩ (by omega) h (by have : ((10 ^ 19 : Nat) : Int) = 10000000000000000000 := rfl; omega) (by decide)
    exact ⟨t, fun k hk => by unfold Fk.f; rw [if_neg h0]; exact ht k hk⟩
/-- the text that tells a number -/
noncomputable def mt (n : Int) : ByteArray := if h : n ≤ 9223372036854775807 then Classical.choose (markText_ex n h) else ⟨#[]⟩
theorem markText_eq {n : Int} {k : Nat} (h : n ≤ 9223372036854775807) (hk : 19 < k) : Fk.f k n = some (mt n) := by
  unfold mt
  rw [dif_pos h]
  exact Classical.choose_spec (markText_ex n h) k hk
theorem markStringS_eq {k : Nat} {l : List ByteArray} {s : Int} (hk : l.length + 20 < k) (hl : l.length ≤ 1048576) (hs : 0 ≤ s ∧ s ≤ 1073741824) : Fm.f k l s = some (s + 1 * (l.length : Int), markM mt 1 l.length s) := by
  unfold Fm.f
  have h := mark_loop2 Fm.l0 mt 1 l.length 20 s (by omega)
    (fun k x i hk h1 h2 => by
      simp only [Fm.l0]
      rw [if_pos (by omega), markText_eq (n := s + 1 * (i : Int)) (by omega) (by omega)]
      simp only [Option.bind_some]
      rw [if_pos (by omega), w64 (x := s + 1 * (i : Int) + 1) (by omega) (by omega)]
      congr 1 <;> first | (push_cast; omega) | simp)
    (fun k x m i h1 h2 => by simp only [Fm.l0]; rw [if_neg (by omega)])
    l.length k 0 l (by omega) (by omega) rfl (by simp)
  simpa using h
theorem heldStringS_eq {k m : Nat} {s : Int} (hk : m + 20 < k) (hl : m ≤ 1048576) (hs : 0 ≤ s ∧ s ≤ 1073741824) : Fl.f k (markM mt 1 m s) s = some (s + 1 * (m : Int)) := by
  unfold Fl.f
  have h := held_loop2 Fl.l0 mt 1 m 20 s (by omega)
    (fun k i hk h1 => by
      simp only [Fl.l0, markM_length]
      rw [if_pos (by omega), if_pos (by omega), markText_eq (n := s + 1 * (i : Int)) (by omega) (by omega)]
      simp only [Option.bind_some]
      rw [show rdOf ByteArray.empty (markM mt 1 m s) (i : Int) = mt (s + 1 * (i : Int)) by simp only [rdOf, Int.toNat_natCast]; exact (List.getD_eq_getElem?_getD ▸ markM_getD mt 1 m s ByteArray.empty h1)]
      rw [if_pos rfl, w64 (x := s + 1 * (i : Int) + 1) (by omega) (by omega)]
      congr 1; push_cast; omega)
    (fun k q i h1 => by simp only [Fl.l0, markM_length]; rw [if_neg (by omega)])
    m k 0 (by omega) (by omega)
  simpa using h
theorem eqStringS_refl {k : Nat} {l : List ByteArray} (hk : l.length < k) (hl : l.length ≤ 9223372036854775806) : Fi.f k l l = some true := by
  unfold Fi.f
  rw [if_pos rfl]
  exact refl_loop Fi.l0 l hl
    (fun k i h => by simp only [Fi.l0]; rw [if_pos (by omega), if_pos (by omega), if_pos (by omega)]; simp)
    (fun k i h => by simp only [Fi.l0]; rw [if_neg (by omega)])
    l.length k 0 (by omega) hk
noncomputable def markOrder (s : Int) : S41 := ⟨s, mt (s + 1), s + 2, s + 3, s + 4, s + 5, s + 6, s + 7⟩
set_option maxHeartbeats 8000000 in
theorem markOrderS_eq {k : Nat} {l : List S41} {s : Int} (hk : l.length + 20 < k) (hl : l.length ≤ 1048576) (hs : 0 ≤ s ∧ s ≤ 1073741824) : Fd.f k l s = some (s + 8 * (l.length : Int), markM markOrder 8 l.length s) := by
  unfold Fd.f
  have h := mark_loop2 Fd.l0 markOrder 8 l.length 20 s (by omega)
    (fun k x i hk h1 h2 => by
      have hg : ∀ (y : List S41) (v : S41), y.length = l.length → (y.set i v).getD i z41 = v := by
        intro y v hy
        rw [List.getD_eq_getElem?_getD, List.getElem?_set_self (by omega)]; rfl
      simp only [Fd.l0, Option.bind_some, rdIOrder_nat, Int.toNat_natCast]
      rw [if_pos (by omega), if_pos (by omega)]
      rw [w64 (x := s + 8 * (i : Int) + 1) (by omega) (by omega), markText_eq (n := s + 8 * (i : Int) + 1) (by omega) (by omega)]
      simp only [Option.bind_some, hg, List.length_set, h2, List.set_set]
      rw [w64 (x := s + 8 * (i : Int) + 1 + 1) (by omega) (by omega), w64 (x := s + 8 * (i : Int) + 1 + 1 + 1) (by omega) (by omega), w64 (x := s + 8 * (i : Int) + 1 + 1 + 1 + 1) (by omega) (by omega), w64 (x := s + 8 * (i : Int) + 1 + 1 + 1 + 1 + 1) (by omega) (by omega), w64 (x := s + 8 * (i : Int) + 1 + 1 + 1 + 1 + 1 + 1) (by omega) (by omega), w64 (x := s + 8 * (i : Int) + 1 + 1 + 1 + 1 + 1 + 1 + 1) (by omega) (by omega), w64 (x := s + 8 * (i : Int) + 1 + 1 + 1 + 1 + 1 + 1 + 1 + 1) (by omega) (by omega)]
      have e1 : markOrder (s + 8 * (i : Int)) = ⟨s + 8 * (i : Int), mt (s + 8 * (i : Int) + 1), s + 8 * (i : Int) + 1 + 1, s + 8 * (i : Int) + 1 + 1 + 1, s + 8 * (i : Int) + 1 + 1 + 1 + 1, s + 8 * (i : Int) + 1 + 1 + 1 + 1 + 1, s + 8 * (i : Int) + 1 + 1 + 1 + 1 + 1 + 1, s + 8 * (i : Int) + 1 + 1 + 1 + 1 + 1 + 1 + 1⟩ := by
        unfold markOrder; congr 1 <;> omega
      have e2 : s + 8 * ((i + 1 : Nat) : Int) = s + 8 * (i : Int) + 1 + 1 + 1 + 1 + 1 + 1 + 1 + 1 := by push_cast; omega
      rw [e1, e2])
    (fun k x m i h1 h2 => by simp only [Fd.l0]; rw [if_neg (by omega)])
    l.length k 0 l (by omega) (by omega) rfl (by simp)
  simpa using h
theorem FnExactClientsByPaid : Fb.Pure := by
  intro l hl
  refine ⟨8000003, ?_⟩
  obtain ⟨r, hr, hor⟩ := szOrderS_ex (k := 8000003) (l := l) (by omega) hl.1 (fun x hx => (hl.2 x hx).2.1)
  simp only [Fb.f, hr, Option.bind_some]
  by_cases h : r < 0
  · rw [if_pos h]
  rw [if_neg h]
  have hs := hor.resolve_left h
  have hm := sizesOk_map hs
  obtain ⟨hlen, hlen2⟩ := clientsM_len (l.map toOrder)
  have ha1 : ∀ k, 7000000 < k → Fi.f k (clientsM (l.map toOrder)).1 (clientsM (l.map toOrder)).1 = some true := fun k hk => eqStringS_refl (by omega) (by omega)
  have ha2 : ∀ k, 7000000 < k → Fn.f k (clientsM (l.map toOrder)).2.1 (clientsM (l.map toOrder)).2.1 = some true := fun k hk => eqIntS_refl (by omega) (by omega)
  simp only [toOrderS_eq (k := 8000003) (l := l) (by omega) hs.1, Option.bind_some, clientsS_eq (k := 8000003) (l := l.map toOrder) (by simp; omega) hm, clientsI_eq (k := 8000003) (l := l.map toOrder) (by simp; omega) hm.1, ha1 8000003 (by omega), ha2 8000003 (by omega), if_true, bne_self_eq_false, Fb.j0, Bool.false_eq_true, if_false, toOrderS_eq (k := 8000002) (l := l) (by omega) hs.1, eqOrderS_refl (k := 8000002) (l := l.map toOrder) (by simp; omega) (by simp; omega), markOrderS_eq (k := 8000002) (l := l.map toOrder) (s := 1) (by simp; omega) hm.1 (by omega), ha1 8000002 (by omega), ha2 8000002 (by omega)]
  rw [if_neg (by omega)]
  simp only [Fb.j1, Bool.false_eq_true, if_false, markStringS_eq (k := 8000001) (l := (clientsM (l.map toOrder)).1) (s := 1) (by omega) (by omega) (by omega), Option.bind_some, markIntS_eq (k := 8000001) (l := (clientsM (l.map toOrder)).2.1) (s := 1 + 1 * ((clientsM (l.map toOrder)).1.length : Int)) (by omega) (by omega) (by omega), heldStringS_eq (k := 8000001) (m := (clientsM (l.map toOrder)).1.length) (s := 1) (by omega) (by omega) (by omega), heldIntS_eq (k := 8000001) (n := (clientsM (l.map toOrder)).2.1.length) (s := 1 + 1 * ((clientsM (l.map toOrder)).1.length : Int)) (by omega) (by omega) (by omega), if_true, toOrderS_eq (k := 8000001) (l := l) (by omega) hs.1, clientsI_eq (k := 8000001) (l := l.map toOrder) (by simp; omega) hm.1, ha1 8000001 (by omega), ha2 8000001 (by omega), bne_self_eq_false]
  rw [if_neg (by omega), if_neg (by omega)]
  simp only [Fb.j2, Bool.false_eq_true, if_false, heldStringS_eq (k := 8000000) (m := (clientsM (l.map toOrder)).1.length) (s := 1) (by omega) (by omega) (by omega), heldIntS_eq (k := 8000000) (n := (clientsM (l.map toOrder)).2.1.length) (s := 1 + 1 * ((clientsM (l.map toOrder)).1.length : Int)) (by omega) (by omega) (by omega), Option.bind_some, if_true]
  rw [if_neg (by omega), if_neg (by omega)]
end Go.Proofs.YtahfahlbdgbfeaaDoor.Pure
