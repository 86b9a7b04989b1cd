/- What the law FnExactClientsByPaid needs, part 3 of 4: what each function of the program that it reaches returns (printed by this session's own program, checked by Lean), and plain mathematics about it. Conditions: those of each theorem. -/
import Derived.Test.YtahfahlbdgbfeaaDoorZFnExactClientsByPaid1
namespace Go.Proofs.YtahfahlbdgbfeaaDoor.X
open Ho (bS eS RS Ak Cs Ct Cd)
open Go.RowKit Go.Proofs.YtahfahlbdgbfeaaDoorW.PrintWords Go.Proofs.YtahfahlbdgbfeaaDoorW.PrintLast Go.Proofs.YtahfahlbdgbfeaaDoorW.PrintMore
attribute [local go_sem] max2_int min2_int max_two min_two max_three min_three max_four min_four   -- for this text's walks alone
set_option linter.unusedVariables false
set_option linter.unusedSimpArgs false
open Sq (I O Z Dz)
/-! ### Fa: function 15 -/
mutual
def Fa.l0 : Nat → List (S41) → List ByteArray → List Int → Int → Option (List ByteArray × List Int × Bool)
  | 0, _, _, _, _ => none
  | k + 1, x0, x5, x6, x7 => if x7 < (x0.length : Int) then (if 0 ≤ x7 then (Fa.l1 k x0 x5 x6 x7 ((rd_T41 x0 x7).f1) false 0) else (none)) else (some (x5, x6, true))
def Fa.l1 : Nat → List (S41) → List ByteArray → List Int → Int → ByteArray → Bool → Int → Option (List ByteArray × List Int × Bool)
  | 0, _, _, _, _, _, _, _ => none
  | k + 1, x0, x5, x6, x7, x8, x9, x10 => if x10 < x7 then (if x9 = true then (Fa.l1 k x0 x5 x6 x7 x8 true (wrap64 (x10 + 1))) else (if 0 ≤ x10 then (if x10 < (x0.length : Int) then (Fa.l1 k x0 x5 x6 x7 x8 (((rd_T41 x0 x10).f1).toList == x8.toList) (wrap64 (x10 + 1))) else (none)) else (none))) else (if x9 = true then (Fa.l0 k x0 x5 x6 (wrap64 (x7 + 1))) else ((Fs.f k x0 x8).bind fun t110 => (Fa.l2 k x0 x5 x6 x7 x8 (x5.length : Int) t110)))
def Fa.l2 : Nat → List (S41) → List ByteArray → List Int → Int → ByteArray → Int → Int → Option (List ByteArray × List Int × Bool)
  | 0, _, _, _, _, _, _, _ => none
  | k + 1, x0, x5, x6, x7, x8, x11, x12 => if x11 > 0 then (if 0 ≤ (wrap64 (x11 - 1)) then (if (wrap64 (x11 - 1)) < (x6.length : Int) then (if (rd x6 (wrap64 (x11 - 1))) < x12 then (Fa.l2 k x0 x5 x6 x7 x8 (wrap64 (x11 - 1)) x12) else (if (rd x6 (wrap64 (x11 - 1))) = x12 then (if (wrap64 (x11 - 1)) < (x5.length : Int) then (if (Op.bytesLess x8.toList ((rdOf ByteArray.empty x5 (wrap64 (x11 - 1))).toList)) = true then (Fa.l2 k x0 x5 x6 x7 x8 (wrap64 (x11 - 1)) x12) else ((some (([] : List ByteArray) : List ByteArray)).bind fun y114 => (if 0 ≤ x11 then (if x11 ≤ (x5.length : Int) then ((some (x5.take (x11 : Int).toNat : List ByteArray)).bind fun y117 => (if y114.length + y117.length < 8796093022208 then ((some (y114 ++ y117 : List ByteArray)).bind fun y121 => ((some (([x8] : List ByteArray) : List ByteArray)).bind fun y124 => (if y121.length + y124.length < 8796093022208 then ((some (y121 ++ y124 : List ByteArray)).bind fun y127 => ((some (x5.drop (x11 : Int).toNat : List ByteArray)).bind fun y130 => (if y127.length + y130.length < 8796093022208 then ((some (([] : List Int) : List Int)).bind fun y137 => (if x11 ≤ (x6.length : Int) then ((some (x6.take (x11 : Int).toNat : List Int)).bind fun y140 => (if y137.length + y140.length < 17592186044416 then ((some (y137 ++ y140 : List Int)).bind fun y144 => ((some (([x12] : List Int) : List Int)).bind fun y147 => (if y144.length + y147.length < 17592186044416 then ((some (y144 ++ y147 : List Int)).bind fun y150 => ((some (x6.drop (x11 : Int).toNat : List Int)).bind fun y153 => (if y150.length + y153.length < 17592186044416 then (Fa.l0 k x0 (y127 ++ y130) (y150 ++ y153) (wrap64 (x7 + 1))) else (none)))) else (none)))) else (none))) else (none))) else (none)))) else (none)))) else (none))) else (none)) else (none)))) else (none)) else ((some (([] : List ByteArray) : List ByteArray)).bind fun y160 => (if 0 ≤ x11 then (if x11 ≤ (x5.length : Int) then ((some (x5.take (x11 : Int).toNat : List ByteArray)).bind fun y163 => (if y160.length + y163.length < 8796093022208 then ((some (y160 ++ y163 : List ByteArray)).bind fun y167 => ((some (([x8] : List ByteArray) : List ByteArray)).bind fun y170 => (if y167.length + y170.length < 8796093022208 then ((some (y167 ++ y170 : List ByteArray)).bind fun y173 => ((some (x5.drop (x11 : Int).toNat : List ByteArray)).bind fun y176 => (if y173.length + y176.length < 8796093022208 then ((some (([] : List Int) : List Int)).bind fun y183 => (if x11 ≤ (x6.length : Int) then ((some (x6.take (x11 : Int).toNat : List Int)).bind fun y186 => (if y183.length + y186.length < 17592186044416 then ((some (y183 ++ y186 : List Int)).bind fun y190 => ((some (([x12] : List Int) : List Int)).bind fun y193 => (if y190.length + y193.length < 17592186044416 then ((some (y190 ++ y193 : List Int)).bind fun y196 => ((some (x6.drop (x11 : Int).toNat : List Int)).bind fun y199 => (if y196.length + y199.length < 17592186044416 then (Fa.l0 k x0 (y173 ++ y176) (y196 ++ y199) (wrap64 (x7 + 1))) else (none)))) else (none)))) else (none))) else (none))) else (none)))) else (none)))) else (none))) else (none)) else (none))))) else (none)) else (none)) else ((some (([] : List ByteArray) : List ByteArray)).bind fun y206 => (if 0 ≤ x11 then (if x11 ≤ (x5.length : Int) then ((some (x5.take (x11 : Int).toNat : List ByteArray)).bind fun y209 => (if y206.length + y209.length < 8796093022208 then ((some (y206 ++ y209 : List ByteArray)).bind fun y213 => ((some (([x8] : List ByteArray) : List ByteArray)).bind fun y216 => (if y213.length + y216.length < 8796093022208 then ((some (y213 ++ y216 : List ByteArray)).bind fun y219 => ((some (x5.drop (x11 : Int).toNat : List ByteArray)).bind fun y222 => (if y219.length + y222.length < 8796093022208 then ((some (([] : List Int) : List Int)).bind fun y229 => (if x11 ≤ (x6.length : Int) then ((some (x6.take (x11 : Int).toNat : List Int)).bind fun y232 => (if y229.length + y232.length < 17592186044416 then ((some (y229 ++ y232 : List Int)).bind fun y236 => ((some (([x12] : List Int) : List Int)).bind fun y239 => (if y236.length + y239.length < 17592186044416 then ((some (y236 ++ y239 : List Int)).bind fun y242 => ((some (x6.drop (x11 : Int).toNat : List Int)).bind fun y245 => (if y242.length + y245.length < 17592186044416 then (Fa.l0 k x0 (y219 ++ y222) (y242 ++ y245) (wrap64 (x7 + 1))) else (none)))) else (none)))) else (none))) else (none))) else (none)))) else (none)))) else (none))) else (none)) else (none)))
end
def Fa.f (k : Nat) (l0 : List (S41)) : Option (List ByteArray × List Int × Bool) := (some (([] : List ByteArray) : List ByteArray)).bind fun y101 => ((some (([] : List Int) : List Int)).bind fun y104 => ((Fj.f k l0).bind fun t107 => (if t107 = true then (Fa.l0 k l0 y101 y104 0) else (some (y101, y104, false)))))
theorem Fa.mono_l : ∀ k, (∀ y0 y1 y2 y3, LeO (Fa.l0 k y0 y1 y2 y3) (Fa.l0 (k + 1) y0 y1 y2 y3)) ∧ (∀ y0 y1 y2 y3 y4 y5 y6, LeO (Fa.l1 k y0 y1 y2 y3 y4 y5 y6) (Fa.l1 (k + 1) y0 y1 y2 y3 y4 y5 y6)) ∧ (∀ y0 y1 y2 y3 y4 y5 y6, LeO (Fa.l2 k y0 y1 y2 y3 y4 y5 y6) (Fa.l2 (k + 1) y0 y1 y2 y3 y4 y5 y6))
  | 0 => ⟨fun _ _ _ _ r h => by simp [Fa.l0] at h, fun _ _ _ _ _ _ _ r h => by simp [Fa.l1] at h, fun _ _ _ _ _ _ _ r h => by simp [Fa.l2] at h⟩
  | k + 1 => by
    obtain ⟨ih0, ih1, ih2⟩ := Fa.mono_l k
    refine ⟨?_, ?_, ?_⟩
    · intro y0 y1 y2 y3
      unfold Fa.l0
      repeat' first | (with_reducible first | exact ih0 _ _ _ _ | exact ih1 _ _ _ _ _ _ _ | exact ih2 _ _ _ _ _ _ _ | exact Fj.mono _ _ | exact Fs.mono _ _ _ | exact LeO.refl _ | exact LeO.none _ | refine LeO.ite ?_ ?_ | refine LeO.bind ?_ (fun _ => ?_)) | exact ih0 _ _ _ _ | exact ih1 _ _ _ _ _ _ _ | exact ih2 _ _ _ _ _ _ _ | exact Fj.mono _ _ | exact Fs.mono _ _ _ | exact LeO.none _ | refine LeO.ite ?_ ?_ | refine LeO.bind ?_ (fun _ => ?_)
    · intro y0 y1 y2 y3 y4 y5 y6
      unfold Fa.l1
      repeat' first | (with_reducible first | exact ih0 _ _ _ _ | exact ih1 _ _ _ _ _ _ _ | exact ih2 _ _ _ _ _ _ _ | exact Fj.mono _ _ | exact Fs.mono _ _ _ | exact LeO.refl _ | exact LeO.none _ | refine LeO.ite ?_ ?_ | refine LeO.bind ?_ (fun _ => ?_)) | exact ih0 _ _ _ _ | exact ih1 _ _ _ _ _ _ _ | exact ih2 _ _ _ _ _ _ _ | exact Fj.mono _ _ | exact Fs.mono _ _ _ | exact LeO.none _ | refine LeO.ite ?_ ?_ | refine LeO.bind ?_ (fun _ => ?_)
    · intro y0 y1 y2 y3 y4 y5 y6
      unfold Fa.l2
      repeat' first | (with_reducible first | exact ih0 _ _ _ _ | exact ih1 _ _ _ _ _ _ _ | exact ih2 _ _ _ _ _ _ _ | exact Fj.mono _ _ | exact Fs.mono _ _ _ | exact LeO.refl _ | exact LeO.none _ | refine LeO.ite ?_ ?_ | refine LeO.bind ?_ (fun _ => ?_)) | exact ih0 _ _ _ _ | exact ih1 _ _ _ _ _ _ _ | exact ih2 _ _ _ _ _ _ _ | exact Fj.mono _ _ | exact Fs.mono _ _ _ | exact LeO.none _ | refine LeO.ite ?_ ?_ | refine LeO.bind ?_ (fun _ => ?_)
theorem Fa.mono : ∀ a0 k, LeO (Fa.f k a0) (Fa.f (k + 1) a0) := by
  intro a0 k
  obtain ⟨ih0, ih1, ih2⟩ := Fa.mono_l k
  unfold Fa.f
  repeat' first | (with_reducible first | exact ih0 _ _ _ _ | exact ih1 _ _ _ _ _ _ _ | exact ih2 _ _ _ _ _ _ _ | exact Fj.mono _ _ | exact Fs.mono _ _ _ | exact LeO.refl _ | exact LeO.none _ | refine LeO.ite ?_ ?_ | refine LeO.bind ?_ (fun _ => ?_)) | exact ih0 _ _ _ _ | exact ih1 _ _ _ _ _ _ _ | exact ih2 _ _ _ _ _ _ _ | exact Fj.mono _ _ | exact Fs.mono _ _ _ | exact LeO.none _ | refine LeO.ite ?_ ?_ | refine LeO.bind ?_ (fun _ => ?_)
def Fa.T16 : Bool × List (List Nat × List Nat) := (true, [([], []), ([], []), ([], []), ([1, 2], [1, 2]), ([0, 3], [0, 3]), ([], []), ([5], [5]), ([4, 6, 4], [4, 6]), ([], []), ([], []), ([8, 9], [8, 9]), ([7, 10, 7], [7, 10]), ([11, 11, 0, 1, 2, 3, 4, 5, 6, 7, 8, 9, 10, 11], [1, 8, 11])])
def Fa.B16 : List Nat := [0, 0, 0, 6, 15, 0, 32, 127, 0, 0, 768, 2047, 4095]
theorem Fa.tab16 : rtab .any (opsOf Tryd.f15 16) = Fa.T16 := by kernel_rfl
theorem Fa.bits16 : waitsOk Fa.T16.2 Fa.B16 = true := by kernel_rfl
def Fa.T17 : Bool × List (List Nat × List Nat) := (true, [([], []), ([], []), ([], []), ([1, 2], [1, 2]), ([0, 3], [0, 3]), ([], []), ([5], [5]), ([4, 6, 4], [4, 6]), ([], []), ([], []), ([8, 9], [8, 9]), ([7, 10, 7], [7, 10]), ([11, 11, 0, 1, 2, 3, 4, 5, 6, 7, 8, 9, 10, 11], [1, 8, 11])])
def Fa.B17 : List Nat := [0, 0, 0, 6, 15, 0, 32, 127, 0, 0, 768, 2047, 4095]
theorem Fa.tab17 : rtab .any (opsOf Tryd.f15 17) = Fa.T17 := by kernel_rfl
theorem Fa.bits17 : waitsOk Fa.T17.2 Fa.B17 = true := by kernel_rfl
theorem Fa.gtrL_ : ∀ x y : List UInt8, (!(Op.bytesLess x y || x == y)) = Op.bytesLess y x
  | [], [] => rfl
  | [], _ :: _ => rfl
  | _ :: _, [] => rfl
  | a :: x, b :: y => by
    have ih := Fa.gtrL_ x y
    simp only [Op.bytesLess]
    rcases Nat.lt_trichotomy a.toNat b.toNat with h | h | h
    · have h1 : a < b := h
      have h2 : ¬ b < a := fun h' => absurd (Nat.lt_trans h h') (Nat.lt_irrefl _)
      have h3 : (b == a) = false := by rw [beq_eq_false_iff_ne]; rintro rfl; exact Nat.lt_irrefl _ h
      simp [h1, h2, h3]
    · have h1 : a = b := UInt8.toNat_inj.mp h
      subst h1
      have h2 : ¬ a < a := fun h' => absurd h' (Nat.lt_irrefl _)
      rw [← ih]; simp [h2]
    · have h1 : b < a := h
      have h2 : ¬ a < b := fun h' => absurd (Nat.lt_trans h h') (Nat.lt_irrefl _)
      have h3 : (a == b) = false := by rw [beq_eq_false_iff_ne]; rintro rfl; exact Nat.lt_irrefl _ h
      simp [h1, h2, h3]
theorem Fa.gtr_ (t : TypeId) (a b : ByteArray) : binOp .gtr t (.string a) (.string b) = pure (.bool (Op.bytesLess b.toList a.toList)) := by
  rw [← Fa.gtrL_]; simp [binOp, Op.stringOp]
attribute [local go_sem] Fa.gtr_
set_option maxHeartbeats 8000000 in
set_option maxRecDepth 100000 in
theorem Fa.calls (k : Nat) (A0 : Option Addr) (c0 : Nat) (l0 : List (S41)) (r1 : List ByteArray) (r2 : List Int) (r3 : Bool) (w : World) (hr0 : Kd.C k41 w A0 l0.length l0) (hc0 : l0.length ≤ c0) (h : Fa.f k l0 = some (r1, r2, r3)) :
  Calls Tryd.prog 15 #[.slice A0 l0.length c0] w fun e w' => ∃ v0_ v1_ : Value, e = .returned (.tuple #[v0_, v1_, .bool r3]) ∧ Kd.R Kd.string 9 w' w.heap.size (fun _ => True) v0_ r1 ∧ Kd.R (Kd.int .i64) 3 w' w.heap.size (fun _ => True) v1_ r2 ∧ Below w.heap.size w w' := by
 have HR0 := Ak hr0
 have HC0 := Ak hc0
 clear hr0 hc0
 have HB := Ak (Below.refl w.heap.size w)
 have H : ((some (([] : List ByteArray) : List ByteArray)).bind fun y101 => ((some (([] : List Int) : List Int)).bind fun y104 => ((Fj.f k l0).bind fun t107 => (if t107 = true then (Fa.l0 k l0 y101 y104 0) else (some (y101, y104, false)))))) = some (r1, r2, r3) := h
 clear h
 obtain ⟨y101, hy101⟩ : ∃ y_ : List ByteArray, y_ = (([] : List ByteArray)) := ⟨_, rfl⟩
 replace H : ((some (([] : List Int) : List Int)).bind fun y104 => ((Fj.f k l0).bind fun t107 => (if t107 = true then (Fa.l0 k l0 y101 y104 0) else (some (y101, y104, false))))) = some (r1, r2, r3) := by first | (rw [hy101]; with_reducible exact H) | (have H2_ := (Option.bind_some _ _).symm.trans H; rw [hy101]; with_reducible exact H2_) | (have H2_ := (Option.bind_some _ _).symm.trans H; with_reducible exact H2_) | with_reducible exact H | (rw [hy101]; exact H) | exact H
 have Ny101 := Ak hy101
 clear hy101
 obtain ⟨y104, hy104⟩ : ∃ y_ : List Int, y_ = (([] : List Int)) := ⟨_, rfl⟩
 replace H : ((Fj.f k l0).bind fun t107 => (if t107 = true then (Fa.l0 k l0 y101 y104 0) else (some (y101, y104, false)))) = some (r1, r2, r3) := by first | (rw [hy104]; with_reducible exact H) | (have H2_ := (Option.bind_some _ _).symm.trans H; rw [hy104]; with_reducible exact H2_) | (have H2_ := (Option.bind_some _ _).symm.trans H; with_reducible exact H2_) | with_reducible exact H | (rw [hy104]; exact H) | exact H
 have Ny104 := Ak hy104
 clear hy104
 replace H := Option.bind_eq_some_iff.mp H
 obtain ⟨t107, A20, H⟩ := H
 (try dsimp only at H)
 have A2 := Ak A20
 clear A20
 by_cases c3 : t107 = true
 rotate_left
 ·replace c3 := Bool.eq_false_iff.mpr c3
  subst c3
  have H1 : (some (y101, y104, false)) = some (r1, r2, r3) := by rw [if_neg (show ¬ (false = true) by decide)] at H; exact H
  clear H
  have H := H1
  clear H1
  simp only [Option.some.injEq, Prod.mk.injEq] at H
  obtain ⟨rfl, rfl, rfl⟩ := H
  go_enter Tryd.func15, Tryd.ntmps15
  go_wp2_with (first | ((with_reducible refine gate_dst (N := 13) rfl ?_); refine Kd.R_lit Kd.string _ 9 ?hg (N := 13) ?hd (xs := ([] : List ByteArray)) (inner := []) (ok := fun _ => True) (okp := fun _ => True) ?hr ?hp (fun _ hk => hk) trivial (Below.refl _ _) (Nat.le_refl _) (by simp) ?_; (case hd => rfl); (case hg => rfl); (case hr => first | (go_simp; done) | (go_simp; rfl)); (case hp => exact (Reps.none _ _)); intro v102 w145 ho146 hb hg_ hnew_; clear hg_ hnew_; (first | rw [← Ny101.out] at ho146 | (simp only [Int.reduceToNat] at ho146; rw [← Ny101.out] at ho146)); have n0_ := Ak (Kd.R_lower ho146 (below_size (by exact eS HB.out))); have n1_ := Ak (below_step (by exact eS HB.out) hb); clear HB; have HO103 := n0_; have HB := n1_; clear n0_ n1_; clear hb ho146) | ((with_reducible refine gate_dst (N := 14) rfl ?_); refine Kd.R_lit (Kd.int .i64) _ 3 ?hg (N := 14) ?hd (xs := ([] : List Int)) (inner := []) (ok := fun _ => True) (okp := fun _ => True) ?hr ?hp (fun _ hk => hk) trivial (Below.refl _ _) (Nat.le_refl _) (by simp) ?_; (case hd => rfl); (case hg => rfl); (case hr => first | (go_simp; done) | (go_simp; rfl)); (case hp => exact (Reps.none _ _)); intro v105 w147 ho148 hb hg_ hnew_; clear hg_ hnew_; (first | rw [← Ny104.out] at ho148 | (simp only [Int.reduceToNat] at ho148; rw [← Ny104.out] at ho148)); have n0_ := Ak (Kd.R_below (by exact RS <| HO103.out) hb); have n1_ := Ak (Kd.R_lower ho148 (below_size (by exact eS HB.out))); have n2_ := Ak (below_step (by exact eS HB.out) hb); clear HO103; clear HB; have HO103 := n0_; have HO106 := n1_; have HB := n2_; clear n0_ n1_ n2_; clear hb ho148) | ((with_reducible refine gate_callee (f := 53) rfl ?_); refine goesL_ (some 16) rfl rfl Tryd.func53 (by kernel_rfl) rfl #[.slice A0 l0.length c0] rfl (by (try simp only [List.map_toArray, List.map_cons, List.map_nil]); first | done | rfl | (simp only [List.length_drop, List.length_take]; rfl)) ?_; (with_reducible refine (Fj.calls k _ _ l0 false _ ?side1 ?side2 A2.out).mono ?_); (case side1 => repeat (first | exact (Kd.C_below HR0.out HB.out) | (with_reducible refine Kd.C_alloc ?_ _) | (with_reducible refine Kd.C_drewN ?_ _) | (with_reducible refine Kd.C_drew ?_))); (case side2 => exact HC0.out); rintro e w149 ⟨rfl, hb⟩; refine ⟨_, rfl, ?_⟩; have n0_ := Ak (Kd.R_below (by exact RS <| HO103.out) hb); have n1_ := Ak (Kd.R_below (by exact RS <| HO106.out) hb); have n2_ := Ak (below_step (by exact eS HB.out) hb); clear HO103; clear HO106; clear HB; have HO103 := n0_; have HO106 := n1_; have HB := n2_; clear n0_ n1_ n2_; (try clear hb); (try clear hb2); (try clear hk); (try clear hi)))
  go_ret3
  exact ⟨_, _, by first | rfl | (simp [errW_none, errW_some] <;> rfl) | (simp [*, errW_none, errW_some] <;> rfl), by exact RS <| HO103.out, by exact RS <| HO106.out, by exact eS HB.out⟩
 subst c3
 have H1 : (Fa.l0 k l0 y101 y104 0) = some (r1, r2, r3) := by rw [if_pos rfl] at H; exact H
 clear H
 have H := H1
 clear H1
 have H' := Ak H
 clear H
 go_enter Tryd.func15, Tryd.ntmps15
 go_wp2_with (first | ((with_reducible refine gate_dst (N := 13) rfl ?_); refine Kd.R_lit Kd.string _ 9 ?hg (N := 13) ?hd (xs := ([] : List ByteArray)) (inner := []) (ok := fun _ => True) (okp := fun _ => True) ?hr ?hp (fun _ hk => hk) trivial (Below.refl _ _) (Nat.le_refl _) (by simp) ?_; (case hd => rfl); (case hg => rfl); (case hr => first | (go_simp; done) | (go_simp; rfl)); (case hp => exact (Reps.none _ _)); intro v102 w4 ho5 hb hg_ hnew_; clear hg_ hnew_; (first | rw [← Ny101.out] at ho5 | (simp only [Int.reduceToNat] at ho5; rw [← Ny101.out] at ho5)); have n0_ := Ak (Kd.R_lower ho5 (below_size (by exact eS HB.out))); have n1_ := Ak (below_step (by exact eS HB.out) hb); clear HB; have HO103 := n0_; have HB := n1_; clear n0_ n1_; clear hb ho5) | ((with_reducible refine gate_dst (N := 14) rfl ?_); refine Kd.R_lit (Kd.int .i64) _ 3 ?hg (N := 14) ?hd (xs := ([] : List Int)) (inner := []) (ok := fun _ => True) (okp := fun _ => True) ?hr ?hp (fun _ hk => hk) trivial (Below.refl _ _) (Nat.le_refl _) (by simp) ?_; (case hd => rfl); (case hg => rfl); (case hr => first | (go_simp; done) | (go_simp; rfl)); (case hp => exact (Reps.none _ _)); intro v105 w6 ho7 hb hg_ hnew_; clear hg_ hnew_; (first | rw [← Ny104.out] at ho7 | (simp only [Int.reduceToNat] at ho7; rw [← Ny104.out] at ho7)); have n0_ := Ak (Kd.R_below (by exact RS <| HO103.out) hb); have n1_ := Ak (Kd.R_lower ho7 (below_size (by exact eS HB.out))); have n2_ := Ak (below_step (by exact eS HB.out) hb); clear HO103; clear HB; have HO103 := n0_; have HO106 := n1_; have HB := n2_; clear n0_ n1_ n2_; clear hb ho7) | ((with_reducible refine gate_callee (f := 53) rfl ?_); refine goesL_ (some 16) rfl rfl Tryd.func53 (by kernel_rfl) rfl #[.slice A0 l0.length c0] rfl (by (try simp only [List.map_toArray, List.map_cons, List.map_nil]); first | done | rfl | (simp only [List.length_drop, List.length_take]; rfl)) ?_; (with_reducible refine (Fj.calls k _ _ l0 true _ ?side1 ?side2 A2.out).mono ?_); (case side1 => repeat (first | exact (Kd.C_below HR0.out HB.out) | (with_reducible refine Kd.C_alloc ?_ _) | (with_reducible refine Kd.C_drewN ?_ _) | (with_reducible refine Kd.C_drew ?_))); (case side2 => exact HC0.out); rintro e w8 ⟨rfl, hb⟩; refine ⟨_, rfl, ?_⟩; have n0_ := Ak (Kd.R_below (by exact RS <| HO103.out) hb); have n1_ := Ak (Kd.R_below (by exact RS <| HO106.out) hb); have n2_ := Ak (below_step (by exact eS HB.out) hb); clear HO103; clear HO106; clear HB; have HO103 := n0_; have HO106 := n1_; have HB := n2_; clear n0_ n1_ n2_; (try clear hb); (try clear hb2); (try clear hk); (try clear hi)))
 go_loopg [5, 6, 7] k (fun kq v5 v6 v7 w' => ∃ (x5_1 : List ByteArray) (x6_1 : List Int) (x7_1 : Int), v7 = .int .i64 x7_1 ∧ Aside0 (Fa.l0 kq l0 x5_1 x6_1 x7_1 = some (r1, r2, r3)) ∧ Aside0 (kq ≤ k) ∧ Aside0 (Kd.R Kd.string 9 w' w.heap.size (fun _ => True) v5 x5_1) ∧ Aside0 (Kd.R (Kd.int .i64) 3 w' w.heap.size (fun _ => True) v6 x6_1) ∧ Aside0 (Below w.heap.size w w'))
 case atStart => exact ⟨(y101), (y104), (0), (by first | rfl | (simp; done) | (simp [*]; done)), H', ⟨Nat.le_refl _⟩, ⟨by exact RS <| HO103.out⟩, ⟨by exact RS <| HO106.out⟩, ⟨by exact eS HB.out⟩⟩
 case round =>
  clear H'
  try clear c1
  try clear p2
  try clear c3
  try clear c5
  obtain ⟨x5_1, x6_1, x7_1, rfl, HA, HK1, HO_5, HO_6, HB⟩ := hrel
  cases gk with
  | zero => exact absurd HA.out (by simp [Fa.l0])
  | succ k1 =>
   have H := HA.out
   clear HA
   simp only [Fa.l0] at H
   by_cases c9 : x7_1 < (l0.length : Int)
   rotate_left
   ·rw [if_neg c9] at H
    have c9b0 : decide (x7_1 < (l0.length : Int)) = false := decide_eq_false c9
    clear c9
    simp only [Option.some.injEq, Prod.mk.injEq] at H
    obtain ⟨rfl, rfl, rfl⟩ := H
    go_wp2
    go_ret3
    exact ⟨_, _, by first | rfl | (simp [errW_none, errW_some] <;> rfl) | (simp [*, errW_none, errW_some] <;> rfl), by exact RS <| HO_5.out, by exact RS <| HO_6.out, by exact eS HB.out⟩
   rw [if_pos c9] at H
   have c9b0 : decide (x7_1 < (l0.length : Int)) = true := decide_eq_true c9
   clear c9
   by_cases c10 : 0 ≤ x7_1
   rotate_left
   ·rw [if_neg c10] at H
    exact absurd H (by simp)
   rw [if_pos c10] at H
   have c10b0 : decide (0 ≤ x7_1) = true := decide_eq_true c10
   clear c10
   have H' := Ak H
   clear H
   have p108 : 0 ≤ (x7_1 : Int) := Dz
   have q108 : x7_1 < (l0.length : Int) := Dz
   obtain ⟨ad108, e108, hx108_0, hx108_1, hx108_2, hx108_3, hx108_4, hx108_5, hx108_6, hx108_7⟩ := at_T41 HR0.out x7_1 p108 q108
   cases e108
   replace hx108_0 := Sq.cB HB.out hx108_0
   replace hx108_1 := Sq.cB HB.out hx108_1
   replace hx108_2 := Sq.cB HB.out hx108_2
   replace hx108_3 := Sq.cB HB.out hx108_3
   replace hx108_4 := Sq.cB HB.out hx108_4
   replace hx108_5 := Sq.cB HB.out hx108_5
   replace hx108_6 := Sq.cB HB.out hx108_6
   replace hx108_7 := Sq.cB HB.out hx108_7
   replace p108 := eq_true p108; replace q108 := eq_true q108
   go_wp2
   go_loopg [9, 10] k1 (fun kq v9 v10 w' => ∃ (x9_2 : Bool) (x10_2 : Int), v9 = .bool x9_2 ∧ v10 = .int .i64 x10_2 ∧ Aside0 (Fa.l1 kq l0 x5_1 x6_1 x7_1 ((rd_T41 l0 x7_1).f1) x9_2 x10_2 = some (r1, r2, r3)) ∧ Aside0 (kq ≤ k1) ∧ Aside0 (Kd.R Kd.string 9 w' w.heap.size (fun _ => True) u5 x5_1) ∧ Aside0 (Kd.R (Kd.int .i64) 3 w' w.heap.size (fun _ => True) u6 x6_1) ∧ Aside0 (Below w.heap.size w w'))
   case atStart => exact ⟨(false), (0), (by first | rfl | (simp; done) | (simp [*]; done)), (by first | rfl | (simp; done) | (simp [*]; done)), H', ⟨Nat.le_refl _⟩, ⟨by exact RS <| HO_5.out⟩, ⟨by exact RS <| HO_6.out⟩, ⟨by exact eS HB.out⟩⟩
   case round =>
    clear H'
    try clear c1
    try clear p1
    try clear q1
    try clear hx1
    try clear p2
    try clear c3
    try clear c5
    try clear c9
    try clear c9b0
    try clear c10
    try clear c10b0
    try clear p10
    try clear q10
    try clear hx10
    try clear hx108_0
    try clear hx108_1
    try clear hx108_2
    try clear hx108_3
    try clear hx108_4
    try clear hx108_5
    try clear hx108_6
    try clear hx108_7
    try clear p108
    try clear p2
    try clear q108
    obtain ⟨x9_2, x10_2, rfl, rfl, HA, HK2, HO_5, HO_6, HB⟩ := hrel
    cases gk with
    | zero => exact absurd HA.out (by simp [Fa.l1])
    | succ k2 =>
     have H := HA.out
     clear HA
     simp only [Fa.l1] at H
     by_cases c11 : x10_2 < x7_1
     ·rw [if_pos c11] at H
      have c11b0 : decide (x10_2 < x7_1) = true := decide_eq_true c11
      clear c11
      by_cases c12 : x9_2 = true
      ·subst c12
       have H1 : (Fa.l1 k2 l0 x5_1 x6_1 x7_1 ((rd_T41 l0 x7_1).f1) true (wrap64 (x10_2 + 1))) = some (r1, r2, r3) := by rw [if_pos rfl] at H; exact H
       clear H
       have H := H1
       clear H1
       have H' := Ak H
       clear H
       go_wp2
       go_roundg k2
       case measure => have := HK1.out; have := HK2.out; omega
       case rel => exact ⟨(true), (wrap64 (x10_2 + 1)), (by first | rfl | (simp; done) | (simp [*]; done)), (by first | rfl | (simp; done) | (simp [*]; done)), H', ⟨by have := HK1.out; have := HK2.out; omega⟩, ⟨by exact RS <| HO_5.out⟩, ⟨by exact RS <| HO_6.out⟩, ⟨by exact eS HB.out⟩⟩
      replace c12 := Bool.eq_false_iff.mpr c12
      subst c12
      have H1 : (if 0 ≤ x10_2 then (if x10_2 < (l0.length : Int) then (Fa.l1 k2 l0 x5_1 x6_1 x7_1 ((rd_T41 l0 x7_1).f1) (((rd_T41 l0 x10_2).f1).toList == ((rd_T41 l0 x7_1).f1).toList) (wrap64 (x10_2 + 1))) else (none)) else (none)) = some (r1, r2, r3) := by rw [if_neg (show ¬ (false = true) by decide)] at H; exact H
      clear H
      have H := H1
      clear H1
      by_cases c13 : 0 ≤ x10_2
      rotate_left
      ·rw [if_neg c13] at H
       exact absurd H (by simp)
      rw [if_pos c13] at H
      have c13b0 : decide (0 ≤ x10_2) = true := decide_eq_true c13
      clear c13
      by_cases c14 : x10_2 < (l0.length : Int)
      rotate_left
      ·rw [if_neg c14] at H
       exact absurd H (by simp)
      rw [if_pos c14] at H
      have c14b0 : decide (x10_2 < (l0.length : Int)) = true := decide_eq_true c14
      clear c14
      have H' := Ak H
      clear H
      have p109 : 0 ≤ (x10_2 : Int) := Dz
      have q109 : x10_2 < (l0.length : Int) := Dz
      obtain ⟨ad109, e109, hx109_0, hx109_1, hx109_2, hx109_3, hx109_4, hx109_5, hx109_6, hx109_7⟩ := at_T41 HR0.out x10_2 p109 q109
      obtain rfl : ad108 = ad109 := (by injection e109)
      replace hx109_0 := Sq.cB HB.out hx109_0
      replace hx109_1 := Sq.cB HB.out hx109_1
      replace hx109_2 := Sq.cB HB.out hx109_2
      replace hx109_3 := Sq.cB HB.out hx109_3
      replace hx109_4 := Sq.cB HB.out hx109_4
      replace hx109_5 := Sq.cB HB.out hx109_5
      replace hx109_6 := Sq.cB HB.out hx109_6
      replace hx109_7 := Sq.cB HB.out hx109_7
      replace p109 := eq_true p109; replace q109 := eq_true q109
      go_wp2
      go_roundg k2
      case measure => have := HK1.out; have := HK2.out; omega
      case rel => exact ⟨((((rd_T41 l0 x10_2).f1).toList == ((rd_T41 l0 x7_1).f1).toList)), (wrap64 (x10_2 + 1)), (by first | rfl | (simp; done) | (simp [*]; done)), (by first | rfl | (simp; done) | (simp [*]; done)), H', ⟨by have := HK1.out; have := HK2.out; omega⟩, ⟨by exact RS <| HO_5.out⟩, ⟨by exact RS <| HO_6.out⟩, ⟨by exact eS HB.out⟩⟩
     rw [if_neg c11] at H
     have c11b0 : decide (x10_2 < x7_1) = false := decide_eq_false c11
     clear c11
     by_cases c15 : x9_2 = true
     ·subst c15
      have H1 : (Fa.l0 k2 l0 x5_1 x6_1 (wrap64 (x7_1 + 1))) = some (r1, r2, r3) := by rw [if_pos rfl] at H; exact H
      clear H
      have H := H1
      clear H1
      have H' := Ak H
      clear H
      go_wp2
      go_roundg k2
      case measure => have := HK1.out; have := HK2.out; omega
      case rel => exact ⟨(x5_1), (x6_1), (wrap64 (x7_1 + 1)), (by first | rfl | (simp; done) | (simp [*]; done)), H', ⟨by have := HK1.out; have := HK2.out; omega⟩, ⟨by exact RS <| HO_5.out⟩, ⟨by exact RS <| HO_6.out⟩, ⟨by exact eS HB.out⟩⟩
     replace c15 := Bool.eq_false_iff.mpr c15
     subst c15
     have H1 : ((Fs.f k2 l0 ((rd_T41 l0 x7_1).f1)).bind fun t110 => (Fa.l2 k2 l0 x5_1 x6_1 x7_1 ((rd_T41 l0 x7_1).f1) (x5_1.length : Int) t110)) = some (r1, r2, r3) := by rw [if_neg (show ¬ (false = true) by decide)] at H; exact H
     clear H
     have H := H1
     clear H1
     replace H := Option.bind_eq_some_iff.mp H
     obtain ⟨t110, A160, H⟩ := H
     (try dsimp only at H)
     have A16 := Ak A160
     clear A160
     have H' := Ak H
     clear H
     obtain ⟨Ao17, co17, eo17⟩ := Kd.R_slice HO_5.out
     subst eo17
     go_wp2_with (first | ((with_reducible refine gate_callee (f := 54) rfl ?_); refine goesL_ (some 51) rfl rfl Tryd.func54 (by kernel_rfl) rfl #[.slice (some ad108) l0.length c0, .string ((rd_T41 l0 x7_1).f1)] rfl (by (try simp only [List.map_toArray, List.map_cons, List.map_nil]); first | done | rfl | (simp only [List.length_drop, List.length_take]; rfl)) ?_; (with_reducible refine (Fs.calls k2 _ _ l0 ((rd_T41 l0 x7_1).f1) t110 _ ?side1 ?side2 A16.out).mono ?_); (case side1 => repeat (first | exact (Kd.C_below HR0.out HB.out) | (with_reducible refine Kd.C_alloc ?_ _) | (with_reducible refine Kd.C_drewN ?_ _) | (with_reducible refine Kd.C_drew ?_))); (case side2 => exact HC0.out); rintro e w' ⟨rfl, ⟨nd, rfl⟩⟩; refine ⟨_, rfl, ?_⟩))
     go_loopg [11] k2 (fun kq v11 w' => ∃ (x11_3 : Int), v11 = .int .i64 x11_3 ∧ Aside0 (Fa.l2 kq l0 x5_1 x6_1 x7_1 ((rd_T41 l0 x7_1).f1) x11_3 t110 = some (r1, r2, r3)) ∧ Aside0 (kq ≤ k2) ∧ Aside0 (Kd.R Kd.string 9 w' w.heap.size (fun _ => True) (.slice Ao17 x5_1.length co17) x5_1) ∧ Aside0 (Kd.R (Kd.int .i64) 3 w' w.heap.size (fun _ => True) u6 x6_1) ∧ Aside0 (Below w.heap.size w w'))
     case atStart => exact ⟨((x5_1.length : Int)), (by first | rfl | (simp; done) | (simp [*]; done)), H', ⟨Nat.le_refl _⟩, ⟨by exact RS <| HO_5.out⟩, ⟨by exact RS <| HO_6.out⟩, ⟨by exact eS HB.out⟩⟩
     case round =>
      clear H'
      try clear c1
      try clear p1
      try clear q1
      try clear hx1
      try clear p2
      try clear c3
      try clear c5
      try clear p6
      try clear c9
      try clear c9b0
      try clear c10
      try clear c10b0
      try clear p10
      try clear q10
      try clear hx10
      try clear c11
      try clear c11b0
      try clear c12
      try clear c13
      try clear c13b0
      try clear c14
      try clear c14b0
      try clear c15
      try clear hx108_0
      try clear hx108_1
      try clear hx108_2
      try clear hx108_3
      try clear hx108_4
      try clear hx108_5
      try clear hx108_6
      try clear hx108_7
      try clear hx109_0
      try clear hx109_1
      try clear hx109_2
      try clear hx109_3
      try clear hx109_4
      try clear hx109_5
      try clear hx109_6
      try clear hx109_7
      try clear p1
      try clear p10
      try clear p108
      try clear p109
      try clear p2
      try clear q1
      try clear q10
      try clear q108
      try clear q109
      obtain ⟨x11_3, rfl, HA, HK3, HO_5, HO_6, HB⟩ := hrel
      cases gk with
      | zero => exact absurd HA.out (by simp [Fa.l2])
      | succ k3 =>
       have H := HA.out
       clear HA
       simp only [Fa.l2] at H
       by_cases c18 : x11_3 > 0
       rotate_left
       ·rw [if_neg c18] at H
        have c18b0 : decide (0 < x11_3) = false := decide_eq_false c18
        clear c18
        obtain ⟨y206, hy206⟩ : ∃ y_ : List ByteArray, y_ = (([] : List ByteArray)) := ⟨_, rfl⟩
        replace H : (if 0 ≤ x11_3 then (if x11_3 ≤ (x5_1.length : Int) then ((some (x5_1.take (x11_3 : Int).toNat : List ByteArray)).bind fun y209 => (if y206.length + y209.length < 8796093022208 then ((some (y206 ++ y209 : List ByteArray)).bind fun y213 => ((some (([((rd_T41 l0 x7_1).f1)] : List ByteArray) : List ByteArray)).bind fun y216 => (if y213.length + y216.length < 8796093022208 then ((some (y213 ++ y216 : List ByteArray)).bind fun y219 => ((some (x5_1.drop (x11_3 : Int).toNat : List ByteArray)).bind fun y222 => (if y219.length + y222.length < 8796093022208 then ((some (([] : List Int) : List Int)).bind fun y229 => (if x11_3 ≤ (x6_1.length : Int) then ((some (x6_1.take (x11_3 : Int).toNat : List Int)).bind fun y232 => (if y229.length + y232.length < 17592186044416 then ((some (y229 ++ y232 : List Int)).bind fun y236 => ((some (([t110] : List Int) : List Int)).bind fun y239 => (if y236.length + y239.length < 17592186044416 then ((some (y236 ++ y239 : List Int)).bind fun y242 => ((some (x6_1.drop (x11_3 : Int).toNat : List Int)).bind fun y245 => (if y242.length + y245.length < 17592186044416 then (Fa.l0 k3 l0 (y219 ++ y222) (y242 ++ y245) (wrap64 (x7_1 + 1))) else (none)))) else (none)))) else (none))) else (none))) else (none)))) else (none)))) else (none))) else (none)) else (none)) = some (r1, r2, r3) := by first | (rw [hy206]; with_reducible exact H) | (have H2_ := (Option.bind_some _ _).symm.trans H; rw [hy206]; with_reducible exact H2_) | (have H2_ := (Option.bind_some _ _).symm.trans H; with_reducible exact H2_) | with_reducible exact H | (rw [hy206]; exact H) | exact H
        have Ny206 := Ak hy206
        clear hy206
        by_cases c106 : 0 ≤ x11_3
        rotate_left
        ·rw [if_neg c106] at H
         exact absurd H (by simp)
        rw [if_pos c106] at H
        have c106b0 := eq_true c106
        have c106b1 : decide (0 ≤ x11_3) = true := decide_eq_true c106
        clear c106
        by_cases c107 : x11_3 ≤ (x5_1.length : Int)
        rotate_left
        ·rw [if_neg c107] at H
         exact absurd H (by simp)
        rw [if_pos c107] at H
        have c107b0 := eq_true c107
        have c107b1 : decide (x11_3 ≤ (x5_1.length : Int)) = true := decide_eq_true c107
        clear c107
        obtain ⟨y209, hy209⟩ : ∃ y_ : List ByteArray, y_ = (x5_1.take (x11_3 : Int).toNat) := ⟨_, rfl⟩
        replace H : (if y206.length + y209.length < 8796093022208 then ((some (y206 ++ y209 : List ByteArray)).bind fun y213 => ((some (([((rd_T41 l0 x7_1).f1)] : List ByteArray) : List ByteArray)).bind fun y216 => (if y213.length + y216.length < 8796093022208 then ((some (y213 ++ y216 : List ByteArray)).bind fun y219 => ((some (x5_1.drop (x11_3 : Int).toNat : List ByteArray)).bind fun y222 => (if y219.length + y222.length < 8796093022208 then ((some (([] : List Int) : List Int)).bind fun y229 => (if x11_3 ≤ (x6_1.length : Int) then ((some (x6_1.take (x11_3 : Int).toNat : List Int)).bind fun y232 => (if y229.length + y232.length < 17592186044416 then ((some (y229 ++ y232 : List Int)).bind fun y236 => ((some (([t110] : List Int) : List Int)).bind fun y239 => (if y236.length + y239.length < 17592186044416 then ((some (y236 ++ y239 : List Int)).bind fun y242 => ((some (x6_1.drop (x11_3 : Int).toNat : List Int)).bind fun y245 => (if y242.length + y245.length < 17592186044416 then (Fa.l0 k3 l0 (y219 ++ y222) (y242 ++ y245) (wrap64 (x7_1 + 1))) else (none)))) else (none)))) else (none))) else (none))) else (none)))) else (none)))) else (none)) = some (r1, r2, r3) := by first | (rw [hy209]; with_reducible exact H) | (have H2_ := (Option.bind_some _ _).symm.trans H; rw [hy209]; with_reducible exact H2_) | (have H2_ := (Option.bind_some _ _).symm.trans H; with_reducible exact H2_) | with_reducible exact H | (rw [hy209]; exact H) | exact H
        have Ny209 := Ak hy209
        clear hy209
        by_cases c108 : y206.length + y209.length < 8796093022208
        rotate_left
        ·rw [if_neg c108] at H
         exact absurd H (by simp)
        rw [if_pos c108] at H
        have LMc108 := Ak c108
        clear c108
        obtain ⟨y213, hy213⟩ : ∃ y_ : List ByteArray, y_ = (y206 ++ y209) := ⟨_, rfl⟩
        replace H : ((some (([((rd_T41 l0 x7_1).f1)] : List ByteArray) : List ByteArray)).bind fun y216 => (if y213.length + y216.length < 8796093022208 then ((some (y213 ++ y216 : List ByteArray)).bind fun y219 => ((some (x5_1.drop (x11_3 : Int).toNat : List ByteArray)).bind fun y222 => (if y219.length + y222.length < 8796093022208 then ((some (([] : List Int) : List Int)).bind fun y229 => (if x11_3 ≤ (x6_1.length : Int) then ((some (x6_1.take (x11_3 : Int).toNat : List Int)).bind fun y232 => (if y229.length + y232.length < 17592186044416 then ((some (y229 ++ y232 : List Int)).bind fun y236 => ((some (([t110] : List Int) : List Int)).bind fun y239 => (if y236.length + y239.length < 17592186044416 then ((some (y236 ++ y239 : List Int)).bind fun y242 => ((some (x6_1.drop (x11_3 : Int).toNat : List Int)).bind fun y245 => (if y242.length + y245.length < 17592186044416 then (Fa.l0 k3 l0 (y219 ++ y222) (y242 ++ y245) (wrap64 (x7_1 + 1))) else (none)))) else (none)))) else (none))) else (none))) else (none)))) else (none))) = some (r1, r2, r3) := by first | (rw [hy213]; with_reducible exact H) | (have H2_ := (Option.bind_some _ _).symm.trans H; rw [hy213]; with_reducible exact H2_) | (have H2_ := (Option.bind_some _ _).symm.trans H; with_reducible exact H2_) | with_reducible exact H | (rw [hy213]; exact H) | exact H
        have Ny213 := Ak hy213
        clear hy213
        obtain ⟨y216, hy216⟩ : ∃ y_ : List ByteArray, y_ = (([((rd_T41 l0 x7_1).f1)] : List ByteArray)) := ⟨_, rfl⟩
        replace H : (if y213.length + y216.length < 8796093022208 then ((some (y213 ++ y216 : List ByteArray)).bind fun y219 => ((some (x5_1.drop (x11_3 : Int).toNat : List ByteArray)).bind fun y222 => (if y219.length + y222.length < 8796093022208 then ((some (([] : List Int) : List Int)).bind fun y229 => (if x11_3 ≤ (x6_1.length : Int) then ((some (x6_1.take (x11_3 : Int).toNat : List Int)).bind fun y232 => (if y229.length + y232.length < 17592186044416 then ((some (y229 ++ y232 : List Int)).bind fun y236 => ((some (([t110] : List Int) : List Int)).bind fun y239 => (if y236.length + y239.length < 17592186044416 then ((some (y236 ++ y239 : List Int)).bind fun y242 => ((some (x6_1.drop (x11_3 : Int).toNat : List Int)).bind fun y245 => (if y242.length + y245.length < 17592186044416 then (Fa.l0 k3 l0 (y219 ++ y222) (y242 ++ y245) (wrap64 (x7_1 + 1))) else (none)))) else (none)))) else (none))) else (none))) else (none)))) else (none)) = some (r1, r2, r3) := by first | (rw [hy216]; with_reducible exact H) | (have H2_ := (Option.bind_some _ _).symm.trans H; rw [hy216]; with_reducible exact H2_) | (have H2_ := (Option.bind_some _ _).symm.trans H; with_reducible exact H2_) | with_reducible exact H | (rw [hy216]; exact H) | exact H
        have Ny216 := Ak hy216
        clear hy216
        by_cases c109 : y213.length + y216.length < 8796093022208
        rotate_left
        ·rw [if_neg c109] at H
         exact absurd H (by simp)
        rw [if_pos c109] at H
        have LMc109 := Ak c109
        clear c109
        obtain ⟨y219, hy219⟩ : ∃ y_ : List ByteArray, y_ = (y213 ++ y216) := ⟨_, rfl⟩
        replace H : ((some (x5_1.drop (x11_3 : Int).toNat : List ByteArray)).bind fun y222 => (if y219.length + y222.length < 8796093022208 then ((some (([] : List Int) : List Int)).bind fun y229 => (if x11_3 ≤ (x6_1.length : Int) then ((some (x6_1.take (x11_3 : Int).toNat : List Int)).bind fun y232 => (if y229.length + y232.length < 17592186044416 then ((some (y229 ++ y232 : List Int)).bind fun y236 => ((some (([t110] : List Int) : List Int)).bind fun y239 => (if y236.length + y239.length < 17592186044416 then ((some (y236 ++ y239 : List Int)).bind fun y242 => ((some (x6_1.drop (x11_3 : Int).toNat : List Int)).bind fun y245 => (if y242.length + y245.length < 17592186044416 then (Fa.l0 k3 l0 (y219 ++ y222) (y242 ++ y245) (wrap64 (x7_1 + 1))) else (none)))) else (none)))) else (none))) else (none))) else (none))) = some (r1, r2, r3) := by first | (rw [hy219]; with_reducible exact H) | (have H2_ := (Option.bind_some _ _).symm.trans H; rw [hy219]; with_reducible exact H2_) | (have H2_ := (Option.bind_some _ _).symm.trans H; with_reducible exact H2_) | with_reducible exact H | (rw [hy219]; exact H) | exact H
        have Ny219 := Ak hy219
        clear hy219
        have c110b0 := eq_true (Dz : 0 ≤ x11_3)
        have c111b0 := eq_true (Dz : x11_3 ≤ (x5_1.length : Int))
        obtain ⟨y222, hy222⟩ : ∃ y_ : List ByteArray, y_ = (x5_1.drop (x11_3 : Int).toNat) := ⟨_, rfl⟩
        replace H : (if y219.length + y222.length < 8796093022208 then ((some (([] : List Int) : List Int)).bind fun y229 => (if x11_3 ≤ (x6_1.length : Int) then ((some (x6_1.take (x11_3 : Int).toNat : List Int)).bind fun y232 => (if y229.length + y232.length < 17592186044416 then ((some (y229 ++ y232 : List Int)).bind fun y236 => ((some (([t110] : List Int) : List Int)).bind fun y239 => (if y236.length + y239.length < 17592186044416 then ((some (y236 ++ y239 : List Int)).bind fun y242 => ((some (x6_1.drop (x11_3 : Int).toNat : List Int)).bind fun y245 => (if y242.length + y245.length < 17592186044416 then (Fa.l0 k3 l0 (y219 ++ y222) (y242 ++ y245) (wrap64 (x7_1 + 1))) else (none)))) else (none)))) else (none))) else (none))) else (none)) = some (r1, r2, r3) := by first | (rw [hy222]; with_reducible exact H) | (have H2_ := (Option.bind_some _ _).symm.trans H; rw [hy222]; with_reducible exact H2_) | (have H2_ := (Option.bind_some _ _).symm.trans H; with_reducible exact H2_) | with_reducible exact H | (rw [hy222]; exact H) | exact H
        have Ny222 := Ak hy222
        clear hy222
        by_cases c112 : y219.length + y222.length < 8796093022208
        rotate_left
        ·rw [if_neg c112] at H
         exact absurd H (by simp)
        rw [if_pos c112] at H
        have LMc112 := Ak c112
        clear c112
        obtain ⟨y226, hy226⟩ : ∃ y_ : List ByteArray, y_ = (y219 ++ y222) := ⟨_, rfl⟩
        replace H : ((some (([] : List Int) : List Int)).bind fun y229 => (if x11_3 ≤ (x6_1.length : Int) then ((some (x6_1.take (x11_3 : Int).toNat : List Int)).bind fun y232 => (if y229.length + y232.length < 17592186044416 then ((some (y229 ++ y232 : List Int)).bind fun y236 => ((some (([t110] : List Int) : List Int)).bind fun y239 => (if y236.length + y239.length < 17592186044416 then ((some (y236 ++ y239 : List Int)).bind fun y242 => ((some (x6_1.drop (x11_3 : Int).toNat : List Int)).bind fun y245 => (if y242.length + y245.length < 17592186044416 then (Fa.l0 k3 l0 y226 (y242 ++ y245) (wrap64 (x7_1 + 1))) else (none)))) else (none)))) else (none))) else (none))) = some (r1, r2, r3) := by first | (rw [hy226]; with_reducible exact H) | (have H2_ := (Option.bind_some _ _).symm.trans H; rw [hy226]; with_reducible exact H2_) | (have H2_ := (Option.bind_some _ _).symm.trans H; with_reducible exact H2_) | with_reducible exact H | (rw [hy226]; exact H) | exact H
        have Ny226 := Ak hy226
        clear hy226
        obtain ⟨y229, hy229⟩ : ∃ y_ : List Int, y_ = (([] : List Int)) := ⟨_, rfl⟩
        replace H : (if x11_3 ≤ (x6_1.length : Int) then ((some (x6_1.take (x11_3 : Int).toNat : List Int)).bind fun y232 => (if y229.length + y232.length < 17592186044416 then ((some (y229 ++ y232 : List Int)).bind fun y236 => ((some (([t110] : List Int) : List Int)).bind fun y239 => (if y236.length + y239.length < 17592186044416 then ((some (y236 ++ y239 : List Int)).bind fun y242 => ((some (x6_1.drop (x11_3 : Int).toNat : List Int)).bind fun y245 => (if y242.length + y245.length < 17592186044416 then (Fa.l0 k3 l0 y226 (y242 ++ y245) (wrap64 (x7_1 + 1))) else (none)))) else (none)))) else (none))) else (none)) = some (r1, r2, r3) := by first | (rw [hy229]; with_reducible exact H) | (have H2_ := (Option.bind_some _ _).symm.trans H; rw [hy229]; with_reducible exact H2_) | (have H2_ := (Option.bind_some _ _).symm.trans H; with_reducible exact H2_) | with_reducible exact H | (rw [hy229]; exact H) | exact H
        have Ny229 := Ak hy229
        clear hy229
        have c113b0 := eq_true (Dz : 0 ≤ x11_3)
        by_cases c114 : x11_3 ≤ (x6_1.length : Int)
        rotate_left
        ·rw [if_neg c114] at H
         exact absurd H (by simp)
        rw [if_pos c114] at H
        have c114b0 := eq_true c114
        have c114b1 : decide (x11_3 ≤ (x6_1.length : Int)) = true := decide_eq_true c114
        clear c114
        obtain ⟨y232, hy232⟩ : ∃ y_ : List Int, y_ = (x6_1.take (x11_3 : Int).toNat) := ⟨_, rfl⟩
        replace H : (if y229.length + y232.length < 17592186044416 then ((some (y229 ++ y232 : List Int)).bind fun y236 => ((some (([t110] : List Int) : List Int)).bind fun y239 => (if y236.length + y239.length < 17592186044416 then ((some (y236 ++ y239 : List Int)).bind fun y242 => ((some (x6_1.drop (x11_3 : Int).toNat : List Int)).bind fun y245 => (if y242.length + y245.length < 17592186044416 then (Fa.l0 k3 l0 y226 (y242 ++ y245) (wrap64 (x7_1 + 1))) else (none)))) else (none)))) else (none)) = some (r1, r2, r3) := by first | (rw [hy232]; with_reducible exact H) | (have H2_ := (Option.bind_some _ _).symm.trans H; rw [hy232]; with_reducible exact H2_) | (have H2_ := (Option.bind_some _ _).symm.trans H; with_reducible exact H2_) | with_reducible exact H | (rw [hy232]; exact H) | exact H
        have Ny232 := Ak hy232
        clear hy232
        by_cases c115 : y229.length + y232.length < 17592186044416
        rotate_left
        ·rw [if_neg c115] at H
         exact absurd H (by simp)
        rw [if_pos c115] at H
        have LMc115 := Ak c115
        clear c115
        obtain ⟨y236, hy236⟩ : ∃ y_ : List Int, y_ = (y229 ++ y232) := ⟨_, rfl⟩
        replace H : ((some (([t110] : List Int) : List Int)).bind fun y239 => (if y236.length + y239.length < 17592186044416 then ((some (y236 ++ y239 : List Int)).bind fun y242 => ((some (x6_1.drop (x11_3 : Int).toNat : List Int)).bind fun y245 => (if y242.length + y245.length < 17592186044416 then (Fa.l0 k3 l0 y226 (y242 ++ y245) (wrap64 (x7_1 + 1))) else (none)))) else (none))) = some (r1, r2, r3) := by first | (rw [hy236]; with_reducible exact H) | (have H2_ := (Option.bind_some _ _).symm.trans H; rw [hy236]; with_reducible exact H2_) | (have H2_ := (Option.bind_some _ _).symm.trans H; with_reducible exact H2_) | with_reducible exact H | (rw [hy236]; exact H) | exact H
        have Ny236 := Ak hy236
        clear hy236
        obtain ⟨y239, hy239⟩ : ∃ y_ : List Int, y_ = (([t110] : List Int)) := ⟨_, rfl⟩
        replace H : (if y236.length + y239.length < 17592186044416 then ((some (y236 ++ y239 : List Int)).bind fun y242 => ((some (x6_1.drop (x11_3 : Int).toNat : List Int)).bind fun y245 => (if y242.length + y245.length < 17592186044416 then (Fa.l0 k3 l0 y226 (y242 ++ y245) (wrap64 (x7_1 + 1))) else (none)))) else (none)) = some (r1, r2, r3) := by first | (rw [hy239]; with_reducible exact H) | (have H2_ := (Option.bind_some _ _).symm.trans H; rw [hy239]; with_reducible exact H2_) | (have H2_ := (Option.bind_some _ _).symm.trans H; with_reducible exact H2_) | with_reducible exact H | (rw [hy239]; exact H) | exact H
        have Ny239 := Ak hy239
        clear hy239
        by_cases c116 : y236.length + y239.length < 17592186044416
        rotate_left
        ·rw [if_neg c116] at H
         exact absurd H (by simp)
        rw [if_pos c116] at H
        have LMc116 := Ak c116
        clear c116
        obtain ⟨y242, hy242⟩ : ∃ y_ : List Int, y_ = (y236 ++ y239) := ⟨_, rfl⟩
        replace H : ((some (x6_1.drop (x11_3 : Int).toNat : List Int)).bind fun y245 => (if y242.length + y245.length < 17592186044416 then (Fa.l0 k3 l0 y226 (y242 ++ y245) (wrap64 (x7_1 + 1))) else (none))) = some (r1, r2, r3) := by first | (rw [hy242]; with_reducible exact H) | (have H2_ := (Option.bind_some _ _).symm.trans H; rw [hy242]; with_reducible exact H2_) | (have H2_ := (Option.bind_some _ _).symm.trans H; with_reducible exact H2_) | with_reducible exact H | (rw [hy242]; exact H) | exact H
        have Ny242 := Ak hy242
        clear hy242
        have c117b0 := eq_true (Dz : 0 ≤ x11_3)
        have c118b0 := eq_true (Dz : x11_3 ≤ (x6_1.length : Int))
        obtain ⟨y245, hy245⟩ : ∃ y_ : List Int, y_ = (x6_1.drop (x11_3 : Int).toNat) := ⟨_, rfl⟩
        replace H : (if y242.length + y245.length < 17592186044416 then (Fa.l0 k3 l0 y226 (y242 ++ y245) (wrap64 (x7_1 + 1))) else (none)) = some (r1, r2, r3) := by first | (rw [hy245]; with_reducible exact H) | (have H2_ := (Option.bind_some _ _).symm.trans H; rw [hy245]; with_reducible exact H2_) | (have H2_ := (Option.bind_some _ _).symm.trans H; with_reducible exact H2_) | with_reducible exact H | (rw [hy245]; exact H) | exact H
        have Ny245 := Ak hy245
        clear hy245
        by_cases c119 : y242.length + y245.length < 17592186044416
        rotate_left
        ·rw [if_neg c119] at H
         exact absurd H (by simp)
        rw [if_pos c119] at H
        have LMc119 := Ak c119
        clear c119
        obtain ⟨y249, hy249⟩ : ∃ y_ : List Int, y_ = (y242 ++ y245) := ⟨_, rfl⟩
        replace H : (Fa.l0 k3 l0 y226 y249 (wrap64 (x7_1 + 1))) = some (r1, r2, r3) := by first | (rw [hy249]; with_reducible exact H) | (have H2_ := (Option.bind_some _ _).symm.trans H; rw [hy249]; with_reducible exact H2_) | (have H2_ := (Option.bind_some _ _).symm.trans H; with_reducible exact H2_) | with_reducible exact H | (rw [hy249]; exact H) | exact H
        have Ny249 := Ak hy249
        clear hy249
        have H' := Ak H
        clear H
        try go_wp2
        have n0_ := Ak (Kd.R_drew HO_5.out)
        have n1_ := Ak (Kd.R_drew HO_6.out)
        have n2_ := Ak (below_drew1 HB.out)
        clear HO_5 HO_6 HB; have HO_5 := n0_; have HO_6 := n1_; have HB := n2_; clear n0_ n1_ n2_
        have q121 : (x11_3 : Int) ≤ ((x5_1.length : Int) : Int) := Dz
        obtain ⟨i0121, hi0121, _, hsz121, _⟩ := info_parts info9
        have hroom121 : x5_1.length ≤ co17 := (Kd.R_reads' HO_5.out).2.1
        have hC121 : Kd.C Kd.string _ Ao17 x5_1.length x5_1 := (Kd.R_reads' HO_5.out).2.2
        have hcut121 := cut_to (P := Tryd.prog) 24 9 .i64 Tryd.underlying24 hi0121 Ao17 x5_1.length co17 x11_3 Dz q121 hroom121
        have hr121 := Kd.C_take (m := (x11_3 : Int).toNat) hC121 (by omega)
        have hy121 : y209.length = (x11_3 : Int).toNat := (by rw [Ny209.out, List.length_take]; omega)
        rw [← Ny209.out] at hr121
        rw [← hy121] at hcut121
        have HR212 := Ak hr121
        have HC212 := Ak (show y209.length ≤ co17 from by omega)
        clear hr121 hC121 hroom121 hi0121 hsz121
        have KY121 := Ak hy121
        clear hy121
        have KL121 := Ak (show (x11_3 : Int).toNat ≤ x5_1.length from by omega)
        replace q121 := eq_true q121
        have q122 : (x11_3 : Int) ≤ ((x5_1.length : Int) : Int) := Dz
        obtain ⟨i0122, hi0122, _, hsz122, _⟩ := info_parts info9
        have hroom122 : x5_1.length ≤ co17 := (Kd.R_reads' HO_5.out).2.1
        have hC122 : Kd.C Kd.string _ Ao17 x5_1.length x5_1 := (Kd.R_reads' HO_5.out).2.2
        have q0122 : (0 : Int) ≤ (x11_3 : Int) := Dz
        have hcut122 := cut_from (P := Tryd.prog) 24 9 .i64 Tryd.underlying24 hi0122 1 hsz122 Ao17 x5_1.length co17 x11_3 q0122 q122
        have hr122 := Kd.C_drop (m := (x11_3 : Int).toNat) (c := co17) hC122 (by omega) hroom122
        obtain ⟨A122, hA122⟩ : ∃ A1, A1 = (if co17 = (x11_3 : Int).toNat then Ao17 else (Ao17 : Option Addr).map (·.add ((x11_3 : Int).toNat * 1))) := ⟨_, rfl⟩
        obtain ⟨c122, hc122⟩ : ∃ c1, c1 = co17 - (x11_3 : Int).toNat := ⟨_, rfl⟩
        have hy122 : y222.length = x5_1.length - (x11_3 : Int).toNat := (by rw [Ny222.out, List.length_drop] <;> omega)
        rw [show (x5_1).drop (x11_3 : Int).toNat = y222 from Ny222.out.symm] at hr122
        replace hr122 : Kd.C Kd.string _ A122 y222.length y222 := (by rw [hA122]; exact hr122)
        rw [← hy122, ← hA122, ← hc122] at hcut122
        have HR225 := Ak hr122
        have HC225 := Ak (show y222.length ≤ c122 from by rw [hy122, hc122]; exact Nat.sub_le_sub_right hroom122 _)
        clear hr122 hC122 hroom122 hi0122 hsz122 hc122
        have KY122 := Ak hy122
        have KA122 := Ak hA122
        clear hy122 hA122
        have KL122 := Ak (show (x11_3 : Int).toNat ≤ x5_1.length from by omega)
        replace q122 := eq_true q122
        refine start_ (n := 13) (S := fun w' => True) (ds := []) #[O,O,O,O,O,O,O,O,O,O,O,O,O] (by kernel_rfl) rfl rfl trivial (fun hHeld => ?_); refine with_tabW Fa.tab16 Fa.bits16 (fun HT_ HW_ => ?_)
        generalize wr.drew = w120 at HO_5 HO_6 HB HR212 HR225 hHeld ⊢
        refine pure_ (i := 1) (N := some 84) (v := ?_) (a' := ?_) #[O,I,O,O,O,O,O,O,O,O,O,O,O] rfl rfl (any_of HT_.out (by kernel_rfl)) (fun _ _ _ h => h) (Or.inl ⟨by rfl, ?_⟩) ?_ ?_
        rotate_left; (intro w'; go_simp; with_reducible rfl); rotate_left; (simp only [Z]; rfl)
        refine pure_ (i := 2) (N := some 85) (v := ?_) (a' := ?_) #[O,I,I,O,O,O,O,O,O,O,O,O,O] rfl rfl (any_of HT_.out (by kernel_rfl)) (fun _ _ _ h => h) (Or.inl ⟨by rfl, ?_⟩) ?_ ?_
        rotate_left; (intro w'; go_simp; with_reducible rfl); rotate_left; (simp only [Z]; rfl)
        refine pure_ (i := 3) (N := some 86) (v := ?_) (a' := ?_) #[O,I,I,I,O,O,O,O,O,O,O,O,O] rfl rfl (any_of HT_.out (by kernel_rfl)) (fun _ _ _ h => h) (Or.inl ⟨by rfl, ?_⟩) ?_ ?_
        rotate_left; (intro w'; go_simp; with_reducible rfl); rotate_left; (simp only [Z]; rfl)
        refine pure_ (i := 5) (N := some 88) (v := ?_) (a' := ?_) #[O,I,I,I,O,I,O,O,O,O,O,O,O] rfl rfl (any_of HT_.out (by kernel_rfl)) (fun _ _ _ h => h) (Or.inl ⟨by rfl, ?_⟩) ?_ ?_
        rotate_left; (intro w'; go_simp; with_reducible rfl); rotate_left; (simp only [Z]; rfl)
        refine pure_ (i := 8) (N := some 91) (v := ?_) (a' := ?_) #[O,I,I,I,O,I,O,O,I,O,O,O,O] rfl rfl (any_of HT_.out (by kernel_rfl)) (fun _ _ _ h => h) (Or.inl ⟨by rfl, ?_⟩) ?_ ?_
        rotate_left; (intro w'; go_simp; with_reducible rfl); rotate_left; (simp only [Z]; rfl)
        refine pure_ (i := 9) (N := some 92) (v := ?_) (a' := ?_) #[O,I,I,I,O,I,O,O,I,I,O,O,O] rfl rfl (any_of HT_.out (by kernel_rfl)) (fun _ _ _ h => h) (Or.inl ⟨by rfl, ?_⟩) ?_ ?_
        rotate_left; (intro w'; go_simp; with_reducible rfl); rotate_left; (simp only [Z]; rfl)
        refine pure_ (i := 10) (N := some 93) (v := ?_) (a' := ?_) #[O,I,I,I,O,I,O,O,I,I,I,O,O] rfl rfl (any_of HT_.out (by kernel_rfl)) (fun _ _ _ h => h) (Or.inl ⟨by rfl, ?_⟩) ?_ ?_
        rotate_left; (intro w'; go_simp; with_reducible rfl); rotate_left; (simp only [Z]; rfl)
        refine join_ (σ := Value × Value × Value) 3 #[I,I,I,I,I,I,I,O,I,I,I,O,O] (fun s_ => [(83, s_.1), (87, s_.2.1), (89, s_.2.2)]) (fun s_ w' => (Kd.R Kd.string 9 w' w.heap.size (fun k_ => some k_ ≠ (s_.2.2 : Value).ownBlock ∧ some k_ ≠ (.slice Ao17 x5_1.length co17 : Value).ownBlock) s_.2.1 y213) ∧ (Kd.R Kd.string 9 w' w.heap.size (fun k_ => some k_ ≠ (s_.2.1 : Value).ownBlock ∧ some k_ ≠ (.slice Ao17 x5_1.length co17 : Value).ownBlock) s_.2.2 y216) ∧ (Kd.R Kd.string 9 w' w.heap.size (fun k_ => some k_ ≠ (s_.2.1 : Value).ownBlock ∧ some k_ ≠ (s_.2.2 : Value).ownBlock) (.slice Ao17 x5_1.length co17) x5_1) ∧ (Kd.R (Kd.int .i64) 3 w' w.heap.size (fun _ => True) u6 x6_1) ∧ (Below w.heap.size w w')) ?_ ?_
        rotate_left
        ·intro hCont
         refine two_ (i := 0) (j := 6) (Ni := some 83) (Nj := some 89) #[I,I,I,I,O,I,O,O,I,I,I,O,O] #[O,I,I,I,O,I,I,O,I,I,I,O,O] rfl rfl rfl rfl (two_of HT_.out (by kernel_rfl)) (by decide) (by decide) (fun K hK => ?_) (fun K hK => ?_)
         ·skip
          refine Kd.R_lit_step Kd.string _ 9 ?hg (N := 83) ?hd (xs := ([] : List ByteArray)) (inner := []) (ok := fun _ => True) (okp := fun _ => True) ?hr ?hp (fun _ hk => hk) trivial (Below.refl _ _) (Nat.le_refl _) (by simp) ?_; (case hd => rfl); (case hg => rfl); (case hr => first | (go_simp; done) | (go_simp; rfl)); (case hp => exact (Reps.none _ _))
          intro v207 w123 ho124 hb hg_ hnew_
          clear hg_ hnew_
          (first | rw [← Ny206.out] at ho124 | (simp only [Int.reduceToNat] at ho124; rw [← Ny206.out] at ho124))
          have n0_ := Ak (Kd.R_elder' (by exact RS <| HO_5.out) (Kd.R_base ho124) hb)
          have n1_ := Ak (Kd.R_below (by exact RS <| HO_6.out) hb)
          have n2_ := Ak (Kd.R_lower (Kd.R_new' ho124 (Kd.R_lt (by exact RS <| HO_5.out))) (below_size (by exact eS HB.out)))
          have n3_ := Ak (Kd.C_below (by exact Cs HR212.out) hb)
          have n4_ := Ak (Kd.C_below (by exact Cs HR225.out) hb)
          have n5_ := Ak (below_step (by exact eS HB.out) hb)
          clear HO_5 HO_6 HR212 HR225 HB; have HO_5 := n0_; have HO_6 := n1_; have HO208 := n2_; have HR212 := n3_; have HR225 := n4_; have HB := n5_; clear n0_ n1_ n2_ n3_ n4_ n5_ hb ho124
          refine hK.out _ _ trivial (fun hHeld => ?_); clear hK K
          refine norm_ (a' := ?_) ?_ ?_; rotate_left; (show Act.put _ (some 83) _ = _; simp only [Z]; rfl)
          refine two_ (i := 4) (j := 6) (Ni := some 87) (Nj := some 89) #[I,I,I,I,I,I,O,O,I,I,I,O,O] #[I,I,I,I,O,I,I,O,I,I,I,O,O] rfl rfl rfl rfl (two_of HT_.out (by kernel_rfl)) (by decide) (by decide) (fun K hK => ?_) (fun K hK => ?_)
          ·skip
           refine Kd.R_append_rows_step Kd.string (w0 := w) w.heap.size (by rfl) (.tmp 83) (.tmp 86) 24 9 (.string ⟨#[]⟩) 16 rfl Tryd.underlying24 info9 rfl (by decide) (by omega) v207 y206 y209 _ _ _ (fun k_ => some k_ ≠ (.slice Ao17 x5_1.length co17 : Value).ownBlock) (fun _ => False) rfl rfl ?aO ?aR (fun _ _ h => h) (fun _ h => h.elim) ?aF ?aB ?aS ?aL ?_
           (case aR => exact Cs HR212.out)
           (case aB => exact (by exact eS HB.out))
           (case aF => exact (fun k_ hk => Kd.fresh' (Kd.R_lt (by exact RS <| HO_5.out)) k_ hk))
           (case aO => exact (by exact RS <| Kd.R_mono HO208.out (fun _ hk => hk.2)))
           (case aS => exact (below_size (by exact eS HB.out)))
           (case aL => have := LMc108.out; omega)
           intro v214 w125 ho hb hg hat
           rw [← Ny213.out] at ho
           have n0_ := Ak (Kd.R_after (ok := (fun _ => True)) (by exact RS <| HO_5.out) hg hat)
           have n1_ := Ak (Kd.R_over' (by exact RS <| HO_6.out) (Kd.R_typed (by exact RS <| HO208.out)) (by decide) hg)
           have n2_ := Ak (hb)
           have n3_ := Ak ((Ct Kd.string Ny209.out (Kd.R_after (ok := (fun _ => True)) (by exact RS <| HO_5.out) hg hat) KL121.out))
           have n4_ := Ak ((Cd Kd.string Ny222.out KA122.out (Kd.R_after (ok := (fun _ => True)) (by exact RS <| HO_5.out) hg hat) KL122.out))
           have n5_ := Ak (ho)
           clear HO_5 HO_6 HB HR212 HR225 HO208; have HO_5 := n0_; have HO_6 := n1_; have HB := n2_; have HR212 := n3_; have HR225 := n4_; have HO215 := n5_; clear n0_ n1_ n2_ n3_ n4_ n5_ ho hb hg hat
           refine hK.out _ _ trivial (fun hHeld => ?_); clear hK K
           refine norm_ (a' := ?_) ?_ ?_; rotate_left; (show Act.put _ (some 87) _ = _; simp only [Z]; rfl)
           refine one_ (i := 6) (N := some 89) #[I,I,I,I,I,I,I,O,I,I,I,O,O] rfl rfl (one_of HT_.out (by kernel_rfl)) (by decide) (fun K hK => ?_)
           refine Kd.R_lit_step Kd.string _ 9 ?hg (N := 89) ?hd (xs := ([((rd_T41 l0 x7_1).f1)] : List ByteArray)) (inner := [.string ((rd_T41 l0 x7_1).f1)]) (ok := fun _ => True) (okp := fun _ => True) ?hr ?hp (fun _ hk => hk) trivial (Below.refl _ _) (Nat.le_refl _) (by simp) ?_; (case hd => rfl); (case hg => rfl); (case hr => first | (go_simp; done) | (go_simp; rfl)); (case hp => exact (Reps.one (show Kd.M Kd.string _ _ _ ((rd_T41 l0 x7_1).f1) [.string ((rd_T41 l0 x7_1).f1)] from rfl) (Reps.none _ _)))
           intro v217 w126 ho127 hb hg_ hnew_
           clear hg_ hnew_
           (first | rw [← Ny216.out] at ho127 | (simp only [Int.reduceToNat] at ho127; rw [← Ny216.out] at ho127))
           have n0_ := Ak (Kd.R_elder' (by exact RS <| HO_5.out) (Kd.R_base ho127) hb)
           have n1_ := Ak (Kd.R_below (by exact RS <| HO_6.out) hb)
           have n2_ := Ak (Kd.R_elder' (by exact RS <| HO215.out) (Kd.R_base ho127) hb)
           have n3_ := Ak (Kd.R_lower (Kd.R_new' (Kd.R_new' ho127 (Kd.R_lt (by exact RS <| HO_5.out))) (Kd.R_lt (by exact RS <| HO215.out))) (below_size (by exact eS HB.out)))
           have n4_ := Ak (Kd.C_below (by exact Cs HR212.out) hb)
           have n5_ := Ak (Kd.C_below (by exact Cs HR225.out) hb)
           have n6_ := Ak (below_step (by exact eS HB.out) hb)
           clear HO_5 HO_6 HO215 HR212 HR225 HB; have HO_5 := n0_; have HO_6 := n1_; have HO215 := n2_; have HO218 := n3_; have HR212 := n4_; have HR225 := n5_; have HB := n6_; clear n0_ n1_ n2_ n3_ n4_ n5_ n6_ hb ho127
           refine hK.out _ _ trivial (fun hHeld => ?_); clear hK K
           refine norm_ (a' := ?_) ?_ ?_; rotate_left; (show Act.put _ (some 89) _ = _; simp only [Z]; rfl)
           exact norm_ (by simp only [putAll, Act.put, List.setIfInBounds_toArray, List.set_cons_zero, List.set_cons_succ]) (hCont (v207, v214, v217) _ ⟨(by exact RS <| Kd.R_mono HO215.out (fun _ hk => ⟨hk.2, hk.1⟩)), (by exact RS <| Kd.R_mono HO218.out (fun _ hk => ⟨hk.2, hk.1.2⟩)), (by exact RS <| Kd.R_mono HO_5.out (fun _ hk => ⟨hk.1.2, hk.2⟩)), (by exact RS <| HO_6.out), (by exact eS HB.out)⟩)
          ·skip
           refine Kd.R_lit_step Kd.string _ 9 ?hg (N := 89) ?hd (xs := ([((rd_T41 l0 x7_1).f1)] : List ByteArray)) (inner := [.string ((rd_T41 l0 x7_1).f1)]) (ok := fun _ => True) (okp := fun _ => True) ?hr ?hp (fun _ hk => hk) trivial (Below.refl _ _) (Nat.le_refl _) (by simp) ?_; (case hd => rfl); (case hg => rfl); (case hr => first | (go_simp; done) | (go_simp; rfl)); (case hp => exact (Reps.one (show Kd.M Kd.string _ _ _ ((rd_T41 l0 x7_1).f1) [.string ((rd_T41 l0 x7_1).f1)] from rfl) (Reps.none _ _)))
           intro v217 w125 ho126 hb hg_ hnew_
           clear hg_ hnew_
           (first | rw [← Ny216.out] at ho126 | (simp only [Int.reduceToNat] at ho126; rw [← Ny216.out] at ho126))
           have n0_ := Ak (Kd.R_elder' (by exact RS <| HO_5.out) (Kd.R_base ho126) hb)
           have n1_ := Ak (Kd.R_below (by exact RS <| HO_6.out) hb)
           have n2_ := Ak (Kd.R_elder' (by exact RS <| HO208.out) (Kd.R_base ho126) hb)
           have n3_ := Ak (Kd.R_lower (Kd.R_new' (Kd.R_new' ho126 (Kd.R_lt (by exact RS <| HO_5.out))) (Kd.R_lt (by exact RS <| HO208.out))) (below_size (by exact eS HB.out)))
           have n4_ := Ak (Kd.C_below (by exact Cs HR212.out) hb)
           have n5_ := Ak (Kd.C_below (by exact Cs HR225.out) hb)
           have n6_ := Ak (below_step (by exact eS HB.out) hb)
           clear HO_5 HO_6 HO208 HR212 HR225 HB; have HO_5 := n0_; have HO_6 := n1_; have HO208 := n2_; have HO218 := n3_; have HR212 := n4_; have HR225 := n5_; have HB := n6_; clear n0_ n1_ n2_ n3_ n4_ n5_ n6_ hb ho126
           refine hK.out _ _ trivial (fun hHeld => ?_); clear hK K
           refine norm_ (a' := ?_) ?_ ?_; rotate_left; (show Act.put _ (some 89) _ = _; simp only [Z]; rfl)
           refine one_ (i := 4) (N := some 87) #[I,I,I,I,I,I,I,O,I,I,I,O,O] rfl rfl (one_of HT_.out (by kernel_rfl)) (by decide) (fun K hK => ?_)
           refine Kd.R_append_rows_step Kd.string (w0 := w) w.heap.size (by rfl) (.tmp 83) (.tmp 86) 24 9 (.string ⟨#[]⟩) 16 rfl Tryd.underlying24 info9 rfl (by decide) (by omega) v207 y206 y209 _ _ _ (fun k_ => some k_ ≠ (.slice Ao17 x5_1.length co17 : Value).ownBlock ∧ some k_ ≠ (v217 : Value).ownBlock) (fun _ => False) rfl rfl ?aO ?aR (fun _ _ h => h) (fun _ h => h.elim) ?aF ?aB ?aS ?aL ?_
           (case aR => exact Cs HR212.out)
           (case aB => exact (by exact eS HB.out))
           (case aF => exact (fun k_ hk => ⟨Kd.fresh' (Kd.R_lt (by exact RS <| HO_5.out)) k_ hk, Kd.fresh' (Kd.R_lt (by exact RS <| HO218.out)) k_ hk⟩))
           (case aO => exact (by exact RS <| Kd.R_mono HO208.out (fun _ hk => ⟨hk.1.2, hk.2⟩)))
           (case aS => exact (below_size (by exact eS HB.out)))
           (case aL => have := LMc108.out; omega)
           intro v214 w127 ho hb hg hat
           rw [← Ny213.out] at ho
           have n0_ := Ak (Kd.R_after (ok := (fun k_ => some k_ ≠ (v217 : Value).ownBlock)) (by exact RS <| Kd.R_mono HO_5.out (fun _ hk => ⟨hk.2, hk.1.2⟩)) hg hat)
           have n1_ := Ak (Kd.R_over' (by exact RS <| HO_6.out) (Kd.R_typed (by exact RS <| HO208.out)) (by decide) hg)
           have n2_ := Ak (Kd.R_after (ok := (fun k_ => some k_ ≠ (.slice Ao17 x5_1.length co17 : Value).ownBlock)) (by exact RS <| Kd.R_mono HO218.out (fun _ hk => ⟨hk.1.2, hk.2⟩)) hg hat)
           have n3_ := Ak (hb)
           have n4_ := Ak ((Ct Kd.string Ny209.out (Kd.R_after (ok := (fun k_ => some k_ ≠ (v217 : Value).ownBlock)) (by exact RS <| Kd.R_mono HO_5.out (fun _ hk => ⟨hk.2, hk.1.2⟩)) hg hat) KL121.out))
           have n5_ := Ak ((Cd Kd.string Ny222.out KA122.out (Kd.R_after (ok := (fun k_ => some k_ ≠ (v217 : Value).ownBlock)) (by exact RS <| Kd.R_mono HO_5.out (fun _ hk => ⟨hk.2, hk.1.2⟩)) hg hat) KL122.out))
           have n6_ := Ak (ho)
           clear HO_5 HO_6 HO218 HB HR212 HR225 HO208; have HO_5 := n0_; have HO_6 := n1_; have HO218 := n2_; have HB := n3_; have HR212 := n4_; have HR225 := n5_; have HO215 := n6_; clear n0_ n1_ n2_ n3_ n4_ n5_ n6_ ho hb hg hat
           refine hK.out _ _ trivial (fun hHeld => ?_); clear hK K
           refine norm_ (a' := ?_) ?_ ?_; rotate_left; (show Act.put _ (some 87) _ = _; simp only [Z]; rfl)
           exact norm_ (by simp only [putAll, Act.put, List.setIfInBounds_toArray, List.set_cons_zero, List.set_cons_succ]) (hCont (v207, v214, v217) _ ⟨(by exact RS <| Kd.R_mono HO215.out (fun _ hk => ⟨hk.2, hk.1⟩)), (by exact RS <| Kd.R_mono HO218.out (fun _ hk => ⟨hk.2, hk.1⟩)), (by exact RS <| Kd.R_mono HO_5.out (fun _ hk => ⟨hk.2, hk.1⟩)), (by exact RS <| HO_6.out), (by exact eS HB.out)⟩)
         ·skip
          refine Kd.R_lit_step Kd.string _ 9 ?hg (N := 89) ?hd (xs := ([((rd_T41 l0 x7_1).f1)] : List ByteArray)) (inner := [.string ((rd_T41 l0 x7_1).f1)]) (ok := fun _ => True) (okp := fun _ => True) ?hr ?hp (fun _ hk => hk) trivial (Below.refl _ _) (Nat.le_refl _) (by simp) ?_; (case hd => rfl); (case hg => rfl); (case hr => first | (go_simp; done) | (go_simp; rfl)); (case hp => exact (Reps.one (show Kd.M Kd.string _ _ _ ((rd_T41 l0 x7_1).f1) [.string ((rd_T41 l0 x7_1).f1)] from rfl) (Reps.none _ _)))
          intro v217 w123 ho124 hb hg_ hnew_
          clear hg_ hnew_
          (first | rw [← Ny216.out] at ho124 | (simp only [Int.reduceToNat] at ho124; rw [← Ny216.out] at ho124))
          have n0_ := Ak (Kd.R_elder' (by exact RS <| HO_5.out) (Kd.R_base ho124) hb)
          have n1_ := Ak (Kd.R_below (by exact RS <| HO_6.out) hb)
          have n2_ := Ak (Kd.R_lower (Kd.R_new' ho124 (Kd.R_lt (by exact RS <| HO_5.out))) (below_size (by exact eS HB.out)))
          have n3_ := Ak (Kd.C_below (by exact Cs HR212.out) hb)
          have n4_ := Ak (Kd.C_below (by exact Cs HR225.out) hb)
          have n5_ := Ak (below_step (by exact eS HB.out) hb)
          clear HO_5 HO_6 HR212 HR225 HB; have HO_5 := n0_; have HO_6 := n1_; have HO218 := n2_; have HR212 := n3_; have HR225 := n4_; have HB := n5_; clear n0_ n1_ n2_ n3_ n4_ n5_ hb ho124
          refine hK.out _ _ trivial (fun hHeld => ?_); clear hK K
          refine norm_ (a' := ?_) ?_ ?_; rotate_left; (show Act.put _ (some 89) _ = _; simp only [Z]; rfl)
          refine one_ (i := 0) (N := some 83) #[I,I,I,I,O,I,I,O,I,I,I,O,O] rfl rfl (one_of HT_.out (by kernel_rfl)) (by decide) (fun K hK => ?_)
          refine Kd.R_lit_step Kd.string _ 9 ?hg (N := 83) ?hd (xs := ([] : List ByteArray)) (inner := []) (ok := fun _ => True) (okp := fun _ => True) ?hr ?hp (fun _ hk => hk) trivial (Below.refl _ _) (Nat.le_refl _) (by simp) ?_; (case hd => rfl); (case hg => rfl); (case hr => first | (go_simp; done) | (go_simp; rfl)); (case hp => exact (Reps.none _ _))
          intro v207 w125 ho126 hb hg_ hnew_
          clear hg_ hnew_
          (first | rw [← Ny206.out] at ho126 | (simp only [Int.reduceToNat] at ho126; rw [← Ny206.out] at ho126))
          have n0_ := Ak (Kd.R_elder' (by exact RS <| HO_5.out) (Kd.R_base ho126) hb)
          have n1_ := Ak (Kd.R_below (by exact RS <| HO_6.out) hb)
          have n2_ := Ak (Kd.R_elder' (by exact RS <| HO218.out) (Kd.R_base ho126) hb)
          have n3_ := Ak (Kd.R_lower (Kd.R_new' (Kd.R_new' ho126 (Kd.R_lt (by exact RS <| HO_5.out))) (Kd.R_lt (by exact RS <| HO218.out))) (below_size (by exact eS HB.out)))
          have n4_ := Ak (Kd.C_below (by exact Cs HR212.out) hb)
          have n5_ := Ak (Kd.C_below (by exact Cs HR225.out) hb)
          have n6_ := Ak (below_step (by exact eS HB.out) hb)
          clear HO_5 HO_6 HO218 HR212 HR225 HB; have HO_5 := n0_; have HO_6 := n1_; have HO218 := n2_; have HO208 := n3_; have HR212 := n4_; have HR225 := n5_; have HB := n6_; clear n0_ n1_ n2_ n3_ n4_ n5_ n6_ hb ho126
          refine hK.out _ _ trivial (fun hHeld => ?_); clear hK K
          refine norm_ (a' := ?_) ?_ ?_; rotate_left; (show Act.put _ (some 83) _ = _; simp only [Z]; rfl)
          refine one_ (i := 4) (N := some 87) #[I,I,I,I,I,I,I,O,I,I,I,O,O] rfl rfl (one_of HT_.out (by kernel_rfl)) (by decide) (fun K hK => ?_)
          refine Kd.R_append_rows_step Kd.string (w0 := w) w.heap.size (by rfl) (.tmp 83) (.tmp 86) 24 9 (.string ⟨#[]⟩) 16 rfl Tryd.underlying24 info9 rfl (by decide) (by omega) v207 y206 y209 _ _ _ (fun k_ => some k_ ≠ (.slice Ao17 x5_1.length co17 : Value).ownBlock ∧ some k_ ≠ (v217 : Value).ownBlock) (fun _ => False) rfl rfl ?aO ?aR (fun _ _ h => h) (fun _ h => h.elim) ?aF ?aB ?aS ?aL ?_
          (case aR => exact Cs HR212.out)
          (case aB => exact (by exact eS HB.out))
          (case aF => exact (fun k_ hk => ⟨Kd.fresh' (Kd.R_lt (by exact RS <| HO_5.out)) k_ hk, Kd.fresh' (Kd.R_lt (by exact RS <| HO218.out)) k_ hk⟩))
          (case aO => exact (by exact RS <| Kd.R_mono HO208.out (fun _ hk => ⟨hk.1.2, hk.2⟩)))
          (case aS => exact (below_size (by exact eS HB.out)))
          (case aL => have := LMc108.out; omega)
          intro v214 w127 ho hb hg hat
          rw [← Ny213.out] at ho
          have n0_ := Ak (Kd.R_after (ok := (fun k_ => some k_ ≠ (v217 : Value).ownBlock)) (by exact RS <| Kd.R_mono HO_5.out (fun _ hk => ⟨hk.1.2, hk.2⟩)) hg hat)
          have n1_ := Ak (Kd.R_over' (by exact RS <| HO_6.out) (Kd.R_typed (by exact RS <| HO208.out)) (by decide) hg)
          have n2_ := Ak (Kd.R_after (ok := (fun k_ => some k_ ≠ (.slice Ao17 x5_1.length co17 : Value).ownBlock)) (by exact RS <| Kd.R_mono HO218.out (fun _ hk => ⟨hk.1.2, hk.2⟩)) hg hat)
          have n3_ := Ak (hb)
          have n4_ := Ak ((Ct Kd.string Ny209.out (Kd.R_after (ok := (fun k_ => some k_ ≠ (v217 : Value).ownBlock)) (by exact RS <| Kd.R_mono HO_5.out (fun _ hk => ⟨hk.1.2, hk.2⟩)) hg hat) KL121.out))
          have n5_ := Ak ((Cd Kd.string Ny222.out KA122.out (Kd.R_after (ok := (fun k_ => some k_ ≠ (v217 : Value).ownBlock)) (by exact RS <| Kd.R_mono HO_5.out (fun _ hk => ⟨hk.1.2, hk.2⟩)) hg hat) KL122.out))
          have n6_ := Ak (ho)
          clear HO_5 HO_6 HO218 HB HR212 HR225 HO208; have HO_5 := n0_; have HO_6 := n1_; have HO218 := n2_; have HB := n3_; have HR212 := n4_; have HR225 := n5_; have HO215 := n6_; clear n0_ n1_ n2_ n3_ n4_ n5_ n6_ ho hb hg hat
          refine hK.out _ _ trivial (fun hHeld => ?_); clear hK K
          refine norm_ (a' := ?_) ?_ ?_; rotate_left; (show Act.put _ (some 87) _ = _; simp only [Z]; rfl)
          exact norm_ (by simp only [putAll, Act.put, List.setIfInBounds_toArray, List.set_cons_zero, List.set_cons_succ]) (hCont (v207, v214, v217) _ ⟨(by exact RS <| Kd.R_mono HO215.out (fun _ hk => ⟨hk.2, hk.1⟩)), (by exact RS <| Kd.R_mono HO218.out (fun _ hk => ⟨hk.2, hk.1⟩)), (by exact RS <| Kd.R_mono HO_5.out (fun _ hk => ⟨hk.2, hk.1⟩)), (by exact RS <| HO_6.out), (by exact eS HB.out)⟩)
        rintro ⟨v207, v214, v217⟩ w128 ⟨h0_, h1_, h2_, h3_, h4_⟩
        have n0_ : Aside0 (Kd.R Kd.string 9 w128 w.heap.size (fun k_ => some k_ ≠ (v217 : Value).ownBlock ∧ some k_ ≠ (.slice Ao17 x5_1.length co17 : Value).ownBlock) v214 y213) := ⟨h0_⟩
        have n1_ : Aside0 (Kd.R Kd.string 9 w128 w.heap.size (fun k_ => some k_ ≠ (v214 : Value).ownBlock ∧ some k_ ≠ (.slice Ao17 x5_1.length co17 : Value).ownBlock) v217 y216) := ⟨h1_⟩
        have n2_ : Aside0 (Kd.R Kd.string 9 w128 w.heap.size (fun k_ => some k_ ≠ (v214 : Value).ownBlock ∧ some k_ ≠ (v217 : Value).ownBlock) (.slice Ao17 x5_1.length co17) x5_1) := ⟨h2_⟩
        have n3_ : Aside0 (Kd.R (Kd.int .i64) 3 w128 w.heap.size (fun _ => True) u6 x6_1) := ⟨h3_⟩
        have n4_ : Aside0 (Below w.heap.size w w128) := ⟨h4_⟩
        clear HO_5 HO_6 HB h0_ h1_ h2_ h3_ h4_; have HO215 := n0_; have HO218 := n1_; have HO_5 := n2_; have HO_6 := n3_; have HB := n4_; clear n0_ n1_ n2_ n3_ n4_
        have hHeld := trivial
        have HR212 := Ak (Ct Kd.string Ny209.out (HO_5.out) KL121.out)
        have HR225 := Ak (Cd Kd.string Ny222.out KA122.out (HO_5.out) KL122.out)
        obtain ⟨Ao130, co130, eo130⟩ := Kd.R_slice HO218.out
        (first | subst eo130 | (injection eo130 with f1_ f2_ f3_; have f4_ := f1_.symm; have f5_ := f3_.symm; clear f1_ f2_ f3_; subst f4_; subst f5_))
        refine norm_ (a' := ?_) ?_ ?_
        rotate_left
        ·simp only [putAll, Act.put, List.setIfInBounds_toArray, List.set_cons_zero, List.set_cons_succ]
         rfl
        refine one_ (i := 7) (N := some 90) #[I,I,I,I,I,I,I,I,I,I,I,O,O] rfl rfl (one_of HT_.out (by kernel_rfl)) (by decide) (fun K hK => ?_)
        refine Kd.R_append_rows_step Kd.string (w0 := w) w.heap.size (by rfl) (.tmp 87) (.tmp 89) 24 9 (.string ⟨#[]⟩) 16 rfl Tryd.underlying24 info9 rfl (by decide) (by omega) v214 y213 y216 _ _ _ (fun k_ => some k_ ≠ (.slice Ao17 x5_1.length co17 : Value).ownBlock ∧ some k_ ≠ (.slice Ao130 y216.length co130 : Value).ownBlock) (fun _ => False) rfl rfl ?aO ?aR (fun _ _ h => h) (fun _ h => h.elim) ?aF ?aB ?aS ?aL ?_
        (case aR => repeat (first | exact (Kd.R_reads' HO218.out).2.2 | (with_reducible refine Kd.C_alloc ?_ _) | (with_reducible refine Kd.C_drewN ?_ _) | (with_reducible refine Kd.C_drew ?_)))
        (case aB => exact (by exact eS HB.out))
        (case aF => exact (fun k_ hk => ⟨Kd.fresh' (Kd.R_lt (by exact RS <| HO_5.out)) k_ hk, Kd.fresh' (Kd.R_lt (by exact RS <| HO218.out)) k_ hk⟩))
        (case aO => exact (by exact RS <| Kd.R_mono HO215.out (fun _ hk => ⟨hk.2, hk.1⟩)))
        (case aS => exact (below_size (by exact eS HB.out)))
        (case aL => have := LMc109.out; omega)
        intro v220 w129 ho hb hg hat
        rw [← Ny219.out] at ho
        have n0_ := Ak (Kd.R_after (ok := (fun k_ => some k_ ≠ (.slice Ao130 y216.length co130 : Value).ownBlock)) (by exact RS <| Kd.R_mono HO_5.out (fun _ hk => ⟨hk.2, hk.1⟩)) hg hat)
        have n1_ := Ak (Kd.R_over' (by exact RS <| HO_6.out) (Kd.R_typed (by exact RS <| HO215.out)) (by decide) hg)
        have n2_ := Ak (Kd.R_after (ok := (fun k_ => some k_ ≠ (.slice Ao17 x5_1.length co17 : Value).ownBlock)) (by exact RS <| Kd.R_mono HO218.out (fun _ hk => ⟨hk.2, hk.1⟩)) hg hat)
        have n3_ := Ak (hb)
        have n4_ := Ak ((Ct Kd.string Ny209.out (Kd.R_after (ok := (fun k_ => some k_ ≠ (.slice Ao130 y216.length co130 : Value).ownBlock)) (by exact RS <| Kd.R_mono HO_5.out (fun _ hk => ⟨hk.2, hk.1⟩)) hg hat) KL121.out))
        have n5_ := Ak ((Cd Kd.string Ny222.out KA122.out (Kd.R_after (ok := (fun k_ => some k_ ≠ (.slice Ao130 y216.length co130 : Value).ownBlock)) (by exact RS <| Kd.R_mono HO_5.out (fun _ hk => ⟨hk.2, hk.1⟩)) hg hat) KL122.out))
        have n6_ := Ak (ho)
        clear HO_5 HO_6 HO218 HB HR212 HR225 HO215; have HO_5 := n0_; have HO_6 := n1_; have HO218 := n2_; have HB := n3_; have HR212 := n4_; have HR225 := n5_; have HO221 := n6_; clear n0_ n1_ n2_ n3_ n4_ n5_ n6_ ho hb hg hat
        refine hK.out _ _ trivial (fun hHeld => ?_); clear hK K
        refine norm_ (a' := ?_) ?_ ?_; rotate_left; (show Act.put _ (some 90) _ = _; simp only [Z]; rfl)
        refine one_ (i := 11) (N := some 94) #[I,I,I,I,I,I,I,I,I,I,I,I,O] rfl rfl (one_of HT_.out (by kernel_rfl)) (by decide) (fun K hK => ?_)
        refine Kd.R_append_rows_step Kd.string (w0 := w) w.heap.size (by rfl) (.tmp 90) (.tmp 93) 24 9 (.string ⟨#[]⟩) 16 rfl Tryd.underlying24 info9 rfl (by decide) (by omega) v220 y219 y222 _ _ _ (fun k_ => some k_ ≠ (.slice Ao17 x5_1.length co17 : Value).ownBlock ∧ some k_ ≠ (.slice Ao130 y216.length co130 : Value).ownBlock) (fun _ => False) rfl rfl ?aO ?aR (fun _ _ h => h) (fun _ h => h.elim) ?aF ?aB ?aS ?aL ?_
        (case aR => exact Cs HR225.out)
        (case aB => exact (by exact eS HB.out))
        (case aF => exact (fun k_ hk => ⟨Kd.fresh' (Kd.R_lt (by exact RS <| HO_5.out)) k_ hk, Kd.fresh' (Kd.R_lt (by exact RS <| HO218.out)) k_ hk⟩))
        (case aO => exact (by exact RS <| HO221.out))
        (case aS => exact (below_size (by exact eS HB.out)))
        (case aL => have := LMc112.out; omega)
        intro v227 w131 ho hb hg hat
        rw [← Ny226.out] at ho
        have n0_ := Ak (Kd.R_after (ok := (fun k_ => some k_ ≠ (.slice Ao130 y216.length co130 : Value).ownBlock)) (by exact RS <| HO_5.out) hg hat)
        have n1_ := Ak (Kd.R_over' (by exact RS <| HO_6.out) (Kd.R_typed (by exact RS <| HO221.out)) (by decide) hg)
        have n2_ := Ak (Kd.R_after (ok := (fun k_ => some k_ ≠ (.slice Ao17 x5_1.length co17 : Value).ownBlock)) (by exact RS <| HO218.out) hg hat)
        have n3_ := Ak (hb)
        have n4_ := Ak ((Ct Kd.string Ny209.out (Kd.R_after (ok := (fun k_ => some k_ ≠ (.slice Ao130 y216.length co130 : Value).ownBlock)) (by exact RS <| HO_5.out) hg hat) KL121.out))
        have n5_ := Ak ((Cd Kd.string Ny222.out KA122.out (Kd.R_after (ok := (fun k_ => some k_ ≠ (.slice Ao130 y216.length co130 : Value).ownBlock)) (by exact RS <| HO_5.out) hg hat) KL122.out))
        have n6_ := Ak (ho)
        clear HO_5 HO_6 HO218 HB HR212 HR225 HO221; have HO_5 := n0_; have HO_6 := n1_; have HO218 := n2_; have HB := n3_; have HR212 := n4_; have HR225 := n5_; have HO228 := n6_; clear n0_ n1_ n2_ n3_ n4_ n5_ n6_ ho hb hg hat
        refine hK.out _ _ trivial (fun hHeld => ?_); clear hK K
        refine norm_ (a' := ?_) ?_ ?_; rotate_left; (show Act.put _ (some 94) _ = _; simp only [Z]; rfl)
        refine pure_ (i := 12) (N := some 5) (v := ?_) (a' := ?_) #[I,I,I,I,I,I,I,I,I,I,I,I,I] rfl rfl (any_of HT_.out (by kernel_rfl)) (fun _ _ _ h => h) (Or.inl ⟨by rfl, ?_⟩) ?_ ?_
        rotate_left; (intro w'; go_simp; with_reducible rfl); rotate_left; (simp only [Z]; rfl)
        refine done_ (done_of HT_.out (by kernel_rfl)) ?_
        try go_wp2
        have n0_ := Ak (Kd.R_drew HO_5.out)
        have n1_ := Ak (Kd.R_drew HO_6.out)
        have n2_ := Ak (Kd.R_drew HO218.out)
        have n3_ := Ak (Kd.R_drew HO228.out)
        have n4_ := Ak (Kd.C_drew HR212.out)
        have n5_ := Ak (Kd.C_drew HR225.out)
        have n6_ := Ak (below_drew1 HB.out)
        clear HO_5 HO_6 HO218 HO228 HR212 HR225 HB; have HO_5 := n0_; have HO_6 := n1_; have HO218 := n2_; have HO228 := n3_; have HR212 := n4_; have HR225 := n5_; have HB := n6_; clear n0_ n1_ n2_ n3_ n4_ n5_ n6_
        obtain ⟨Ao134, co134, eo134⟩ := Kd.R_slice HO_6.out
        (first | subst eo134 | (injection eo134 with f1_ f2_ f3_; have f4_ := f1_.symm; have f5_ := f3_.symm; clear f1_ f2_ f3_; subst f4_; subst f5_))
        have q133 : (x11_3 : Int) ≤ ((x6_1.length : Int) : Int) := Dz
        obtain ⟨i0133, hi0133, _, hsz133, _⟩ := info_parts info3
        have hroom133 : x6_1.length ≤ co134 := (Kd.R_reads' HO_6.out).2.1
        have hC133 : Kd.C (Kd.int .i64) _ Ao134 x6_1.length x6_1 := (Kd.R_reads' HO_6.out).2.2
        have hcut133 := cut_to (P := Tryd.prog) 25 3 .i64 Tryd.underlying25 hi0133 Ao134 x6_1.length co134 x11_3 Dz q133 hroom133
        have hr133 := Kd.C_take (m := (x11_3 : Int).toNat) hC133 (by omega)
        have hy133 : y232.length = (x11_3 : Int).toNat := (by rw [Ny232.out, List.length_take]; omega)
        rw [← Ny232.out] at hr133
        rw [← hy133] at hcut133
        have HR235 := Ak hr133
        have HC235 := Ak (show y232.length ≤ co134 from by omega)
        clear hr133 hC133 hroom133 hi0133 hsz133
        have KY133 := Ak hy133
        clear hy133
        have KL133 := Ak (show (x11_3 : Int).toNat ≤ x6_1.length from by omega)
        replace q133 := eq_true q133
        have q135 : (x11_3 : Int) ≤ ((x6_1.length : Int) : Int) := Dz
        obtain ⟨i0135, hi0135, _, hsz135, _⟩ := info_parts info3
        have hroom135 : x6_1.length ≤ co134 := (Kd.R_reads' HO_6.out).2.1
        have hC135 : Kd.C (Kd.int .i64) _ Ao134 x6_1.length x6_1 := (Kd.R_reads' HO_6.out).2.2
        have q0135 : (0 : Int) ≤ (x11_3 : Int) := Dz
        have hcut135 := cut_from (P := Tryd.prog) 25 3 .i64 Tryd.underlying25 hi0135 1 hsz135 Ao134 x6_1.length co134 x11_3 q0135 q135
        have hr135 := Kd.C_drop (m := (x11_3 : Int).toNat) (c := co134) hC135 (by omega) hroom135
        obtain ⟨A135, hA135⟩ : ∃ A1, A1 = (if co134 = (x11_3 : Int).toNat then Ao134 else (Ao134 : Option Addr).map (·.add ((x11_3 : Int).toNat * 1))) := ⟨_, rfl⟩
        obtain ⟨c135, hc135⟩ : ∃ c1, c1 = co134 - (x11_3 : Int).toNat := ⟨_, rfl⟩
        have hy135 : y245.length = x6_1.length - (x11_3 : Int).toNat := (by rw [Ny245.out, List.length_drop] <;> omega)
        rw [show (x6_1).drop (x11_3 : Int).toNat = y245 from Ny245.out.symm] at hr135
        replace hr135 : Kd.C (Kd.int .i64) _ A135 y245.length y245 := (by rw [hA135]; exact hr135)
        rw [← hy135, ← hA135, ← hc135] at hcut135
        have HR248 := Ak hr135
        have HC248 := Ak (show y245.length ≤ c135 from by rw [hy135, hc135]; exact Nat.sub_le_sub_right hroom135 _)
        clear hr135 hC135 hroom135 hi0135 hsz135 hc135
        have KY135 := Ak hy135
        have KA135 := Ak hA135
        clear hy135 hA135
        have KL135 := Ak (show (x11_3 : Int).toNat ≤ x6_1.length from by omega)
        replace q135 := eq_true q135
        refine start_ (n := 13) (S := fun w' => True) (ds := []) #[O,O,O,O,O,O,O,O,O,O,O,O,O] (by kernel_rfl) rfl rfl trivial (fun hHeld => ?_); refine with_tabW Fa.tab17 Fa.bits17 (fun HT_ HW_ => ?_)
        generalize w131.drew = w132 at HO_5 HO_6 HO218 HO228 HR212 HR225 HB HR235 HR248 hHeld ⊢
        refine pure_ (i := 1) (N := some 96) (v := ?_) (a' := ?_) #[O,I,O,O,O,O,O,O,O,O,O,O,O] rfl rfl (any_of HT_.out (by kernel_rfl)) (fun _ _ _ h => h) (Or.inl ⟨by rfl, ?_⟩) ?_ ?_
        rotate_left; (intro w'; go_simp; with_reducible rfl); rotate_left; (simp only [Z]; rfl)
        refine pure_ (i := 2) (N := some 97) (v := ?_) (a' := ?_) #[O,I,I,O,O,O,O,O,O,O,O,O,O] rfl rfl (any_of HT_.out (by kernel_rfl)) (fun _ _ _ h => h) (Or.inl ⟨by rfl, ?_⟩) ?_ ?_
        rotate_left; (intro w'; go_simp; with_reducible rfl); rotate_left; (simp only [Z]; rfl)
        refine pure_ (i := 3) (N := some 98) (v := ?_) (a' := ?_) #[O,I,I,I,O,O,O,O,O,O,O,O,O] rfl rfl (any_of HT_.out (by kernel_rfl)) (fun _ _ _ h => h) (Or.inl ⟨by rfl, ?_⟩) ?_ ?_
        rotate_left; (intro w'; go_simp; with_reducible rfl); rotate_left; (simp only [Z]; rfl)
        refine pure_ (i := 5) (N := some 100) (v := ?_) (a' := ?_) #[O,I,I,I,O,I,O,O,O,O,O,O,O] rfl rfl (any_of HT_.out (by kernel_rfl)) (fun _ _ _ h => h) (Or.inl ⟨by rfl, ?_⟩) ?_ ?_
        rotate_left; (intro w'; go_simp; with_reducible rfl); rotate_left; (simp only [Z]; rfl)
        refine pure_ (i := 8) (N := some 103) (v := ?_) (a' := ?_) #[O,I,I,I,O,I,O,O,I,O,O,O,O] rfl rfl (any_of HT_.out (by kernel_rfl)) (fun _ _ _ h => h) (Or.inl ⟨by rfl, ?_⟩) ?_ ?_
        rotate_left; (intro w'; go_simp; with_reducible rfl); rotate_left; (simp only [Z]; rfl)
        refine pure_ (i := 9) (N := some 104) (v := ?_) (a' := ?_) #[O,I,I,I,O,I,O,O,I,I,O,O,O] rfl rfl (any_of HT_.out (by kernel_rfl)) (fun _ _ _ h => h) (Or.inl ⟨by rfl, ?_⟩) ?_ ?_
        rotate_left; (intro w'; go_simp; with_reducible rfl); rotate_left; (simp only [Z]; rfl)
        refine pure_ (i := 10) (N := some 105) (v := ?_) (a' := ?_) #[O,I,I,I,O,I,O,O,I,I,I,O,O] rfl rfl (any_of HT_.out (by kernel_rfl)) (fun _ _ _ h => h) (Or.inl ⟨by rfl, ?_⟩) ?_ ?_
        rotate_left; (intro w'; go_simp; with_reducible rfl); rotate_left; (simp only [Z]; rfl)
        refine join_ (σ := Value × Value × Value) 3 #[I,I,I,I,I,I,I,O,I,I,I,O,O] (fun s_ => [(95, s_.1), (99, s_.2.1), (101, s_.2.2)]) (fun s_ w' => (Kd.R Kd.string 9 w' w.heap.size (fun k_ => some k_ ≠ (v227 : Value).ownBlock ∧ some k_ ≠ (.slice Ao17 x5_1.length co17 : Value).ownBlock) (.slice Ao130 y216.length co130) y216) ∧ (Kd.R Kd.string 9 w' w.heap.size (fun k_ => some k_ ≠ (.slice Ao130 y216.length co130 : Value).ownBlock ∧ some k_ ≠ (.slice Ao17 x5_1.length co17 : Value).ownBlock) v227 y226) ∧ (Kd.R (Kd.int .i64) 3 w' w.heap.size (fun k_ => some k_ ≠ (s_.2.2 : Value).ownBlock ∧ some k_ ≠ (.slice Ao134 x6_1.length co134 : Value).ownBlock) s_.2.1 y236) ∧ (Kd.R (Kd.int .i64) 3 w' w.heap.size (fun k_ => some k_ ≠ (s_.2.1 : Value).ownBlock ∧ some k_ ≠ (.slice Ao134 x6_1.length co134 : Value).ownBlock) s_.2.2 y239) ∧ (Kd.R Kd.string 9 w' w.heap.size (fun k_ => some k_ ≠ (.slice Ao130 y216.length co130 : Value).ownBlock ∧ some k_ ≠ (v227 : Value).ownBlock) (.slice Ao17 x5_1.length co17) x5_1) ∧ (Kd.R (Kd.int .i64) 3 w' w.heap.size (fun k_ => some k_ ≠ (s_.2.1 : Value).ownBlock ∧ some k_ ≠ (s_.2.2 : Value).ownBlock) (.slice Ao134 x6_1.length co134) x6_1) ∧ (Below w.heap.size w w')) ?_ ?_
        rotate_left
        ·intro hCont
         refine two_ (i := 0) (j := 6) (Ni := some 95) (Nj := some 101) #[I,I,I,I,O,I,O,O,I,I,I,O,O] #[O,I,I,I,O,I,I,O,I,I,I,O,O] rfl rfl rfl rfl (two_of HT_.out (by kernel_rfl)) (by decide) (by decide) (fun K hK => ?_) (fun K hK => ?_)
         ·skip
          refine Kd.R_lit_step (Kd.int .i64) _ 3 ?hg (N := 95) ?hd (xs := ([] : List Int)) (inner := []) (ok := fun _ => True) (okp := fun _ => True) ?hr ?hp (fun _ hk => hk) trivial (Below.refl _ _) (Nat.le_refl _) (by simp) ?_; (case hd => rfl); (case hg => rfl); (case hr => first | (go_simp; done) | (go_simp; rfl)); (case hp => exact (Reps.none _ _))
          intro v230 w136 ho137 hb hg_ hnew_
          clear hg_ hnew_
          (first | rw [← Ny229.out] at ho137 | (simp only [Int.reduceToNat] at ho137; rw [← Ny229.out] at ho137))
          have n0_ := Ak (Kd.R_below (by exact RS <| HO_5.out) hb)
          have n1_ := Ak (Kd.R_elder' (by exact RS <| HO_6.out) (Kd.R_base ho137) hb)
          have n2_ := Ak (Kd.R_below (by exact RS <| HO218.out) hb)
          have n3_ := Ak (Kd.R_below (by exact RS <| HO228.out) hb)
          have n4_ := Ak (Kd.R_lower (Kd.R_new' ho137 (Kd.R_lt (by exact RS <| HO_6.out))) (below_size (by exact eS HB.out)))
          have n5_ := Ak (Kd.C_below (by exact Cs HR212.out) hb)
          have n6_ := Ak (Kd.C_below (by exact Cs HR225.out) hb)
          have n7_ := Ak (Kd.C_below (by exact Cs HR235.out) hb)
          have n8_ := Ak (Kd.C_below (by exact Cs HR248.out) hb)
          have n9_ := Ak (below_step (by exact eS HB.out) hb)
          clear HO_5 HO_6 HO218 HO228 HR212 HR225 HR235 HR248 HB; have HO_5 := n0_; have HO_6 := n1_; have HO218 := n2_; have HO228 := n3_; have HO231 := n4_; have HR212 := n5_; have HR225 := n6_; have HR235 := n7_; have HR248 := n8_; have HB := n9_; clear n0_ n1_ n2_ n3_ n4_ n5_ n6_ n7_ n8_ n9_ hb ho137
          refine hK.out _ _ trivial (fun hHeld => ?_); clear hK K
          refine norm_ (a' := ?_) ?_ ?_; rotate_left; (show Act.put _ (some 95) _ = _; simp only [Z]; rfl)
          refine two_ (i := 4) (j := 6) (Ni := some 99) (Nj := some 101) #[I,I,I,I,I,I,O,O,I,I,I,O,O] #[I,I,I,I,O,I,I,O,I,I,I,O,O] rfl rfl rfl rfl (two_of HT_.out (by kernel_rfl)) (by decide) (by decide) (fun K hK => ?_) (fun K hK => ?_)
          ·skip
           refine Kd.R_append_rows_step (Kd.int .i64) (w0 := w) w.heap.size (by rfl) (.tmp 95) (.tmp 98) 25 3 (.int .i64 0) 8 rfl Tryd.underlying25 info3 rfl (by decide) (by omega) v230 y229 y232 _ _ _ (fun k_ => some k_ ≠ (.slice Ao134 x6_1.length co134 : Value).ownBlock) (fun _ => False) rfl rfl ?aO ?aR (fun _ _ h => h) (fun _ h => h.elim) ?aF ?aB ?aS ?aL ?_
           (case aR => exact Cs HR235.out)
           (case aB => exact (by exact eS HB.out))
           (case aF => exact (fun k_ hk => Kd.fresh' (Kd.R_lt (by exact RS <| HO_6.out)) k_ hk))
           (case aO => exact (by exact RS <| Kd.R_mono HO231.out (fun _ hk => hk.2)))
           (case aS => exact (below_size (by exact eS HB.out)))
           (case aL => have := LMc115.out; omega)
           intro v237 w138 ho hb hg hat
           rw [← Ny236.out] at ho
           have n0_ := Ak (Kd.R_over' (by exact RS <| HO_5.out) (Kd.R_typed (by exact RS <| HO231.out)) (by decide) hg)
           have n1_ := Ak (Kd.R_after (ok := (fun _ => True)) (by exact RS <| HO_6.out) hg hat)
           have n2_ := Ak (Kd.R_over' (by exact RS <| HO218.out) (Kd.R_typed (by exact RS <| HO231.out)) (by decide) hg)
           have n3_ := Ak (Kd.R_over' (by exact RS <| HO228.out) (Kd.R_typed (by exact RS <| HO231.out)) (by decide) hg)
           have n4_ := Ak (hb)
           have n5_ := Ak ((Ct Kd.string Ny209.out (Kd.R_over' (by exact RS <| HO_5.out) (Kd.R_typed (by exact RS <| HO231.out)) (by decide) hg) KL121.out))
           have n6_ := Ak ((Cd Kd.string Ny222.out KA122.out (Kd.R_over' (by exact RS <| HO_5.out) (Kd.R_typed (by exact RS <| HO231.out)) (by decide) hg) KL122.out))
           have n7_ := Ak ((Ct (Kd.int .i64) Ny232.out (Kd.R_after (ok := (fun _ => True)) (by exact RS <| HO_6.out) hg hat) KL133.out))
           have n8_ := Ak ((Cd (Kd.int .i64) Ny245.out KA135.out (Kd.R_after (ok := (fun _ => True)) (by exact RS <| HO_6.out) hg hat) KL135.out))
           have n9_ := Ak (ho)
           clear HO_5 HO_6 HO218 HO228 HB HR212 HR225 HR235 HR248 HO231; have HO_5 := n0_; have HO_6 := n1_; have HO218 := n2_; have HO228 := n3_; have HB := n4_; have HR212 := n5_; have HR225 := n6_; have HR235 := n7_; have HR248 := n8_; have HO238 := n9_; clear n0_ n1_ n2_ n3_ n4_ n5_ n6_ n7_ n8_ n9_ ho hb hg hat
           refine hK.out _ _ trivial (fun hHeld => ?_); clear hK K
           refine norm_ (a' := ?_) ?_ ?_; rotate_left; (show Act.put _ (some 99) _ = _; simp only [Z]; rfl)
           refine one_ (i := 6) (N := some 101) #[I,I,I,I,I,I,I,O,I,I,I,O,O] rfl rfl (one_of HT_.out (by kernel_rfl)) (by decide) (fun K hK => ?_)
           refine Kd.R_lit_step (Kd.int .i64) _ 3 ?hg (N := 101) ?hd (xs := ([t110] : List Int)) (inner := [.int .i64 t110]) (ok := fun _ => True) (okp := fun _ => True) ?hr ?hp (fun _ hk => hk) trivial (Below.refl _ _) (Nat.le_refl _) (by simp) ?_; (case hd => rfl); (case hg => rfl); (case hr => first | (go_simp; done) | (go_simp; rfl)); (case hp => exact (Reps.one (show Kd.M (Kd.int .i64) _ _ _ t110 [.int .i64 t110] from rfl) (Reps.none _ _)))
           intro v240 w139 ho140 hb hg_ hnew_
           clear hg_ hnew_
           (first | rw [← Ny239.out] at ho140 | (simp only [Int.reduceToNat] at ho140; rw [← Ny239.out] at ho140))
           have n0_ := Ak (Kd.R_below (by exact RS <| HO_5.out) hb)
           have n1_ := Ak (Kd.R_elder' (by exact RS <| HO_6.out) (Kd.R_base ho140) hb)
           have n2_ := Ak (Kd.R_below (by exact RS <| HO218.out) hb)
           have n3_ := Ak (Kd.R_below (by exact RS <| HO228.out) hb)
           have n4_ := Ak (Kd.R_elder' (by exact RS <| HO238.out) (Kd.R_base ho140) hb)
           have n5_ := Ak (Kd.R_lower (Kd.R_new' (Kd.R_new' ho140 (Kd.R_lt (by exact RS <| HO_6.out))) (Kd.R_lt (by exact RS <| HO238.out))) (below_size (by exact eS HB.out)))
           have n6_ := Ak (Kd.C_below (by exact Cs HR212.out) hb)
           have n7_ := Ak (Kd.C_below (by exact Cs HR225.out) hb)
           have n8_ := Ak (Kd.C_below (by exact Cs HR235.out) hb)
           have n9_ := Ak (Kd.C_below (by exact Cs HR248.out) hb)
           have n10_ := Ak (below_step (by exact eS HB.out) hb)
           clear HO_5 HO_6 HO218 HO228 HO238 HR212 HR225 HR235 HR248 HB; have HO_5 := n0_; have HO_6 := n1_; have HO218 := n2_; have HO228 := n3_; have HO238 := n4_; have HO241 := n5_; have HR212 := n6_; have HR225 := n7_; have HR235 := n8_; have HR248 := n9_; have HB := n10_; clear n0_ n1_ n2_ n3_ n4_ n5_ n6_ n7_ n8_ n9_ n10_ hb ho140
           refine hK.out _ _ trivial (fun hHeld => ?_); clear hK K
           refine norm_ (a' := ?_) ?_ ?_; rotate_left; (show Act.put _ (some 101) _ = _; simp only [Z]; rfl)
           exact norm_ (by simp only [putAll, Act.put, List.setIfInBounds_toArray, List.set_cons_zero, List.set_cons_succ]) (hCont (v230, v237, v240) _ ⟨(by exact RS <| Kd.R_mono HO218.out (fun _ hk => ⟨hk.2, hk.1⟩)), (by exact RS <| Kd.R_mono HO228.out (fun _ hk => ⟨hk.2, hk.1⟩)), (by exact RS <| Kd.R_mono HO238.out (fun _ hk => ⟨hk.2, hk.1⟩)), (by exact RS <| Kd.R_mono HO241.out (fun _ hk => ⟨hk.2, hk.1.2⟩)), (by exact RS <| HO_5.out), (by exact RS <| Kd.R_mono HO_6.out (fun _ hk => ⟨hk.1.2, hk.2⟩)), (by exact eS HB.out)⟩)
          ·skip
           refine Kd.R_lit_step (Kd.int .i64) _ 3 ?hg (N := 101) ?hd (xs := ([t110] : List Int)) (inner := [.int .i64 t110]) (ok := fun _ => True) (okp := fun _ => True) ?hr ?hp (fun _ hk => hk) trivial (Below.refl _ _) (Nat.le_refl _) (by simp) ?_; (case hd => rfl); (case hg => rfl); (case hr => first | (go_simp; done) | (go_simp; rfl)); (case hp => exact (Reps.one (show Kd.M (Kd.int .i64) _ _ _ t110 [.int .i64 t110] from rfl) (Reps.none _ _)))
           intro v240 w138 ho139 hb hg_ hnew_
           clear hg_ hnew_
           (first | rw [← Ny239.out] at ho139 | (simp only [Int.reduceToNat] at ho139; rw [← Ny239.out] at ho139))
           have n0_ := Ak (Kd.R_below (by exact RS <| HO_5.out) hb)
           have n1_ := Ak (Kd.R_elder' (by exact RS <| HO_6.out) (Kd.R_base ho139) hb)
           have n2_ := Ak (Kd.R_below (by exact RS <| HO218.out) hb)
           have n3_ := Ak (Kd.R_below (by exact RS <| HO228.out) hb)
           have n4_ := Ak (Kd.R_elder' (by exact RS <| HO231.out) (Kd.R_base ho139) hb)
           have n5_ := Ak (Kd.R_lower (Kd.R_new' (Kd.R_new' ho139 (Kd.R_lt (by exact RS <| HO_6.out))) (Kd.R_lt (by exact RS <| HO231.out))) (below_size (by exact eS HB.out)))
           have n6_ := Ak (Kd.C_below (by exact Cs HR212.out) hb)
           have n7_ := Ak (Kd.C_below (by exact Cs HR225.out) hb)
           have n8_ := Ak (Kd.C_below (by exact Cs HR235.out) hb)
           have n9_ := Ak (Kd.C_below (by exact Cs HR248.out) hb)
           have n10_ := Ak (below_step (by exact eS HB.out) hb)
           clear HO_5 HO_6 HO218 HO228 HO231 HR212 HR225 HR235 HR248 HB; have HO_5 := n0_; have HO_6 := n1_; have HO218 := n2_; have HO228 := n3_; have HO231 := n4_; have HO241 := n5_; have HR212 := n6_; have HR225 := n7_; have HR235 := n8_; have HR248 := n9_; have HB := n10_; clear n0_ n1_ n2_ n3_ n4_ n5_ n6_ n7_ n8_ n9_ n10_ hb ho139
           refine hK.out _ _ trivial (fun hHeld => ?_); clear hK K
           refine norm_ (a' := ?_) ?_ ?_; rotate_left; (show Act.put _ (some 101) _ = _; simp only [Z]; rfl)
           refine one_ (i := 4) (N := some 99) #[I,I,I,I,I,I,I,O,I,I,I,O,O] rfl rfl (one_of HT_.out (by kernel_rfl)) (by decide) (fun K hK => ?_)
           refine Kd.R_append_rows_step (Kd.int .i64) (w0 := w) w.heap.size (by rfl) (.tmp 95) (.tmp 98) 25 3 (.int .i64 0) 8 rfl Tryd.underlying25 info3 rfl (by decide) (by omega) v230 y229 y232 _ _ _ (fun k_ => some k_ ≠ (.slice Ao134 x6_1.length co134 : Value).ownBlock ∧ some k_ ≠ (v240 : Value).ownBlock) (fun _ => False) rfl rfl ?aO ?aR (fun _ _ h => h) (fun _ h => h.elim) ?aF ?aB ?aS ?aL ?_
           (case aR => exact Cs HR235.out)
           (case aB => exact (by exact eS HB.out))
           (case aF => exact (fun k_ hk => ⟨Kd.fresh' (Kd.R_lt (by exact RS <| HO_6.out)) k_ hk, Kd.fresh' (Kd.R_lt (by exact RS <| HO241.out)) k_ hk⟩))
           (case aO => exact (by exact RS <| Kd.R_mono HO231.out (fun _ hk => ⟨hk.1.2, hk.2⟩)))
           (case aS => exact (below_size (by exact eS HB.out)))
           (case aL => have := LMc115.out; omega)
           intro v237 w140 ho hb hg hat
           rw [← Ny236.out] at ho
           have n0_ := Ak (Kd.R_over' (by exact RS <| HO_5.out) (Kd.R_typed (by exact RS <| HO231.out)) (by decide) hg)
           have n1_ := Ak (Kd.R_after (ok := (fun k_ => some k_ ≠ (v240 : Value).ownBlock)) (by exact RS <| Kd.R_mono HO_6.out (fun _ hk => ⟨hk.2, hk.1.2⟩)) hg hat)
           have n2_ := Ak (Kd.R_over' (by exact RS <| HO218.out) (Kd.R_typed (by exact RS <| HO231.out)) (by decide) hg)
           have n3_ := Ak (Kd.R_over' (by exact RS <| HO228.out) (Kd.R_typed (by exact RS <| HO231.out)) (by decide) hg)
           have n4_ := Ak (Kd.R_after (ok := (fun k_ => some k_ ≠ (.slice Ao134 x6_1.length co134 : Value).ownBlock)) (by exact RS <| Kd.R_mono HO241.out (fun _ hk => ⟨hk.1.2, hk.2⟩)) hg hat)
           have n5_ := Ak (hb)
           have n6_ := Ak ((Ct Kd.string Ny209.out (Kd.R_over' (by exact RS <| HO_5.out) (Kd.R_typed (by exact RS <| HO231.out)) (by decide) hg) KL121.out))
           have n7_ := Ak ((Cd Kd.string Ny222.out KA122.out (Kd.R_over' (by exact RS <| HO_5.out) (Kd.R_typed (by exact RS <| HO231.out)) (by decide) hg) KL122.out))
           have n8_ := Ak ((Ct (Kd.int .i64) Ny232.out (Kd.R_after (ok := (fun k_ => some k_ ≠ (v240 : Value).ownBlock)) (by exact RS <| Kd.R_mono HO_6.out (fun _ hk => ⟨hk.2, hk.1.2⟩)) hg hat) KL133.out))
           have n9_ := Ak ((Cd (Kd.int .i64) Ny245.out KA135.out (Kd.R_after (ok := (fun k_ => some k_ ≠ (v240 : Value).ownBlock)) (by exact RS <| Kd.R_mono HO_6.out (fun _ hk => ⟨hk.2, hk.1.2⟩)) hg hat) KL135.out))
           have n10_ := Ak (ho)
           clear HO_5 HO_6 HO218 HO228 HO241 HB HR212 HR225 HR235 HR248 HO231; have HO_5 := n0_; have HO_6 := n1_; have HO218 := n2_; have HO228 := n3_; have HO241 := n4_; have HB := n5_; have HR212 := n6_; have HR225 := n7_; have HR235 := n8_; have HR248 := n9_; have HO238 := n10_; clear n0_ n1_ n2_ n3_ n4_ n5_ n6_ n7_ n8_ n9_ n10_ ho hb hg hat
           refine hK.out _ _ trivial (fun hHeld => ?_); clear hK K
           refine norm_ (a' := ?_) ?_ ?_; rotate_left; (show Act.put _ (some 99) _ = _; simp only [Z]; rfl)
           exact norm_ (by simp only [putAll, Act.put, List.setIfInBounds_toArray, List.set_cons_zero, List.set_cons_succ]) (hCont (v230, v237, v240) _ ⟨(by exact RS <| Kd.R_mono HO218.out (fun _ hk => ⟨hk.2, hk.1⟩)), (by exact RS <| Kd.R_mono HO228.out (fun _ hk => ⟨hk.2, hk.1⟩)), (by exact RS <| Kd.R_mono HO238.out (fun _ hk => ⟨hk.2, hk.1⟩)), (by exact RS <| Kd.R_mono HO241.out (fun _ hk => ⟨hk.2, hk.1⟩)), (by exact RS <| HO_5.out), (by exact RS <| Kd.R_mono HO_6.out (fun _ hk => ⟨hk.2, hk.1⟩)), (by exact eS HB.out)⟩)
         ·skip
          refine Kd.R_lit_step (Kd.int .i64) _ 3 ?hg (N := 101) ?hd (xs := ([t110] : List Int)) (inner := [.int .i64 t110]) (ok := fun _ => True) (okp := fun _ => True) ?hr ?hp (fun _ hk => hk) trivial (Below.refl _ _) (Nat.le_refl _) (by simp) ?_; (case hd => rfl); (case hg => rfl); (case hr => first | (go_simp; done) | (go_simp; rfl)); (case hp => exact (Reps.one (show Kd.M (Kd.int .i64) _ _ _ t110 [.int .i64 t110] from rfl) (Reps.none _ _)))
          intro v240 w136 ho137 hb hg_ hnew_
          clear hg_ hnew_
          (first | rw [← Ny239.out] at ho137 | (simp only [Int.reduceToNat] at ho137; rw [← Ny239.out] at ho137))
          have n0_ := Ak (Kd.R_below (by exact RS <| HO_5.out) hb)
          have n1_ := Ak (Kd.R_elder' (by exact RS <| HO_6.out) (Kd.R_base ho137) hb)
          have n2_ := Ak (Kd.R_below (by exact RS <| HO218.out) hb)
          have n3_ := Ak (Kd.R_below (by exact RS <| HO228.out) hb)
          have n4_ := Ak (Kd.R_lower (Kd.R_new' ho137 (Kd.R_lt (by exact RS <| HO_6.out))) (below_size (by exact eS HB.out)))
          have n5_ := Ak (Kd.C_below (by exact Cs HR212.out) hb)
          have n6_ := Ak (Kd.C_below (by exact Cs HR225.out) hb)
          have n7_ := Ak (Kd.C_below (by exact Cs HR235.out) hb)
          have n8_ := Ak (Kd.C_below (by exact Cs HR248.out) hb)
          have n9_ := Ak (below_step (by exact eS HB.out) hb)
          clear HO_5 HO_6 HO218 HO228 HR212 HR225 HR235 HR248 HB; have HO_5 := n0_; have HO_6 := n1_; have HO218 := n2_; have HO228 := n3_; have HO241 := n4_; have HR212 := n5_; have HR225 := n6_; have HR235 := n7_; have HR248 := n8_; have HB := n9_; clear n0_ n1_ n2_ n3_ n4_ n5_ n6_ n7_ n8_ n9_ hb ho137
          refine hK.out _ _ trivial (fun hHeld => ?_); clear hK K
          refine norm_ (a' := ?_) ?_ ?_; rotate_left; (show Act.put _ (some 101) _ = _; simp only [Z]; rfl)
          refine one_ (i := 0) (N := some 95) #[I,I,I,I,O,I,I,O,I,I,I,O,O] rfl rfl (one_of HT_.out (by kernel_rfl)) (by decide) (fun K hK => ?_)
          refine Kd.R_lit_step (Kd.int .i64) _ 3 ?hg (N := 95) ?hd (xs := ([] : List Int)) (inner := []) (ok := fun _ => True) (okp := fun _ => True) ?hr ?hp (fun _ hk => hk) trivial (Below.refl _ _) (Nat.le_refl _) (by simp) ?_; (case hd => rfl); (case hg => rfl); (case hr => first | (go_simp; done) | (go_simp; rfl)); (case hp => exact (Reps.none _ _))
          intro v230 w138 ho139 hb hg_ hnew_
          clear hg_ hnew_
          (first | rw [← Ny229.out] at ho139 | (simp only [Int.reduceToNat] at ho139; rw [← Ny229.out] at ho139))
          have n0_ := Ak (Kd.R_below (by exact RS <| HO_5.out) hb)
          have n1_ := Ak (Kd.R_elder' (by exact RS <| HO_6.out) (Kd.R_base ho139) hb)
          have n2_ := Ak (Kd.R_below (by exact RS <| HO218.out) hb)
          have n3_ := Ak (Kd.R_below (by exact RS <| HO228.out) hb)
          have n4_ := Ak (Kd.R_elder' (by exact RS <| HO241.out) (Kd.R_base ho139) hb)
          have n5_ := Ak (Kd.R_lower (Kd.R_new' (Kd.R_new' ho139 (Kd.R_lt (by exact RS <| HO_6.out))) (Kd.R_lt (by exact RS <| HO241.out))) (below_size (by exact eS HB.out)))
          have n6_ := Ak (Kd.C_below (by exact Cs HR212.out) hb)
          have n7_ := Ak (Kd.C_below (by exact Cs HR225.out) hb)
          have n8_ := Ak (Kd.C_below (by exact Cs HR235.out) hb)
          have n9_ := Ak (Kd.C_below (by exact Cs HR248.out) hb)
          have n10_ := Ak (below_step (by exact eS HB.out) hb)
          clear HO_5 HO_6 HO218 HO228 HO241 HR212 HR225 HR235 HR248 HB; have HO_5 := n0_; have HO_6 := n1_; have HO218 := n2_; have HO228 := n3_; have HO241 := n4_; have HO231 := n5_; have HR212 := n6_; have HR225 := n7_; have HR235 := n8_; have HR248 := n9_; have HB := n10_; clear n0_ n1_ n2_ n3_ n4_ n5_ n6_ n7_ n8_ n9_ n10_ hb ho139
          refine hK.out _ _ trivial (fun hHeld => ?_); clear hK K
          refine norm_ (a' := ?_) ?_ ?_; rotate_left; (show Act.put _ (some 95) _ = _; simp only [Z]; rfl)
          refine one_ (i := 4) (N := some 99) #[I,I,I,I,I,I,I,O,I,I,I,O,O] rfl rfl (one_of HT_.out (by kernel_rfl)) (by decide) (fun K hK => ?_)
          refine Kd.R_append_rows_step (Kd.int .i64) (w0 := w) w.heap.size (by rfl) (.tmp 95) (.tmp 98) 25 3 (.int .i64 0) 8 rfl Tryd.underlying25 info3 rfl (by decide) (by omega) v230 y229 y232 _ _ _ (fun k_ => some k_ ≠ (.slice Ao134 x6_1.length co134 : Value).ownBlock ∧ some k_ ≠ (v240 : Value).ownBlock) (fun _ => False) rfl rfl ?aO ?aR (fun _ _ h => h) (fun _ h => h.elim) ?aF ?aB ?aS ?aL ?_
          (case aR => exact Cs HR235.out)
          (case aB => exact (by exact eS HB.out))
          (case aF => exact (fun k_ hk => ⟨Kd.fresh' (Kd.R_lt (by exact RS <| HO_6.out)) k_ hk, Kd.fresh' (Kd.R_lt (by exact RS <| HO241.out)) k_ hk⟩))
          (case aO => exact (by exact RS <| Kd.R_mono HO231.out (fun _ hk => ⟨hk.1.2, hk.2⟩)))
          (case aS => exact (below_size (by exact eS HB.out)))
          (case aL => have := LMc115.out; omega)
          intro v237 w140 ho hb hg hat
          rw [← Ny236.out] at ho
          have n0_ := Ak (Kd.R_over' (by exact RS <| HO_5.out) (Kd.R_typed (by exact RS <| HO231.out)) (by decide) hg)
          have n1_ := Ak (Kd.R_after (ok := (fun k_ => some k_ ≠ (v240 : Value).ownBlock)) (by exact RS <| Kd.R_mono HO_6.out (fun _ hk => ⟨hk.1.2, hk.2⟩)) hg hat)
          have n2_ := Ak (Kd.R_over' (by exact RS <| HO218.out) (Kd.R_typed (by exact RS <| HO231.out)) (by decide) hg)
          have n3_ := Ak (Kd.R_over' (by exact RS <| HO228.out) (Kd.R_typed (by exact RS <| HO231.out)) (by decide) hg)
          have n4_ := Ak (Kd.R_after (ok := (fun k_ => some k_ ≠ (.slice Ao134 x6_1.length co134 : Value).ownBlock)) (by exact RS <| Kd.R_mono HO241.out (fun _ hk => ⟨hk.1.2, hk.2⟩)) hg hat)
          have n5_ := Ak (hb)
          have n6_ := Ak ((Ct Kd.string Ny209.out (Kd.R_over' (by exact RS <| HO_5.out) (Kd.R_typed (by exact RS <| HO231.out)) (by decide) hg) KL121.out))
          have n7_ := Ak ((Cd Kd.string Ny222.out KA122.out (Kd.R_over' (by exact RS <| HO_5.out) (Kd.R_typed (by exact RS <| HO231.out)) (by decide) hg) KL122.out))
          have n8_ := Ak ((Ct (Kd.int .i64) Ny232.out (Kd.R_after (ok := (fun k_ => some k_ ≠ (v240 : Value).ownBlock)) (by exact RS <| Kd.R_mono HO_6.out (fun _ hk => ⟨hk.1.2, hk.2⟩)) hg hat) KL133.out))
          have n9_ := Ak ((Cd (Kd.int .i64) Ny245.out KA135.out (Kd.R_after (ok := (fun k_ => some k_ ≠ (v240 : Value).ownBlock)) (by exact RS <| Kd.R_mono HO_6.out (fun _ hk => ⟨hk.1.2, hk.2⟩)) hg hat) KL135.out))
          have n10_ := Ak (ho)
          clear HO_5 HO_6 HO218 HO228 HO241 HB HR212 HR225 HR235 HR248 HO231; have HO_5 := n0_; have HO_6 := n1_; have HO218 := n2_; have HO228 := n3_; have HO241 := n4_; have HB := n5_; have HR212 := n6_; have HR225 := n7_; have HR235 := n8_; have HR248 := n9_; have HO238 := n10_; clear n0_ n1_ n2_ n3_ n4_ n5_ n6_ n7_ n8_ n9_ n10_ ho hb hg hat
          refine hK.out _ _ trivial (fun hHeld => ?_); clear hK K
          refine norm_ (a' := ?_) ?_ ?_; rotate_left; (show Act.put _ (some 99) _ = _; simp only [Z]; rfl)
          exact norm_ (by simp only [putAll, Act.put, List.setIfInBounds_toArray, List.set_cons_zero, List.set_cons_succ]) (hCont (v230, v237, v240) _ ⟨(by exact RS <| Kd.R_mono HO218.out (fun _ hk => ⟨hk.2, hk.1⟩)), (by exact RS <| Kd.R_mono HO228.out (fun _ hk => ⟨hk.2, hk.1⟩)), (by exact RS <| Kd.R_mono HO238.out (fun _ hk => ⟨hk.2, hk.1⟩)), (by exact RS <| Kd.R_mono HO241.out (fun _ hk => ⟨hk.2, hk.1⟩)), (by exact RS <| HO_5.out), (by exact RS <| Kd.R_mono HO_6.out (fun _ hk => ⟨hk.2, hk.1⟩)), (by exact eS HB.out)⟩)
        rintro ⟨v230, v237, v240⟩ w141 ⟨h0_, h1_, h2_, h3_, h4_, h5_, h6_⟩
        have n0_ : Aside0 (Kd.R Kd.string 9 w141 w.heap.size (fun k_ => some k_ ≠ (v227 : Value).ownBlock ∧ some k_ ≠ (.slice Ao17 x5_1.length co17 : Value).ownBlock) (.slice Ao130 y216.length co130) y216) := ⟨h0_⟩
        have n1_ : Aside0 (Kd.R Kd.string 9 w141 w.heap.size (fun k_ => some k_ ≠ (.slice Ao130 y216.length co130 : Value).ownBlock ∧ some k_ ≠ (.slice Ao17 x5_1.length co17 : Value).ownBlock) v227 y226) := ⟨h1_⟩
        have n2_ : Aside0 (Kd.R (Kd.int .i64) 3 w141 w.heap.size (fun k_ => some k_ ≠ (v240 : Value).ownBlock ∧ some k_ ≠ (.slice Ao134 x6_1.length co134 : Value).ownBlock) v237 y236) := ⟨h2_⟩
        have n3_ : Aside0 (Kd.R (Kd.int .i64) 3 w141 w.heap.size (fun k_ => some k_ ≠ (v237 : Value).ownBlock ∧ some k_ ≠ (.slice Ao134 x6_1.length co134 : Value).ownBlock) v240 y239) := ⟨h3_⟩
        have n4_ : Aside0 (Kd.R Kd.string 9 w141 w.heap.size (fun k_ => some k_ ≠ (.slice Ao130 y216.length co130 : Value).ownBlock ∧ some k_ ≠ (v227 : Value).ownBlock) (.slice Ao17 x5_1.length co17) x5_1) := ⟨h4_⟩
        have n5_ : Aside0 (Kd.R (Kd.int .i64) 3 w141 w.heap.size (fun k_ => some k_ ≠ (v237 : Value).ownBlock ∧ some k_ ≠ (v240 : Value).ownBlock) (.slice Ao134 x6_1.length co134) x6_1) := ⟨h5_⟩
        have n6_ : Aside0 (Below w.heap.size w w141) := ⟨h6_⟩
        clear HO_5 HO_6 HO218 HO228 HR212 HR225 HB h0_ h1_ h2_ h3_ h4_ h5_ h6_; have HO218 := n0_; have HO228 := n1_; have HO238 := n2_; have HO241 := n3_; have HO_5 := n4_; have HO_6 := n5_; have HB := n6_; clear n0_ n1_ n2_ n3_ n4_ n5_ n6_
        have hHeld := trivial
        have HR212 := Ak (Ct Kd.string Ny209.out (HO_5.out) KL121.out)
        have HR225 := Ak (Cd Kd.string Ny222.out KA122.out (HO_5.out) KL122.out)
        have HR235 := Ak (Ct (Kd.int .i64) Ny232.out (HO_6.out) KL133.out)
        have HR248 := Ak (Cd (Kd.int .i64) Ny245.out KA135.out (HO_6.out) KL135.out)
        obtain ⟨Ao143, co143, eo143⟩ := Kd.R_slice HO241.out
        (first | subst eo143 | (injection eo143 with f1_ f2_ f3_; have f4_ := f1_.symm; have f5_ := f3_.symm; clear f1_ f2_ f3_; subst f4_; subst f5_))
        refine norm_ (a' := ?_) ?_ ?_
        rotate_left
        ·simp only [putAll, Act.put, List.setIfInBounds_toArray, List.set_cons_zero, List.set_cons_succ]
         rfl
        refine one_ (i := 7) (N := some 102) #[I,I,I,I,I,I,I,I,I,I,I,O,O] rfl rfl (one_of HT_.out (by kernel_rfl)) (by decide) (fun K hK => ?_)
        refine Kd.R_append_rows_step (Kd.int .i64) (w0 := w) w.heap.size (by rfl) (.tmp 99) (.tmp 101) 25 3 (.int .i64 0) 8 rfl Tryd.underlying25 info3 rfl (by decide) (by omega) v237 y236 y239 _ _ _ (fun k_ => some k_ ≠ (.slice Ao134 x6_1.length co134 : Value).ownBlock ∧ some k_ ≠ (.slice Ao143 y239.length co143 : Value).ownBlock) (fun _ => False) rfl rfl ?aO ?aR (fun _ _ h => h) (fun _ h => h.elim) ?aF ?aB ?aS ?aL ?_
        (case aR => repeat (first | exact (Kd.R_reads' HO241.out).2.2 | (with_reducible refine Kd.C_alloc ?_ _) | (with_reducible refine Kd.C_drewN ?_ _) | (with_reducible refine Kd.C_drew ?_)))
        (case aB => exact (by exact eS HB.out))
        (case aF => exact (fun k_ hk => ⟨Kd.fresh' (Kd.R_lt (by exact RS <| HO_6.out)) k_ hk, Kd.fresh' (Kd.R_lt (by exact RS <| HO241.out)) k_ hk⟩))
        (case aO => exact (by exact RS <| Kd.R_mono HO238.out (fun _ hk => ⟨hk.2, hk.1⟩)))
        (case aS => exact (below_size (by exact eS HB.out)))
        (case aL => have := LMc116.out; omega)
        intro v243 w142 ho hb hg hat
        rw [← Ny242.out] at ho
        have n0_ := Ak (Kd.R_over' (by exact RS <| HO_5.out) (Kd.R_typed (by exact RS <| HO238.out)) (by decide) hg)
        have n1_ := Ak (Kd.R_after (ok := (fun k_ => some k_ ≠ (.slice Ao143 y239.length co143 : Value).ownBlock)) (by exact RS <| Kd.R_mono HO_6.out (fun _ hk => ⟨hk.2, hk.1⟩)) hg hat)
        have n2_ := Ak (Kd.R_over' (by exact RS <| HO218.out) (Kd.R_typed (by exact RS <| HO238.out)) (by decide) hg)
        have n3_ := Ak (Kd.R_over' (by exact RS <| HO228.out) (Kd.R_typed (by exact RS <| HO238.out)) (by decide) hg)
        have n4_ := Ak (Kd.R_after (ok := (fun k_ => some k_ ≠ (.slice Ao134 x6_1.length co134 : Value).ownBlock)) (by exact RS <| Kd.R_mono HO241.out (fun _ hk => ⟨hk.2, hk.1⟩)) hg hat)
        have n5_ := Ak (hb)
        have n6_ := Ak ((Ct Kd.string Ny209.out (Kd.R_over' (by exact RS <| HO_5.out) (Kd.R_typed (by exact RS <| HO238.out)) (by decide) hg) KL121.out))
        have n7_ := Ak ((Cd Kd.string Ny222.out KA122.out (Kd.R_over' (by exact RS <| HO_5.out) (Kd.R_typed (by exact RS <| HO238.out)) (by decide) hg) KL122.out))
        have n8_ := Ak ((Ct (Kd.int .i64) Ny232.out (Kd.R_after (ok := (fun k_ => some k_ ≠ (.slice Ao143 y239.length co143 : Value).ownBlock)) (by exact RS <| Kd.R_mono HO_6.out (fun _ hk => ⟨hk.2, hk.1⟩)) hg hat) KL133.out))
        have n9_ := Ak ((Cd (Kd.int .i64) Ny245.out KA135.out (Kd.R_after (ok := (fun k_ => some k_ ≠ (.slice Ao143 y239.length co143 : Value).ownBlock)) (by exact RS <| Kd.R_mono HO_6.out (fun _ hk => ⟨hk.2, hk.1⟩)) hg hat) KL135.out))
        have n10_ := Ak (ho)
        clear HO_5 HO_6 HO218 HO228 HO241 HB HR212 HR225 HR235 HR248 HO238; have HO_5 := n0_; have HO_6 := n1_; have HO218 := n2_; have HO228 := n3_; have HO241 := n4_; have HB := n5_; have HR212 := n6_; have HR225 := n7_; have HR235 := n8_; have HR248 := n9_; have HO244 := n10_; clear n0_ n1_ n2_ n3_ n4_ n5_ n6_ n7_ n8_ n9_ n10_ ho hb hg hat
        refine hK.out _ _ trivial (fun hHeld => ?_); clear hK K
        refine norm_ (a' := ?_) ?_ ?_; rotate_left; (show Act.put _ (some 102) _ = _; simp only [Z]; rfl)
        refine one_ (i := 11) (N := some 106) #[I,I,I,I,I,I,I,I,I,I,I,I,O] rfl rfl (one_of HT_.out (by kernel_rfl)) (by decide) (fun K hK => ?_)
        refine Kd.R_append_rows_step (Kd.int .i64) (w0 := w) w.heap.size (by rfl) (.tmp 102) (.tmp 105) 25 3 (.int .i64 0) 8 rfl Tryd.underlying25 info3 rfl (by decide) (by omega) v243 y242 y245 _ _ _ (fun k_ => some k_ ≠ (.slice Ao134 x6_1.length co134 : Value).ownBlock ∧ some k_ ≠ (.slice Ao143 y239.length co143 : Value).ownBlock) (fun _ => False) rfl rfl ?aO ?aR (fun _ _ h => h) (fun _ h => h.elim) ?aF ?aB ?aS ?aL ?_
        (case aR => exact Cs HR248.out)
        (case aB => exact (by exact eS HB.out))
        (case aF => exact (fun k_ hk => ⟨Kd.fresh' (Kd.R_lt (by exact RS <| HO_6.out)) k_ hk, Kd.fresh' (Kd.R_lt (by exact RS <| HO241.out)) k_ hk⟩))
        (case aO => exact (by exact RS <| HO244.out))
        (case aS => exact (below_size (by exact eS HB.out)))
        (case aL => have := LMc119.out; omega)
        intro v250 w144 ho hb hg hat
        rw [← Ny249.out] at ho
        have n0_ := Ak (Kd.R_over' (by exact RS <| HO_5.out) (Kd.R_typed (by exact RS <| HO244.out)) (by decide) hg)
        have n1_ := Ak (Kd.R_after (ok := (fun k_ => some k_ ≠ (.slice Ao143 y239.length co143 : Value).ownBlock)) (by exact RS <| HO_6.out) hg hat)
        have n2_ := Ak (Kd.R_over' (by exact RS <| HO218.out) (Kd.R_typed (by exact RS <| HO244.out)) (by decide) hg)
        have n3_ := Ak (Kd.R_over' (by exact RS <| HO228.out) (Kd.R_typed (by exact RS <| HO244.out)) (by decide) hg)
        have n4_ := Ak (Kd.R_after (ok := (fun k_ => some k_ ≠ (.slice Ao134 x6_1.length co134 : Value).ownBlock)) (by exact RS <| HO241.out) hg hat)
        have n5_ := Ak (hb)
        have n6_ := Ak ((Ct Kd.string Ny209.out (Kd.R_over' (by exact RS <| HO_5.out) (Kd.R_typed (by exact RS <| HO244.out)) (by decide) hg) KL121.out))
        have n7_ := Ak ((Cd Kd.string Ny222.out KA122.out (Kd.R_over' (by exact RS <| HO_5.out) (Kd.R_typed (by exact RS <| HO244.out)) (by decide) hg) KL122.out))
        have n8_ := Ak ((Ct (Kd.int .i64) Ny232.out (Kd.R_after (ok := (fun k_ => some k_ ≠ (.slice Ao143 y239.length co143 : Value).ownBlock)) (by exact RS <| HO_6.out) hg hat) KL133.out))
        have n9_ := Ak ((Cd (Kd.int .i64) Ny245.out KA135.out (Kd.R_after (ok := (fun k_ => some k_ ≠ (.slice Ao143 y239.length co143 : Value).ownBlock)) (by exact RS <| HO_6.out) hg hat) KL135.out))
        have n10_ := Ak (ho)
        clear HO_5 HO_6 HO218 HO228 HO241 HB HR212 HR225 HR235 HR248 HO244; have HO_5 := n0_; have HO_6 := n1_; have HO218 := n2_; have HO228 := n3_; have HO241 := n4_; have HB := n5_; have HR212 := n6_; have HR225 := n7_; have HR235 := n8_; have HR248 := n9_; have HO251 := n10_; clear n0_ n1_ n2_ n3_ n4_ n5_ n6_ n7_ n8_ n9_ n10_ ho hb hg hat
        refine hK.out _ _ trivial (fun hHeld => ?_); clear hK K
        refine norm_ (a' := ?_) ?_ ?_; rotate_left; (show Act.put _ (some 106) _ = _; simp only [Z]; rfl)
        refine pure_ (i := 12) (N := some 6) (v := ?_) (a' := ?_) #[I,I,I,I,I,I,I,I,I,I,I,I,I] rfl rfl (any_of HT_.out (by kernel_rfl)) (fun _ _ _ h => h) (Or.inl ⟨by rfl, ?_⟩) ?_ ?_
        rotate_left; (intro w'; go_simp; with_reducible rfl); rotate_left; (simp only [Z]; rfl)
        refine done_ (done_of HT_.out (by kernel_rfl)) ?_
        try go_wp2
        go_roundg k3
        case measure => have := HK1.out; have := HK2.out; have := HK3.out; omega
        case rel => exact ⟨(y226), (y249), (wrap64 (x7_1 + 1)), (by first | rfl | (simp; done) | (simp [*]; done)), H', ⟨by have := HK1.out; have := HK2.out; have := HK3.out; omega⟩, ⟨by exact RS <| Kd.R_mono HO228.out (fun _ hk => trivial)⟩, ⟨by exact RS <| Kd.R_mono HO251.out (fun _ hk => trivial)⟩, ⟨by exact eS HB.out⟩⟩
       rw [if_pos c18] at H
       have c18b0 : decide (0 < x11_3) = true := decide_eq_true c18
       clear c18
       obtain ⟨ji19, hji19⟩ : ∃ j_ : Int, (wrap64 (x11_3 - 1)) = j_ := ⟨_, rfl⟩
       replace H : (if 0 ≤ (ji19) then (if (ji19) < (x6_1.length : Int) then (if (rd x6_1 (ji19)) < t110 then (Fa.l2 k3 l0 x5_1 x6_1 x7_1 ((rd_T41 l0 x7_1).f1) ji19 t110) else (if (rd x6_1 (ji19)) = t110 then (if (ji19) < (x5_1.length : Int) then (if (Op.bytesLess ((rd_T41 l0 x7_1).f1).toList ((rdOf ByteArray.empty x5_1 (ji19)).toList)) = true then (Fa.l2 k3 l0 x5_1 x6_1 x7_1 ((rd_T41 l0 x7_1).f1) ji19 t110) else ((some (([] : List ByteArray) : List ByteArray)).bind fun y114 => (if 0 ≤ x11_3 then (if x11_3 ≤ (x5_1.length : Int) then ((some (x5_1.take (x11_3 : Int).toNat : List ByteArray)).bind fun y117 => (if y114.length + y117.length < 8796093022208 then ((some (y114 ++ y117 : List ByteArray)).bind fun y121 => ((some (([((rd_T41 l0 x7_1).f1)] : List ByteArray) : List ByteArray)).bind fun y124 => (if y121.length + y124.length < 8796093022208 then ((some (y121 ++ y124 : List ByteArray)).bind fun y127 => ((some (x5_1.drop (x11_3 : Int).toNat : List ByteArray)).bind fun y130 => (if y127.length + y130.length < 8796093022208 then ((some (([] : List Int) : List Int)).bind fun y137 => (if x11_3 ≤ (x6_1.length : Int) then ((some (x6_1.take (x11_3 : Int).toNat : List Int)).bind fun y140 => (if y137.length + y140.length < 17592186044416 then ((some (y137 ++ y140 : List Int)).bind fun y144 => ((some (([t110] : List Int) : List Int)).bind fun y147 => (if y144.length + y147.length < 17592186044416 then ((some (y144 ++ y147 : List Int)).bind fun y150 => ((some (x6_1.drop (x11_3 : Int).toNat : List Int)).bind fun y153 => (if y150.length + y153.length < 17592186044416 then (Fa.l0 k3 l0 (y127 ++ y130) (y150 ++ y153) (wrap64 (x7_1 + 1))) else (none)))) else (none)))) else (none))) else (none))) else (none)))) else (none)))) else (none))) else (none)) else (none)))) else (none)) else ((some (([] : List ByteArray) : List ByteArray)).bind fun y160 => (if 0 ≤ x11_3 then (if x11_3 ≤ (x5_1.length : Int) then ((some (x5_1.take (x11_3 : Int).toNat : List ByteArray)).bind fun y163 => (if y160.length + y163.length < 8796093022208 then ((some (y160 ++ y163 : List ByteArray)).bind fun y167 => ((some (([((rd_T41 l0 x7_1).f1)] : List ByteArray) : List ByteArray)).bind fun y170 => (if y167.length + y170.length < 8796093022208 then ((some (y167 ++ y170 : List ByteArray)).bind fun y173 => ((some (x5_1.drop (x11_3 : Int).toNat : List ByteArray)).bind fun y176 => (if y173.length + y176.length < 8796093022208 then ((some (([] : List Int) : List Int)).bind fun y183 => (if x11_3 ≤ (x6_1.length : Int) then ((some (x6_1.take (x11_3 : Int).toNat : List Int)).bind fun y186 => (if y183.length + y186.length < 17592186044416 then ((some (y183 ++ y186 : List Int)).bind fun y190 => ((some (([t110] : List Int) : List Int)).bind fun y193 => (if y190.length + y193.length < 17592186044416 then ((some (y190 ++ y193 : List Int)).bind fun y196 => ((some (x6_1.drop (x11_3 : Int).toNat : List Int)).bind fun y199 => (if y196.length + y199.length < 17592186044416 then (Fa.l0 k3 l0 (y173 ++ y176) (y196 ++ y199) (wrap64 (x7_1 + 1))) else (none)))) else (none)))) else (none))) else (none))) else (none)))) else (none)))) else (none))) else (none)) else (none))))) else (none)) else (none)) = some (r1, r2, r3) := by first | (rw [hji19] at H; exact H) | (simp only [hji19] at H ⊢; exact H)
       have hji19w : (IntKind.i64.wrap (x11_3 - 1)) = ji19 := (i64_w _).trans hji19
       by_cases c20 : 0 ≤ (ji19)
       rotate_left
       ·rw [if_neg c20] at H
        exact absurd H (by simp)
       rw [if_pos c20] at H
       have c20b0 : decide (0 ≤ (ji19)) = true := decide_eq_true c20
       clear c20
       by_cases c21 : (ji19) < (x6_1.length : Int)
       rotate_left
       ·rw [if_neg c21] at H
        exact absurd H (by simp)
       rw [if_pos c21] at H
       have c21b0 : decide ((ji19) < (x6_1.length : Int)) = true := decide_eq_true c21
       clear c21
       by_cases c22 : (rd x6_1 (ji19)) < t110
       ·rw [if_pos c22] at H
        have c22b0 : decide ((rd x6_1 (ji19)) < t110) = true := decide_eq_true c22
        clear c22
        have H' := Ak H
        clear H
        obtain ⟨Ao23, co23, eo23⟩ := Kd.R_slice HO_6.out
        subst eo23
        have p111 : 0 ≤ ((ji19) : Int) := Dz
        have q111 : (ji19) < (x6_1.length : Int) := Dz
        obtain ⟨ad111, e111, hx111_0⟩ := Kd.at_int (Kd.R_reads' HO_6.out).2.2 (ji19) p111 q111
        cases e111
        replace p111 := eq_true p111; replace q111 := eq_true q111
        go_wp2
        go_roundg k3
        case measure => have := HK1.out; have := HK2.out; have := HK3.out; omega
        case rel => exact ⟨(ji19), (by first | rfl | (simp; done) | (simp only [← hji19] <;> (first | rfl | simp)) | (simp [*]; done)), H', ⟨by have := HK1.out; have := HK2.out; have := HK3.out; omega⟩, ⟨by exact RS <| HO_5.out⟩, ⟨by exact RS <| HO_6.out⟩, ⟨by exact eS HB.out⟩⟩
       rw [if_neg c22] at H
       have c22b0 : decide ((rd x6_1 (ji19)) < t110) = false := decide_eq_false c22
       clear c22
       by_cases c24 : (rd x6_1 (ji19)) = t110
       rotate_left
       ·rw [if_neg c24] at H
        have c24b0 : ((rd x6_1 (ji19)) == t110) = false := beq_eq_false_iff_ne.mpr c24
        have c24b1 : ((rd x6_1 (ji19)) != t110) = true := bne_iff_ne.mpr c24
        obtain ⟨y160, hy160⟩ : ∃ y_ : List ByteArray, y_ = (([] : List ByteArray)) := ⟨_, rfl⟩
        replace H : (if 0 ≤ x11_3 then (if x11_3 ≤ (x5_1.length : Int) then ((some (x5_1.take (x11_3 : Int).toNat : List ByteArray)).bind fun y163 => (if y160.length + y163.length < 8796093022208 then ((some (y160 ++ y163 : List ByteArray)).bind fun y167 => ((some (([((rd_T41 l0 x7_1).f1)] : List ByteArray) : List ByteArray)).bind fun y170 => (if y167.length + y170.length < 8796093022208 then ((some (y167 ++ y170 : List ByteArray)).bind fun y173 => ((some (x5_1.drop (x11_3 : Int).toNat : List ByteArray)).bind fun y176 => (if y173.length + y176.length < 8796093022208 then ((some (([] : List Int) : List Int)).bind fun y183 => (if x11_3 ≤ (x6_1.length : Int) then ((some (x6_1.take (x11_3 : Int).toNat : List Int)).bind fun y186 => (if y183.length + y186.length < 17592186044416 then ((some (y183 ++ y186 : List Int)).bind fun y190 => ((some (([t110] : List Int) : List Int)).bind fun y193 => (if y190.length + y193.length < 17592186044416 then ((some (y190 ++ y193 : List Int)).bind fun y196 => ((some (x6_1.drop (x11_3 : Int).toNat : List Int)).bind fun y199 => (if y196.length + y199.length < 17592186044416 then (Fa.l0 k3 l0 (y173 ++ y176) (y196 ++ y199) (wrap64 (x7_1 + 1))) else (none)))) else (none)))) else (none))) else (none))) else (none)))) else (none)))) else (none))) else (none)) else (none)) = some (r1, r2, r3) := by first | (rw [hy160]; with_reducible exact H) | (have H2_ := (Option.bind_some _ _).symm.trans H; rw [hy160]; with_reducible exact H2_) | (have H2_ := (Option.bind_some _ _).symm.trans H; with_reducible exact H2_) | with_reducible exact H | (rw [hy160]; exact H) | exact H
        have Ny160 := Ak hy160
        clear hy160
        by_cases c67 : 0 ≤ x11_3
        rotate_left
        ·rw [if_neg c67] at H
         exact absurd H (by simp)
        rw [if_pos c67] at H
        have c67b0 := eq_true c67
        have c67b1 : decide (0 ≤ x11_3) = true := decide_eq_true c67
        clear c67
        by_cases c68 : x11_3 ≤ (x5_1.length : Int)
        rotate_left
        ·rw [if_neg c68] at H
         exact absurd H (by simp)
        rw [if_pos c68] at H
        have c68b0 := eq_true c68
        have c68b1 : decide (x11_3 ≤ (x5_1.length : Int)) = true := decide_eq_true c68
        clear c68
        obtain ⟨y163, hy163⟩ : ∃ y_ : List ByteArray, y_ = (x5_1.take (x11_3 : Int).toNat) := ⟨_, rfl⟩
        replace H : (if y160.length + y163.length < 8796093022208 then ((some (y160 ++ y163 : List ByteArray)).bind fun y167 => ((some (([((rd_T41 l0 x7_1).f1)] : List ByteArray) : List ByteArray)).bind fun y170 => (if y167.length + y170.length < 8796093022208 then ((some (y167 ++ y170 : List ByteArray)).bind fun y173 => ((some (x5_1.drop (x11_3 : Int).toNat : List ByteArray)).bind fun y176 => (if y173.length + y176.length < 8796093022208 then ((some (([] : List Int) : List Int)).bind fun y183 => (if x11_3 ≤ (x6_1.length : Int) then ((some (x6_1.take (x11_3 : Int).toNat : List Int)).bind fun y186 => (if y183.length + y186.length < 17592186044416 then ((some (y183 ++ y186 : List Int)).bind fun y190 => ((some (([t110] : List Int) : List Int)).bind fun y193 => (if y190.length + y193.length < 17592186044416 then ((some (y190 ++ y193 : List Int)).bind fun y196 => ((some (x6_1.drop (x11_3 : Int).toNat : List Int)).bind fun y199 => (if y196.length + y199.length < 17592186044416 then (Fa.l0 k3 l0 (y173 ++ y176) (y196 ++ y199) (wrap64 (x7_1 + 1))) else (none)))) else (none)))) else (none))) else (none))) else (none)))) else (none)))) else (none)) = some (r1, r2, r3) := by first | (rw [hy163]; with_reducible exact H) | (have H2_ := (Option.bind_some _ _).symm.trans H; rw [hy163]; with_reducible exact H2_) | (have H2_ := (Option.bind_some _ _).symm.trans H; with_reducible exact H2_) | with_reducible exact H | (rw [hy163]; exact H) | exact H
        have Ny163 := Ak hy163
        clear hy163
        by_cases c69 : y160.length + y163.length < 8796093022208
        rotate_left
        ·rw [if_neg c69] at H
         exact absurd H (by simp)
        rw [if_pos c69] at H
        have LMc69 := Ak c69
        clear c69
        obtain ⟨y167, hy167⟩ : ∃ y_ : List ByteArray, y_ = (y160 ++ y163) := ⟨_, rfl⟩
        replace H : ((some (([((rd_T41 l0 x7_1).f1)] : List ByteArray) : List ByteArray)).bind fun y170 => (if y167.length + y170.length < 8796093022208 then ((some (y167 ++ y170 : List ByteArray)).bind fun y173 => ((some (x5_1.drop (x11_3 : Int).toNat : List ByteArray)).bind fun y176 => (if y173.length + y176.length < 8796093022208 then ((some (([] : List Int) : List Int)).bind fun y183 => (if x11_3 ≤ (x6_1.length : Int) then ((some (x6_1.take (x11_3 : Int).toNat : List Int)).bind fun y186 => (if y183.length + y186.length < 17592186044416 then ((some (y183 ++ y186 : List Int)).bind fun y190 => ((some (([t110] : List Int) : List Int)).bind fun y193 => (if y190.length + y193.length < 17592186044416 then ((some (y190 ++ y193 : List Int)).bind fun y196 => ((some (x6_1.drop (x11_3 : Int).toNat : List Int)).bind fun y199 => (if y196.length + y199.length < 17592186044416 then (Fa.l0 k3 l0 (y173 ++ y176) (y196 ++ y199) (wrap64 (x7_1 + 1))) else (none)))) else (none)))) else (none))) else (none))) else (none)))) else (none))) = some (r1, r2, r3) := by first | (rw [hy167]; with_reducible exact H) | (have H2_ := (Option.bind_some _ _).symm.trans H; rw [hy167]; with_reducible exact H2_) | (have H2_ := (Option.bind_some _ _).symm.trans H; with_reducible exact H2_) | with_reducible exact H | (rw [hy167]; exact H) | exact H
        have Ny167 := Ak hy167
        clear hy167
        obtain ⟨y170, hy170⟩ : ∃ y_ : List ByteArray, y_ = (([((rd_T41 l0 x7_1).f1)] : List ByteArray)) := ⟨_, rfl⟩
        replace H : (if y167.length + y170.length < 8796093022208 then ((some (y167 ++ y170 : List ByteArray)).bind fun y173 => ((some (x5_1.drop (x11_3 : Int).toNat : List ByteArray)).bind fun y176 => (if y173.length + y176.length < 8796093022208 then ((some (([] : List Int) : List Int)).bind fun y183 => (if x11_3 ≤ (x6_1.length : Int) then ((some (x6_1.take (x11_3 : Int).toNat : List Int)).bind fun y186 => (if y183.length + y186.length < 17592186044416 then ((some (y183 ++ y186 : List Int)).bind fun y190 => ((some (([t110] : List Int) : List Int)).bind fun y193 => (if y190.length + y193.length < 17592186044416 then ((some (y190 ++ y193 : List Int)).bind fun y196 => ((some (x6_1.drop (x11_3 : Int).toNat : List Int)).bind fun y199 => (if y196.length + y199.length < 17592186044416 then (Fa.l0 k3 l0 (y173 ++ y176) (y196 ++ y199) (wrap64 (x7_1 + 1))) else (none)))) else (none)))) else (none))) else (none))) else (none)))) else (none)) = some (r1, r2, r3) := by first | (rw [hy170]; with_reducible exact H) | (have H2_ := (Option.bind_some _ _).symm.trans H; rw [hy170]; with_reducible exact H2_) | (have H2_ := (Option.bind_some _ _).symm.trans H; with_reducible exact H2_) | with_reducible exact H | (rw [hy170]; exact H) | exact H
        have Ny170 := Ak hy170
        clear hy170
        by_cases c70 : y167.length + y170.length < 8796093022208
        rotate_left
        ·rw [if_neg c70] at H
         exact absurd H (by simp)
        rw [if_pos c70] at H
        have LMc70 := Ak c70
        clear c70
        obtain ⟨y173, hy173⟩ : ∃ y_ : List ByteArray, y_ = (y167 ++ y170) := ⟨_, rfl⟩
        replace H : ((some (x5_1.drop (x11_3 : Int).toNat : List ByteArray)).bind fun y176 => (if y173.length + y176.length < 8796093022208 then ((some (([] : List Int) : List Int)).bind fun y183 => (if x11_3 ≤ (x6_1.length : Int) then ((some (x6_1.take (x11_3 : Int).toNat : List Int)).bind fun y186 => (if y183.length + y186.length < 17592186044416 then ((some (y183 ++ y186 : List Int)).bind fun y190 => ((some (([t110] : List Int) : List Int)).bind fun y193 => (if y190.length + y193.length < 17592186044416 then ((some (y190 ++ y193 : List Int)).bind fun y196 => ((some (x6_1.drop (x11_3 : Int).toNat : List Int)).bind fun y199 => (if y196.length + y199.length < 17592186044416 then (Fa.l0 k3 l0 (y173 ++ y176) (y196 ++ y199) (wrap64 (x7_1 + 1))) else (none)))) else (none)))) else (none))) else (none))) else (none))) = some (r1, r2, r3) := by first | (rw [hy173]; with_reducible exact H) | (have H2_ := (Option.bind_some _ _).symm.trans H; rw [hy173]; with_reducible exact H2_) | (have H2_ := (Option.bind_some _ _).symm.trans H; with_reducible exact H2_) | with_reducible exact H | (rw [hy173]; exact H) | exact H
        have Ny173 := Ak hy173
        clear hy173
        have c71b0 := eq_true (Dz : 0 ≤ x11_3)
        have c72b0 := eq_true (Dz : x11_3 ≤ (x5_1.length : Int))
        obtain ⟨y176, hy176⟩ : ∃ y_ : List ByteArray, y_ = (x5_1.drop (x11_3 : Int).toNat) := ⟨_, rfl⟩
        replace H : (if y173.length + y176.length < 8796093022208 then ((some (([] : List Int) : List Int)).bind fun y183 => (if x11_3 ≤ (x6_1.length : Int) then ((some (x6_1.take (x11_3 : Int).toNat : List Int)).bind fun y186 => (if y183.length + y186.length < 17592186044416 then ((some (y183 ++ y186 : List Int)).bind fun y190 => ((some (([t110] : List Int) : List Int)).bind fun y193 => (if y190.length + y193.length < 17592186044416 then ((some (y190 ++ y193 : List Int)).bind fun y196 => ((some (x6_1.drop (x11_3 : Int).toNat : List Int)).bind fun y199 => (if y196.length + y199.length < 17592186044416 then (Fa.l0 k3 l0 (y173 ++ y176) (y196 ++ y199) (wrap64 (x7_1 + 1))) else (none)))) else (none)))) else (none))) else (none))) else (none)) = some (r1, r2, r3) := by first | (rw [hy176]; with_reducible exact H) | (have H2_ := (Option.bind_some _ _).symm.trans H; rw [hy176]; with_reducible exact H2_) | (have H2_ := (Option.bind_some _ _).symm.trans H; with_reducible exact H2_) | with_reducible exact H | (rw [hy176]; exact H) | exact H
        have Ny176 := Ak hy176
        clear hy176
        by_cases c73 : y173.length + y176.length < 8796093022208
        rotate_left
        ·rw [if_neg c73] at H
         exact absurd H (by simp)
        rw [if_pos c73] at H
        have LMc73 := Ak c73
        clear c73
        obtain ⟨y180, hy180⟩ : ∃ y_ : List ByteArray, y_ = (y173 ++ y176) := ⟨_, rfl⟩
        replace H : ((some (([] : List Int) : List Int)).bind fun y183 => (if x11_3 ≤ (x6_1.length : Int) then ((some (x6_1.take (x11_3 : Int).toNat : List Int)).bind fun y186 => (if y183.length + y186.length < 17592186044416 then ((some (y183 ++ y186 : List Int)).bind fun y190 => ((some (([t110] : List Int) : List Int)).bind fun y193 => (if y190.length + y193.length < 17592186044416 then ((some (y190 ++ y193 : List Int)).bind fun y196 => ((some (x6_1.drop (x11_3 : Int).toNat : List Int)).bind fun y199 => (if y196.length + y199.length < 17592186044416 then (Fa.l0 k3 l0 y180 (y196 ++ y199) (wrap64 (x7_1 + 1))) else (none)))) else (none)))) else (none))) else (none))) = some (r1, r2, r3) := by first | (rw [hy180]; with_reducible exact H) | (have H2_ := (Option.bind_some _ _).symm.trans H; rw [hy180]; with_reducible exact H2_) | (have H2_ := (Option.bind_some _ _).symm.trans H; with_reducible exact H2_) | with_reducible exact H | (rw [hy180]; exact H) | exact H
        have Ny180 := Ak hy180
        clear hy180
        obtain ⟨y183, hy183⟩ : ∃ y_ : List Int, y_ = (([] : List Int)) := ⟨_, rfl⟩
        replace H : (if x11_3 ≤ (x6_1.length : Int) then ((some (x6_1.take (x11_3 : Int).toNat : List Int)).bind fun y186 => (if y183.length + y186.length < 17592186044416 then ((some (y183 ++ y186 : List Int)).bind fun y190 => ((some (([t110] : List Int) : List Int)).bind fun y193 => (if y190.length + y193.length < 17592186044416 then ((some (y190 ++ y193 : List Int)).bind fun y196 => ((some (x6_1.drop (x11_3 : Int).toNat : List Int)).bind fun y199 => (if y196.length + y199.length < 17592186044416 then (Fa.l0 k3 l0 y180 (y196 ++ y199) (wrap64 (x7_1 + 1))) else (none)))) else (none)))) else (none))) else (none)) = some (r1, r2, r3) := by first | (rw [hy183]; with_reducible exact H) | (have H2_ := (Option.bind_some _ _).symm.trans H; rw [hy183]; with_reducible exact H2_) | (have H2_ := (Option.bind_some _ _).symm.trans H; with_reducible exact H2_) | with_reducible exact H | (rw [hy183]; exact H) | exact H
        have Ny183 := Ak hy183
        clear hy183
        have c74b0 := eq_true (Dz : 0 ≤ x11_3)
        by_cases c75 : x11_3 ≤ (x6_1.length : Int)
        rotate_left
        ·rw [if_neg c75] at H
         exact absurd H (by simp)
        rw [if_pos c75] at H
        have c75b0 := eq_true c75
        have c75b1 : decide (x11_3 ≤ (x6_1.length : Int)) = true := decide_eq_true c75
        clear c75
        obtain ⟨y186, hy186⟩ : ∃ y_ : List Int, y_ = (x6_1.take (x11_3 : Int).toNat) := ⟨_, rfl⟩
        replace H : (if y183.length + y186.length < 17592186044416 then ((some (y183 ++ y186 : List Int)).bind fun y190 => ((some (([t110] : List Int) : List Int)).bind fun y193 => (if y190.length + y193.length < 17592186044416 then ((some (y190 ++ y193 : List Int)).bind fun y196 => ((some (x6_1.drop (x11_3 : Int).toNat : List Int)).bind fun y199 => (if y196.length + y199.length < 17592186044416 then (Fa.l0 k3 l0 y180 (y196 ++ y199) (wrap64 (x7_1 + 1))) else (none)))) else (none)))) else (none)) = some (r1, r2, r3) := by first | (rw [hy186]; with_reducible exact H) | (have H2_ := (Option.bind_some _ _).symm.trans H; rw [hy186]; with_reducible exact H2_) | (have H2_ := (Option.bind_some _ _).symm.trans H; with_reducible exact H2_) | with_reducible exact H | (rw [hy186]; exact H) | exact H
        have Ny186 := Ak hy186
        clear hy186
        by_cases c76 : y183.length + y186.length < 17592186044416
        rotate_left
        ·rw [if_neg c76] at H
         exact absurd H (by simp)
        rw [if_pos c76] at H
        have LMc76 := Ak c76
        clear c76
        obtain ⟨y190, hy190⟩ : ∃ y_ : List Int, y_ = (y183 ++ y186) := ⟨_, rfl⟩
        replace H : ((some (([t110] : List Int) : List Int)).bind fun y193 => (if y190.length + y193.length < 17592186044416 then ((some (y190 ++ y193 : List Int)).bind fun y196 => ((some (x6_1.drop (x11_3 : Int).toNat : List Int)).bind fun y199 => (if y196.length + y199.length < 17592186044416 then (Fa.l0 k3 l0 y180 (y196 ++ y199) (wrap64 (x7_1 + 1))) else (none)))) else (none))) = some (r1, r2, r3) := by first | (rw [hy190]; with_reducible exact H) | (have H2_ := (Option.bind_some _ _).symm.trans H; rw [hy190]; with_reducible exact H2_) | (have H2_ := (Option.bind_some _ _).symm.trans H; with_reducible exact H2_) | with_reducible exact H | (rw [hy190]; exact H) | exact H
        have Ny190 := Ak hy190
        clear hy190
        obtain ⟨y193, hy193⟩ : ∃ y_ : List Int, y_ = (([t110] : List Int)) := ⟨_, rfl⟩
        replace H : (if y190.length + y193.length < 17592186044416 then ((some (y190 ++ y193 : List Int)).bind fun y196 => ((some (x6_1.drop (x11_3 : Int).toNat : List Int)).bind fun y199 => (if y196.length + y199.length < 17592186044416 then (Fa.l0 k3 l0 y180 (y196 ++ y199) (wrap64 (x7_1 + 1))) else (none)))) else (none)) = some (r1, r2, r3) := by first | (rw [hy193]; with_reducible exact H) | (have H2_ := (Option.bind_some _ _).symm.trans H; rw [hy193]; with_reducible exact H2_) | (have H2_ := (Option.bind_some _ _).symm.trans H; with_reducible exact H2_) | with_reducible exact H | (rw [hy193]; exact H) | exact H
        have Ny193 := Ak hy193
        clear hy193
        by_cases c77 : y190.length + y193.length < 17592186044416
        rotate_left
        ·rw [if_neg c77] at H
         exact absurd H (by simp)
        rw [if_pos c77] at H
        have LMc77 := Ak c77
        clear c77
        obtain ⟨y196, hy196⟩ : ∃ y_ : List Int, y_ = (y190 ++ y193) := ⟨_, rfl⟩
        replace H : ((some (x6_1.drop (x11_3 : Int).toNat : List Int)).bind fun y199 => (if y196.length + y199.length < 17592186044416 then (Fa.l0 k3 l0 y180 (y196 ++ y199) (wrap64 (x7_1 + 1))) else (none))) = some (r1, r2, r3) := by first | (rw [hy196]; with_reducible exact H) | (have H2_ := (Option.bind_some _ _).symm.trans H; rw [hy196]; with_reducible exact H2_) | (have H2_ := (Option.bind_some _ _).symm.trans H; with_reducible exact H2_) | with_reducible exact H | (rw [hy196]; exact H) | exact H
        have Ny196 := Ak hy196
        clear hy196
        have c78b0 := eq_true (Dz : 0 ≤ x11_3)
        have c79b0 := eq_true (Dz : x11_3 ≤ (x6_1.length : Int))
        obtain ⟨y199, hy199⟩ : ∃ y_ : List Int, y_ = (x6_1.drop (x11_3 : Int).toNat) := ⟨_, rfl⟩
        replace H : (if y196.length + y199.length < 17592186044416 then (Fa.l0 k3 l0 y180 (y196 ++ y199) (wrap64 (x7_1 + 1))) else (none)) = some (r1, r2, r3) := by first | (rw [hy199]; with_reducible exact H) | (have H2_ := (Option.bind_some _ _).symm.trans H; rw [hy199]; with_reducible exact H2_) | (have H2_ := (Option.bind_some _ _).symm.trans H; with_reducible exact H2_) | with_reducible exact H | (rw [hy199]; exact H) | exact H
        have Ny199 := Ak hy199
        clear hy199
        by_cases c80 : y196.length + y199.length < 17592186044416
        rotate_left
        ·rw [if_neg c80] at H
         exact absurd H (by simp)
        rw [if_pos c80] at H
        have LMc80 := Ak c80
        clear c80
        obtain ⟨y203, hy203⟩ : ∃ y_ : List Int, y_ = (y196 ++ y199) := ⟨_, rfl⟩
        replace H : (Fa.l0 k3 l0 y180 y203 (wrap64 (x7_1 + 1))) = some (r1, r2, r3) := by first | (rw [hy203]; with_reducible exact H) | (have H2_ := (Option.bind_some _ _).symm.trans H; rw [hy203]; with_reducible exact H2_) | (have H2_ := (Option.bind_some _ _).symm.trans H; with_reducible exact H2_) | with_reducible exact H | (rw [hy203]; exact H) | exact H
        have Ny203 := Ak hy203
        clear hy203
        have H' := Ak H
        clear H
        obtain ⟨Ao81, co81, eo81⟩ := Kd.R_slice HO_6.out
        subst eo81
        have p111 : 0 ≤ ((ji19) : Int) := Dz
        have q111 : (ji19) < (x6_1.length : Int) := Dz
        obtain ⟨ad111, e111, hx111_0⟩ := Kd.at_int (Kd.R_reads' HO_6.out).2.2 (ji19) p111 q111
        cases e111
        replace p111 := eq_true p111; replace q111 := eq_true q111
        have p112 : 0 ≤ ((ji19) : Int) := Dz
        have q112 : (ji19) < (x6_1.length : Int) := Dz
        obtain ⟨ad112, e112, hx112_0⟩ := Kd.at_int (Kd.R_reads' HO_6.out).2.2 (ji19) p112 q112
        obtain rfl : ad111 = ad112 := (by injection e112)
        replace p112 := eq_true p112; replace q112 := eq_true q112
        try go_wp2
        have n0_ := Ak (Kd.R_drew HO_5.out)
        have n1_ := Ak (Kd.R_drew HO_6.out)
        have n2_ := Ak (below_drew1 HB.out)
        clear HO_5 HO_6 HB; have HO_5 := n0_; have HO_6 := n1_; have HB := n2_; clear n0_ n1_ n2_
        have q83 : (x11_3 : Int) ≤ ((x5_1.length : Int) : Int) := Dz
        obtain ⟨i083, hi083, _, hsz83, _⟩ := info_parts info9
        have hroom83 : x5_1.length ≤ co17 := (Kd.R_reads' HO_5.out).2.1
        have hC83 : Kd.C Kd.string _ Ao17 x5_1.length x5_1 := (Kd.R_reads' HO_5.out).2.2
        have hcut83 := cut_to (P := Tryd.prog) 24 9 .i64 Tryd.underlying24 hi083 Ao17 x5_1.length co17 x11_3 Dz q83 hroom83
        have hr83 := Kd.C_take (m := (x11_3 : Int).toNat) hC83 (by omega)
        have hy83 : y163.length = (x11_3 : Int).toNat := (by rw [Ny163.out, List.length_take]; omega)
        rw [← Ny163.out] at hr83
        rw [← hy83] at hcut83
        have HR166 := Ak hr83
        have HC166 := Ak (show y163.length ≤ co17 from by omega)
        clear hr83 hC83 hroom83 hi083 hsz83
        have KY83 := Ak hy83
        clear hy83
        have KL83 := Ak (show (x11_3 : Int).toNat ≤ x5_1.length from by omega)
        replace q83 := eq_true q83
        have q84 : (x11_3 : Int) ≤ ((x5_1.length : Int) : Int) := Dz
        obtain ⟨i084, hi084, _, hsz84, _⟩ := info_parts info9
        have hroom84 : x5_1.length ≤ co17 := (Kd.R_reads' HO_5.out).2.1
        have hC84 : Kd.C Kd.string _ Ao17 x5_1.length x5_1 := (Kd.R_reads' HO_5.out).2.2
        have q084 : (0 : Int) ≤ (x11_3 : Int) := Dz
        have hcut84 := cut_from (P := Tryd.prog) 24 9 .i64 Tryd.underlying24 hi084 1 hsz84 Ao17 x5_1.length co17 x11_3 q084 q84
        have hr84 := Kd.C_drop (m := (x11_3 : Int).toNat) (c := co17) hC84 (by omega) hroom84
        obtain ⟨A84, hA84⟩ : ∃ A1, A1 = (if co17 = (x11_3 : Int).toNat then Ao17 else (Ao17 : Option Addr).map (·.add ((x11_3 : Int).toNat * 1))) := ⟨_, rfl⟩
        obtain ⟨c84, hc84⟩ : ∃ c1, c1 = co17 - (x11_3 : Int).toNat := ⟨_, rfl⟩
        have hy84 : y176.length = x5_1.length - (x11_3 : Int).toNat := (by rw [Ny176.out, List.length_drop] <;> omega)
        rw [show (x5_1).drop (x11_3 : Int).toNat = y176 from Ny176.out.symm] at hr84
        replace hr84 : Kd.C Kd.string _ A84 y176.length y176 := (by rw [hA84]; exact hr84)
        rw [← hy84, ← hA84, ← hc84] at hcut84
        have HR179 := Ak hr84
        have HC179 := Ak (show y176.length ≤ c84 from by rw [hy84, hc84]; exact Nat.sub_le_sub_right hroom84 _)
        clear hr84 hC84 hroom84 hi084 hsz84 hc84
        have KY84 := Ak hy84
        have KA84 := Ak hA84
        clear hy84 hA84
        have KL84 := Ak (show (x11_3 : Int).toNat ≤ x5_1.length from by omega)
        replace q84 := eq_true q84
        refine start_ (n := 13) (S := fun w' => True) (ds := []) #[O,O,O,O,O,O,O,O,O,O,O,O,O] (by kernel_rfl) rfl rfl trivial (fun hHeld => ?_); refine with_tabW Fa.tab16 Fa.bits16 (fun HT_ HW_ => ?_)
        generalize wr.drew = w82 at HO_5 HO_6 HB HR166 HR179 hHeld ⊢
        refine pure_ (i := 1) (N := some 84) (v := ?_) (a' := ?_) #[O,I,O,O,O,O,O,O,O,O,O,O,O] rfl rfl (any_of HT_.out (by kernel_rfl)) (fun _ _ _ h => h) (Or.inl ⟨by rfl, ?_⟩) ?_ ?_
        rotate_left; (intro w'; go_simp; with_reducible rfl); rotate_left; (simp only [Z]; rfl)
        refine pure_ (i := 2) (N := some 85) (v := ?_) (a' := ?_) #[O,I,I,O,O,O,O,O,O,O,O,O,O] rfl rfl (any_of HT_.out (by kernel_rfl)) (fun _ _ _ h => h) (Or.inl ⟨by rfl, ?_⟩) ?_ ?_
        rotate_left; (intro w'; go_simp; with_reducible rfl); rotate_left; (simp only [Z]; rfl)
        refine pure_ (i := 3) (N := some 86) (v := ?_) (a' := ?_) #[O,I,I,I,O,O,O,O,O,O,O,O,O] rfl rfl (any_of HT_.out (by kernel_rfl)) (fun _ _ _ h => h) (Or.inl ⟨by rfl, ?_⟩) ?_ ?_
        rotate_left; (intro w'; go_simp; with_reducible rfl); rotate_left; (simp only [Z]; rfl)
        refine pure_ (i := 5) (N := some 88) (v := ?_) (a' := ?_) #[O,I,I,I,O,I,O,O,O,O,O,O,O] rfl rfl (any_of HT_.out (by kernel_rfl)) (fun _ _ _ h => h) (Or.inl ⟨by rfl, ?_⟩) ?_ ?_
        rotate_left; (intro w'; go_simp; with_reducible rfl); rotate_left; (simp only [Z]; rfl)
        refine pure_ (i := 8) (N := some 91) (v := ?_) (a' := ?_) #[O,I,I,I,O,I,O,O,I,O,O,O,O] rfl rfl (any_of HT_.out (by kernel_rfl)) (fun _ _ _ h => h) (Or.inl ⟨by rfl, ?_⟩) ?_ ?_
        rotate_left; (intro w'; go_simp; with_reducible rfl); rotate_left; (simp only [Z]; rfl)
        refine pure_ (i := 9) (N := some 92) (v := ?_) (a' := ?_) #[O,I,I,I,O,I,O,O,I,I,O,O,O] rfl rfl (any_of HT_.out (by kernel_rfl)) (fun _ _ _ h => h) (Or.inl ⟨by rfl, ?_⟩) ?_ ?_
        rotate_left; (intro w'; go_simp; with_reducible rfl); rotate_left; (simp only [Z]; rfl)
        refine pure_ (i := 10) (N := some 93) (v := ?_) (a' := ?_) #[O,I,I,I,O,I,O,O,I,I,I,O,O] rfl rfl (any_of HT_.out (by kernel_rfl)) (fun _ _ _ h => h) (Or.inl ⟨by rfl, ?_⟩) ?_ ?_
        rotate_left; (intro w'; go_simp; with_reducible rfl); rotate_left; (simp only [Z]; rfl)
        refine join_ (σ := Value × Value × Value) 3 #[I,I,I,I,I,I,I,O,I,I,I,O,O] (fun s_ => [(83, s_.1), (87, s_.2.1), (89, s_.2.2)]) (fun s_ w' => (Kd.R Kd.string 9 w' w.heap.size (fun k_ => some k_ ≠ (s_.2.2 : Value).ownBlock ∧ some k_ ≠ (.slice Ao17 x5_1.length co17 : Value).ownBlock) s_.2.1 y167) ∧ (Kd.R Kd.string 9 w' w.heap.size (fun k_ => some k_ ≠ (s_.2.1 : Value).ownBlock ∧ some k_ ≠ (.slice Ao17 x5_1.length co17 : Value).ownBlock) s_.2.2 y170) ∧ (Kd.R Kd.string 9 w' w.heap.size (fun k_ => some k_ ≠ (s_.2.1 : Value).ownBlock ∧ some k_ ≠ (s_.2.2 : Value).ownBlock) (.slice Ao17 x5_1.length co17) x5_1) ∧ (Kd.R (Kd.int .i64) 3 w' w.heap.size (fun _ => True) (.slice (some ad111) x6_1.length co81) x6_1) ∧ (Below w.heap.size w w')) ?_ ?_
        rotate_left
        ·intro hCont
         refine two_ (i := 0) (j := 6) (Ni := some 83) (Nj := some 89) #[I,I,I,I,O,I,O,O,I,I,I,O,O] #[O,I,I,I,O,I,I,O,I,I,I,O,O] rfl rfl rfl rfl (two_of HT_.out (by kernel_rfl)) (by decide) (by decide) (fun K hK => ?_) (fun K hK => ?_)
         ·skip
          refine Kd.R_lit_step Kd.string _ 9 ?hg (N := 83) ?hd (xs := ([] : List ByteArray)) (inner := []) (ok := fun _ => True) (okp := fun _ => True) ?hr ?hp (fun _ hk => hk) trivial (Below.refl _ _) (Nat.le_refl _) (by simp) ?_; (case hd => rfl); (case hg => rfl); (case hr => first | (go_simp; done) | (go_simp; rfl)); (case hp => exact (Reps.none _ _))
          intro v161 w85 ho86 hb hg_ hnew_
          clear hg_ hnew_
          (first | rw [← Ny160.out] at ho86 | (simp only [Int.reduceToNat] at ho86; rw [← Ny160.out] at ho86))
          have n0_ := Ak (Kd.R_elder' (by exact RS <| HO_5.out) (Kd.R_base ho86) hb)
          have n1_ := Ak (Kd.R_below (by exact RS <| HO_6.out) hb)
          have n2_ := Ak (Kd.R_lower (Kd.R_new' ho86 (Kd.R_lt (by exact RS <| HO_5.out))) (below_size (by exact eS HB.out)))
          have n3_ := Ak (Kd.C_below (by exact Cs HR166.out) hb)
          have n4_ := Ak (Kd.C_below (by exact Cs HR179.out) hb)
          have n5_ := Ak (below_step (by exact eS HB.out) hb)
          clear HO_5 HO_6 HR166 HR179 HB; have HO_5 := n0_; have HO_6 := n1_; have HO162 := n2_; have HR166 := n3_; have HR179 := n4_; have HB := n5_; clear n0_ n1_ n2_ n3_ n4_ n5_ hb ho86
          refine hK.out _ _ trivial (fun hHeld => ?_); clear hK K
          refine norm_ (a' := ?_) ?_ ?_; rotate_left; (show Act.put _ (some 83) _ = _; simp only [Z]; rfl)
          refine two_ (i := 4) (j := 6) (Ni := some 87) (Nj := some 89) #[I,I,I,I,I,I,O,O,I,I,I,O,O] #[I,I,I,I,O,I,I,O,I,I,I,O,O] rfl rfl rfl rfl (two_of HT_.out (by kernel_rfl)) (by decide) (by decide) (fun K hK => ?_) (fun K hK => ?_)
          ·skip
           refine Kd.R_append_rows_step Kd.string (w0 := w) w.heap.size (by rfl) (.tmp 83) (.tmp 86) 24 9 (.string ⟨#[]⟩) 16 rfl Tryd.underlying24 info9 rfl (by decide) (by omega) v161 y160 y163 _ _ _ (fun k_ => some k_ ≠ (.slice Ao17 x5_1.length co17 : Value).ownBlock) (fun _ => False) rfl rfl ?aO ?aR (fun _ _ h => h) (fun _ h => h.elim) ?aF ?aB ?aS ?aL ?_
           (case aR => exact Cs HR166.out)
           (case aB => exact (by exact eS HB.out))
           (case aF => exact (fun k_ hk => Kd.fresh' (Kd.R_lt (by exact RS <| HO_5.out)) k_ hk))
           (case aO => exact (by exact RS <| Kd.R_mono HO162.out (fun _ hk => hk.2)))
           (case aS => exact (below_size (by exact eS HB.out)))
           (case aL => have := LMc69.out; omega)
           intro v168 w87 ho hb hg hat
           rw [← Ny167.out] at ho
           have n0_ := Ak (Kd.R_after (ok := (fun _ => True)) (by exact RS <| HO_5.out) hg hat)
           have n1_ := Ak (Kd.R_over' (by exact RS <| HO_6.out) (Kd.R_typed (by exact RS <| HO162.out)) (by decide) hg)
           have n2_ := Ak (hb)
           have n3_ := Ak ((Ct Kd.string Ny163.out (Kd.R_after (ok := (fun _ => True)) (by exact RS <| HO_5.out) hg hat) KL83.out))
           have n4_ := Ak ((Cd Kd.string Ny176.out KA84.out (Kd.R_after (ok := (fun _ => True)) (by exact RS <| HO_5.out) hg hat) KL84.out))
           have n5_ := Ak (ho)
           clear HO_5 HO_6 HB HR166 HR179 HO162; have HO_5 := n0_; have HO_6 := n1_; have HB := n2_; have HR166 := n3_; have HR179 := n4_; have HO169 := n5_; clear n0_ n1_ n2_ n3_ n4_ n5_ ho hb hg hat
           refine hK.out _ _ trivial (fun hHeld => ?_); clear hK K
           refine norm_ (a' := ?_) ?_ ?_; rotate_left; (show Act.put _ (some 87) _ = _; simp only [Z]; rfl)
           refine one_ (i := 6) (N := some 89) #[I,I,I,I,I,I,I,O,I,I,I,O,O] rfl rfl (one_of HT_.out (by kernel_rfl)) (by decide) (fun K hK => ?_)
           refine Kd.R_lit_step Kd.string _ 9 ?hg (N := 89) ?hd (xs := ([((rd_T41 l0 x7_1).f1)] : List ByteArray)) (inner := [.string ((rd_T41 l0 x7_1).f1)]) (ok := fun _ => True) (okp := fun _ => True) ?hr ?hp (fun _ hk => hk) trivial (Below.refl _ _) (Nat.le_refl _) (by simp) ?_; (case hd => rfl); (case hg => rfl); (case hr => first | (go_simp; done) | (go_simp; rfl)); (case hp => exact (Reps.one (show Kd.M Kd.string _ _ _ ((rd_T41 l0 x7_1).f1) [.string ((rd_T41 l0 x7_1).f1)] from rfl) (Reps.none _ _)))
           intro v171 w88 ho89 hb hg_ hnew_
           clear hg_ hnew_
           (first | rw [← Ny170.out] at ho89 | (simp only [Int.reduceToNat] at ho89; rw [← Ny170.out] at ho89))
           have n0_ := Ak (Kd.R_elder' (by exact RS <| HO_5.out) (Kd.R_base ho89) hb)
           have n1_ := Ak (Kd.R_below (by exact RS <| HO_6.out) hb)
           have n2_ := Ak (Kd.R_elder' (by exact RS <| HO169.out) (Kd.R_base ho89) hb)
           have n3_ := Ak (Kd.R_lower (Kd.R_new' (Kd.R_new' ho89 (Kd.R_lt (by exact RS <| HO_5.out))) (Kd.R_lt (by exact RS <| HO169.out))) (below_size (by exact eS HB.out)))
           have n4_ := Ak (Kd.C_below (by exact Cs HR166.out) hb)
           have n5_ := Ak (Kd.C_below (by exact Cs HR179.out) hb)
           have n6_ := Ak (below_step (by exact eS HB.out) hb)
           clear HO_5 HO_6 HO169 HR166 HR179 HB; have HO_5 := n0_; have HO_6 := n1_; have HO169 := n2_; have HO172 := n3_; have HR166 := n4_; have HR179 := n5_; have HB := n6_; clear n0_ n1_ n2_ n3_ n4_ n5_ n6_ hb ho89
           refine hK.out _ _ trivial (fun hHeld => ?_); clear hK K
           refine norm_ (a' := ?_) ?_ ?_; rotate_left; (show Act.put _ (some 89) _ = _; simp only [Z]; rfl)
           exact norm_ (by simp only [putAll, Act.put, List.setIfInBounds_toArray, List.set_cons_zero, List.set_cons_succ]) (hCont (v161, v168, v171) _ ⟨(by exact RS <| Kd.R_mono HO169.out (fun _ hk => ⟨hk.2, hk.1⟩)), (by exact RS <| Kd.R_mono HO172.out (fun _ hk => ⟨hk.2, hk.1.2⟩)), (by exact RS <| Kd.R_mono HO_5.out (fun _ hk => ⟨hk.1.2, hk.2⟩)), (by exact RS <| HO_6.out), (by exact eS HB.out)⟩)
          ·skip
           refine Kd.R_lit_step Kd.string _ 9 ?hg (N := 89) ?hd (xs := ([((rd_T41 l0 x7_1).f1)] : List ByteArray)) (inner := [.string ((rd_T41 l0 x7_1).f1)]) (ok := fun _ => True) (okp := fun _ => True) ?hr ?hp (fun _ hk => hk) trivial (Below.refl _ _) (Nat.le_refl _) (by simp) ?_; (case hd => rfl); (case hg => rfl); (case hr => first | (go_simp; done) | (go_simp; rfl)); (case hp => exact (Reps.one (show Kd.M Kd.string _ _ _ ((rd_T41 l0 x7_1).f1) [.string ((rd_T41 l0 x7_1).f1)] from rfl) (Reps.none _ _)))
           intro v171 w87 ho88 hb hg_ hnew_
           clear hg_ hnew_
           (first | rw [← Ny170.out] at ho88 | (simp only [Int.reduceToNat] at ho88; rw [← Ny170.out] at ho88))
           have n0_ := Ak (Kd.R_elder' (by exact RS <| HO_5.out) (Kd.R_base ho88) hb)
           have n1_ := Ak (Kd.R_below (by exact RS <| HO_6.out) hb)
           have n2_ := Ak (Kd.R_elder' (by exact RS <| HO162.out) (Kd.R_base ho88) hb)
           have n3_ := Ak (Kd.R_lower (Kd.R_new' (Kd.R_new' ho88 (Kd.R_lt (by exact RS <| HO_5.out))) (Kd.R_lt (by exact RS <| HO162.out))) (below_size (by exact eS HB.out)))
           have n4_ := Ak (Kd.C_below (by exact Cs HR166.out) hb)
           have n5_ := Ak (Kd.C_below (by exact Cs HR179.out) hb)
           have n6_ := Ak (below_step (by exact eS HB.out) hb)
           clear HO_5 HO_6 HO162 HR166 HR179 HB; have HO_5 := n0_; have HO_6 := n1_; have HO162 := n2_; have HO172 := n3_; have HR166 := n4_; have HR179 := n5_; have HB := n6_; clear n0_ n1_ n2_ n3_ n4_ n5_ n6_ hb ho88
           refine hK.out _ _ trivial (fun hHeld => ?_); clear hK K
           refine norm_ (a' := ?_) ?_ ?_; rotate_left; (show Act.put _ (some 89) _ = _; simp only [Z]; rfl)
           refine one_ (i := 4) (N := some 87) #[I,I,I,I,I,I,I,O,I,I,I,O,O] rfl rfl (one_of HT_.out (by kernel_rfl)) (by decide) (fun K hK => ?_)
           refine Kd.R_append_rows_step Kd.string (w0 := w) w.heap.size (by rfl) (.tmp 83) (.tmp 86) 24 9 (.string ⟨#[]⟩) 16 rfl Tryd.underlying24 info9 rfl (by decide) (by omega) v161 y160 y163 _ _ _ (fun k_ => some k_ ≠ (.slice Ao17 x5_1.length co17 : Value).ownBlock ∧ some k_ ≠ (v171 : Value).ownBlock) (fun _ => False) rfl rfl ?aO ?aR (fun _ _ h => h) (fun _ h => h.elim) ?aF ?aB ?aS ?aL ?_
           (case aR => exact Cs HR166.out)
           (case aB => exact (by exact eS HB.out))
           (case aF => exact (fun k_ hk => ⟨Kd.fresh' (Kd.R_lt (by exact RS <| HO_5.out)) k_ hk, Kd.fresh' (Kd.R_lt (by exact RS <| HO172.out)) k_ hk⟩))
           (case aO => exact (by exact RS <| Kd.R_mono HO162.out (fun _ hk => ⟨hk.1.2, hk.2⟩)))
           (case aS => exact (below_size (by exact eS HB.out)))
           (case aL => have := LMc69.out; omega)
           intro v168 w89 ho hb hg hat
           rw [← Ny167.out] at ho
           have n0_ := Ak (Kd.R_after (ok := (fun k_ => some k_ ≠ (v171 : Value).ownBlock)) (by exact RS <| Kd.R_mono HO_5.out (fun _ hk => ⟨hk.2, hk.1.2⟩)) hg hat)
           have n1_ := Ak (Kd.R_over' (by exact RS <| HO_6.out) (Kd.R_typed (by exact RS <| HO162.out)) (by decide) hg)
           have n2_ := Ak (Kd.R_after (ok := (fun k_ => some k_ ≠ (.slice Ao17 x5_1.length co17 : Value).ownBlock)) (by exact RS <| Kd.R_mono HO172.out (fun _ hk => ⟨hk.1.2, hk.2⟩)) hg hat)
           have n3_ := Ak (hb)
           have n4_ := Ak ((Ct Kd.string Ny163.out (Kd.R_after (ok := (fun k_ => some k_ ≠ (v171 : Value).ownBlock)) (by exact RS <| Kd.R_mono HO_5.out (fun _ hk => ⟨hk.2, hk.1.2⟩)) hg hat) KL83.out))
           have n5_ := Ak ((Cd Kd.string Ny176.out KA84.out (Kd.R_after (ok := (fun k_ => some k_ ≠ (v171 : Value).ownBlock)) (by exact RS <| Kd.R_mono HO_5.out (fun _ hk => ⟨hk.2, hk.1.2⟩)) hg hat) KL84.out))
           have n6_ := Ak (ho)
           clear HO_5 HO_6 HO172 HB HR166 HR179 HO162; have HO_5 := n0_; have HO_6 := n1_; have HO172 := n2_; have HB := n3_; have HR166 := n4_; have HR179 := n5_; have HO169 := n6_; clear n0_ n1_ n2_ n3_ n4_ n5_ n6_ ho hb hg hat
           refine hK.out _ _ trivial (fun hHeld => ?_); clear hK K
           refine norm_ (a' := ?_) ?_ ?_; rotate_left; (show Act.put _ (some 87) _ = _; simp only [Z]; rfl)
           exact norm_ (by simp only [putAll, Act.put, List.setIfInBounds_toArray, List.set_cons_zero, List.set_cons_succ]) (hCont (v161, v168, v171) _ ⟨(by exact RS <| Kd.R_mono HO169.out (fun _ hk => ⟨hk.2, hk.1⟩)), (by exact RS <| Kd.R_mono HO172.out (fun _ hk => ⟨hk.2, hk.1⟩)), (by exact RS <| Kd.R_mono HO_5.out (fun _ hk => ⟨hk.2, hk.1⟩)), (by exact RS <| HO_6.out), (by exact eS HB.out)⟩)
         ·skip
          refine Kd.R_lit_step Kd.string _ 9 ?hg (N := 89) ?hd (xs := ([((rd_T41 l0 x7_1).f1)] : List ByteArray)) (inner := [.string ((rd_T41 l0 x7_1).f1)]) (ok := fun _ => True) (okp := fun _ => True) ?hr ?hp (fun _ hk => hk) trivial (Below.refl _ _) (Nat.le_refl _) (by simp) ?_; (case hd => rfl); (case hg => rfl); (case hr => first | (go_simp; done) | (go_simp; rfl)); (case hp => exact (Reps.one (show Kd.M Kd.string _ _ _ ((rd_T41 l0 x7_1).f1) [.string ((rd_T41 l0 x7_1).f1)] from rfl) (Reps.none _ _)))
          intro v171 w85 ho86 hb hg_ hnew_
          clear hg_ hnew_
          (first | rw [← Ny170.out] at ho86 | (simp only [Int.reduceToNat] at ho86; rw [← Ny170.out] at ho86))
          have n0_ := Ak (Kd.R_elder' (by exact RS <| HO_5.out) (Kd.R_base ho86) hb)
          have n1_ := Ak (Kd.R_below (by exact RS <| HO_6.out) hb)
          have n2_ := Ak (Kd.R_lower (Kd.R_new' ho86 (Kd.R_lt (by exact RS <| HO_5.out))) (below_size (by exact eS HB.out)))
          have n3_ := Ak (Kd.C_below (by exact Cs HR166.out) hb)
          have n4_ := Ak (Kd.C_below (by exact Cs HR179.out) hb)
          have n5_ := Ak (below_step (by exact eS HB.out) hb)
          clear HO_5 HO_6 HR166 HR179 HB; have HO_5 := n0_; have HO_6 := n1_; have HO172 := n2_; have HR166 := n3_; have HR179 := n4_; have HB := n5_; clear n0_ n1_ n2_ n3_ n4_ n5_ hb ho86
          refine hK.out _ _ trivial (fun hHeld => ?_); clear hK K
          refine norm_ (a' := ?_) ?_ ?_; rotate_left; (show Act.put _ (some 89) _ = _; simp only [Z]; rfl)
          refine one_ (i := 0) (N := some 83) #[I,I,I,I,O,I,I,O,I,I,I,O,O] rfl rfl (one_of HT_.out (by kernel_rfl)) (by decide) (fun K hK => ?_)
          refine Kd.R_lit_step Kd.string _ 9 ?hg (N := 83) ?hd (xs := ([] : List ByteArray)) (inner := []) (ok := fun _ => True) (okp := fun _ => True) ?hr ?hp (fun _ hk => hk) trivial (Below.refl _ _) (Nat.le_refl _) (by simp) ?_; (case hd => rfl); (case hg => rfl); (case hr => first | (go_simp; done) | (go_simp; rfl)); (case hp => exact (Reps.none _ _))
          intro v161 w87 ho88 hb hg_ hnew_
          clear hg_ hnew_
          (first | rw [← Ny160.out] at ho88 | (simp only [Int.reduceToNat] at ho88; rw [← Ny160.out] at ho88))
          have n0_ := Ak (Kd.R_elder' (by exact RS <| HO_5.out) (Kd.R_base ho88) hb)
          have n1_ := Ak (Kd.R_below (by exact RS <| HO_6.out) hb)
          have n2_ := Ak (Kd.R_elder' (by exact RS <| HO172.out) (Kd.R_base ho88) hb)
          have n3_ := Ak (Kd.R_lower (Kd.R_new' (Kd.R_new' ho88 (Kd.R_lt (by exact RS <| HO_5.out))) (Kd.R_lt (by exact RS <| HO172.out))) (below_size (by exact eS HB.out)))
          have n4_ := Ak (Kd.C_below (by exact Cs HR166.out) hb)
          have n5_ := Ak (Kd.C_below (by exact Cs HR179.out) hb)
          have n6_ := Ak (below_step (by exact eS HB.out) hb)
          clear HO_5 HO_6 HO172 HR166 HR179 HB; have HO_5 := n0_; have HO_6 := n1_; have HO172 := n2_; have HO162 := n3_; have HR166 := n4_; have HR179 := n5_; have HB := n6_; clear n0_ n1_ n2_ n3_ n4_ n5_ n6_ hb ho88
          refine hK.out _ _ trivial (fun hHeld => ?_); clear hK K
          refine norm_ (a' := ?_) ?_ ?_; rotate_left; (show Act.put _ (some 83) _ = _; simp only [Z]; rfl)
          refine one_ (i := 4) (N := some 87) #[I,I,I,I,I,I,I,O,I,I,I,O,O] rfl rfl (one_of HT_.out (by kernel_rfl)) (by decide) (fun K hK => ?_)
          refine Kd.R_append_rows_step Kd.string (w0 := w) w.heap.size (by rfl) (.tmp 83) (.tmp 86) 24 9 (.string ⟨#[]⟩) 16 rfl Tryd.underlying24 info9 rfl (by decide) (by omega) v161 y160 y163 _ _ _ (fun k_ => some k_ ≠ (.slice Ao17 x5_1.length co17 : Value).ownBlock ∧ some k_ ≠ (v171 : Value).ownBlock) (fun _ => False) rfl rfl ?aO ?aR (fun _ _ h => h) (fun _ h => h.elim) ?aF ?aB ?aS ?aL ?_
          (case aR => exact Cs HR166.out)
          (case aB => exact (by exact eS HB.out))
          (case aF => exact (fun k_ hk => ⟨Kd.fresh' (Kd.R_lt (by exact RS <| HO_5.out)) k_ hk, Kd.fresh' (Kd.R_lt (by exact RS <| HO172.out)) k_ hk⟩))
          (case aO => exact (by exact RS <| Kd.R_mono HO162.out (fun _ hk => ⟨hk.1.2, hk.2⟩)))
          (case aS => exact (below_size (by exact eS HB.out)))
          (case aL => have := LMc69.out; omega)
          intro v168 w89 ho hb hg hat
          rw [← Ny167.out] at ho
          have n0_ := Ak (Kd.R_after (ok := (fun k_ => some k_ ≠ (v171 : Value).ownBlock)) (by exact RS <| Kd.R_mono HO_5.out (fun _ hk => ⟨hk.1.2, hk.2⟩)) hg hat)
          have n1_ := Ak (Kd.R_over' (by exact RS <| HO_6.out) (Kd.R_typed (by exact RS <| HO162.out)) (by decide) hg)
          have n2_ := Ak (Kd.R_after (ok := (fun k_ => some k_ ≠ (.slice Ao17 x5_1.length co17 : Value).ownBlock)) (by exact RS <| Kd.R_mono HO172.out (fun _ hk => ⟨hk.1.2, hk.2⟩)) hg hat)
          have n3_ := Ak (hb)
          have n4_ := Ak ((Ct Kd.string Ny163.out (Kd.R_after (ok := (fun k_ => some k_ ≠ (v171 : Value).ownBlock)) (by exact RS <| Kd.R_mono HO_5.out (fun _ hk => ⟨hk.1.2, hk.2⟩)) hg hat) KL83.out))
          have n5_ := Ak ((Cd Kd.string Ny176.out KA84.out (Kd.R_after (ok := (fun k_ => some k_ ≠ (v171 : Value).ownBlock)) (by exact RS <| Kd.R_mono HO_5.out (fun _ hk => ⟨hk.1.2, hk.2⟩)) hg hat) KL84.out))
          have n6_ := Ak (ho)
          clear HO_5 HO_6 HO172 HB HR166 HR179 HO162; have HO_5 := n0_; have HO_6 := n1_; have HO172 := n2_; have HB := n3_; have HR166 := n4_; have HR179 := n5_; have HO169 := n6_; clear n0_ n1_ n2_ n3_ n4_ n5_ n6_ ho hb hg hat
          refine hK.out _ _ trivial (fun hHeld => ?_); clear hK K
          refine norm_ (a' := ?_) ?_ ?_; rotate_left; (show Act.put _ (some 87) _ = _; simp only [Z]; rfl)
          exact norm_ (by simp only [putAll, Act.put, List.setIfInBounds_toArray, List.set_cons_zero, List.set_cons_succ]) (hCont (v161, v168, v171) _ ⟨(by exact RS <| Kd.R_mono HO169.out (fun _ hk => ⟨hk.2, hk.1⟩)), (by exact RS <| Kd.R_mono HO172.out (fun _ hk => ⟨hk.2, hk.1⟩)), (by exact RS <| Kd.R_mono HO_5.out (fun _ hk => ⟨hk.2, hk.1⟩)), (by exact RS <| HO_6.out), (by exact eS HB.out)⟩)
        rintro ⟨v161, v168, v171⟩ w90 ⟨h0_, h1_, h2_, h3_, h4_⟩
        have n0_ : Aside0 (Kd.R Kd.string 9 w90 w.heap.size (fun k_ => some k_ ≠ (v171 : Value).ownBlock ∧ some k_ ≠ (.slice Ao17 x5_1.length co17 : Value).ownBlock) v168 y167) := ⟨h0_⟩
        have n1_ : Aside0 (Kd.R Kd.string 9 w90 w.heap.size (fun k_ => some k_ ≠ (v168 : Value).ownBlock ∧ some k_ ≠ (.slice Ao17 x5_1.length co17 : Value).ownBlock) v171 y170) := ⟨h1_⟩
        have n2_ : Aside0 (Kd.R Kd.string 9 w90 w.heap.size (fun k_ => some k_ ≠ (v168 : Value).ownBlock ∧ some k_ ≠ (v171 : Value).ownBlock) (.slice Ao17 x5_1.length co17) x5_1) := ⟨h2_⟩
        have n3_ : Aside0 (Kd.R (Kd.int .i64) 3 w90 w.heap.size (fun _ => True) (.slice (some ad111) x6_1.length co81) x6_1) := ⟨h3_⟩
        have n4_ : Aside0 (Below w.heap.size w w90) := ⟨h4_⟩
        clear HO_5 HO_6 HB h0_ h1_ h2_ h3_ h4_; have HO169 := n0_; have HO172 := n1_; have HO_5 := n2_; have HO_6 := n3_; have HB := n4_; clear n0_ n1_ n2_ n3_ n4_
        have hHeld := trivial
        have HR166 := Ak (Ct Kd.string Ny163.out (HO_5.out) KL83.out)
        have HR179 := Ak (Cd Kd.string Ny176.out KA84.out (HO_5.out) KL84.out)
        obtain ⟨Ao92, co92, eo92⟩ := Kd.R_slice HO172.out
        (first | subst eo92 | (injection eo92 with f1_ f2_ f3_; have f4_ := f1_.symm; have f5_ := f3_.symm; clear f1_ f2_ f3_; subst f4_; subst f5_))
        refine norm_ (a' := ?_) ?_ ?_
        rotate_left
        ·simp only [putAll, Act.put, List.setIfInBounds_toArray, List.set_cons_zero, List.set_cons_succ]
         rfl
        refine one_ (i := 7) (N := some 90) #[I,I,I,I,I,I,I,I,I,I,I,O,O] rfl rfl (one_of HT_.out (by kernel_rfl)) (by decide) (fun K hK => ?_)
        refine Kd.R_append_rows_step Kd.string (w0 := w) w.heap.size (by rfl) (.tmp 87) (.tmp 89) 24 9 (.string ⟨#[]⟩) 16 rfl Tryd.underlying24 info9 rfl (by decide) (by omega) v168 y167 y170 _ _ _ (fun k_ => some k_ ≠ (.slice Ao17 x5_1.length co17 : Value).ownBlock ∧ some k_ ≠ (.slice Ao92 y170.length co92 : Value).ownBlock) (fun _ => False) rfl rfl ?aO ?aR (fun _ _ h => h) (fun _ h => h.elim) ?aF ?aB ?aS ?aL ?_
        (case aR => repeat (first | exact (Kd.R_reads' HO172.out).2.2 | (with_reducible refine Kd.C_alloc ?_ _) | (with_reducible refine Kd.C_drewN ?_ _) | (with_reducible refine Kd.C_drew ?_)))
        (case aB => exact (by exact eS HB.out))
        (case aF => exact (fun k_ hk => ⟨Kd.fresh' (Kd.R_lt (by exact RS <| HO_5.out)) k_ hk, Kd.fresh' (Kd.R_lt (by exact RS <| HO172.out)) k_ hk⟩))
        (case aO => exact (by exact RS <| Kd.R_mono HO169.out (fun _ hk => ⟨hk.2, hk.1⟩)))
        (case aS => exact (below_size (by exact eS HB.out)))
        (case aL => have := LMc70.out; omega)
        intro v174 w91 ho hb hg hat
        rw [← Ny173.out] at ho
        have n0_ := Ak (Kd.R_after (ok := (fun k_ => some k_ ≠ (.slice Ao92 y170.length co92 : Value).ownBlock)) (by exact RS <| Kd.R_mono HO_5.out (fun _ hk => ⟨hk.2, hk.1⟩)) hg hat)
        have n1_ := Ak (Kd.R_over' (by exact RS <| HO_6.out) (Kd.R_typed (by exact RS <| HO169.out)) (by decide) hg)
        have n2_ := Ak (Kd.R_after (ok := (fun k_ => some k_ ≠ (.slice Ao17 x5_1.length co17 : Value).ownBlock)) (by exact RS <| Kd.R_mono HO172.out (fun _ hk => ⟨hk.2, hk.1⟩)) hg hat)
        have n3_ := Ak (hb)
        have n4_ := Ak ((Ct Kd.string Ny163.out (Kd.R_after (ok := (fun k_ => some k_ ≠ (.slice Ao92 y170.length co92 : Value).ownBlock)) (by exact RS <| Kd.R_mono HO_5.out (fun _ hk => ⟨hk.2, hk.1⟩)) hg hat) KL83.out))
        have n5_ := Ak ((Cd Kd.string Ny176.out KA84.out (Kd.R_after (ok := (fun k_ => some k_ ≠ (.slice Ao92 y170.length co92 : Value).ownBlock)) (by exact RS <| Kd.R_mono HO_5.out (fun _ hk => ⟨hk.2, hk.1⟩)) hg hat) KL84.out))
        have n6_ := Ak (ho)
        clear HO_5 HO_6 HO172 HB HR166 HR179 HO169; have HO_5 := n0_; have HO_6 := n1_; have HO172 := n2_; have HB := n3_; have HR166 := n4_; have HR179 := n5_; have HO175 := n6_; clear n0_ n1_ n2_ n3_ n4_ n5_ n6_ ho hb hg hat
        refine hK.out _ _ trivial (fun hHeld => ?_); clear hK K
        refine norm_ (a' := ?_) ?_ ?_; rotate_left; (show Act.put _ (some 90) _ = _; simp only [Z]; rfl)
        refine one_ (i := 11) (N := some 94) #[I,I,I,I,I,I,I,I,I,I,I,I,O] rfl rfl (one_of HT_.out (by kernel_rfl)) (by decide) (fun K hK => ?_)
        refine Kd.R_append_rows_step Kd.string (w0 := w) w.heap.size (by rfl) (.tmp 90) (.tmp 93) 24 9 (.string ⟨#[]⟩) 16 rfl Tryd.underlying24 info9 rfl (by decide) (by omega) v174 y173 y176 _ _ _ (fun k_ => some k_ ≠ (.slice Ao17 x5_1.length co17 : Value).ownBlock ∧ some k_ ≠ (.slice Ao92 y170.length co92 : Value).ownBlock) (fun _ => False) rfl rfl ?aO ?aR (fun _ _ h => h) (fun _ h => h.elim) ?aF ?aB ?aS ?aL ?_
        (case aR => exact Cs HR179.out)
        (case aB => exact (by exact eS HB.out))
        (case aF => exact (fun k_ hk => ⟨Kd.fresh' (Kd.R_lt (by exact RS <| HO_5.out)) k_ hk, Kd.fresh' (Kd.R_lt (by exact RS <| HO172.out)) k_ hk⟩))
        (case aO => exact (by exact RS <| HO175.out))
        (case aS => exact (below_size (by exact eS HB.out)))
        (case aL => have := LMc73.out; omega)
        intro v181 w93 ho hb hg hat
        rw [← Ny180.out] at ho
        have n0_ := Ak (Kd.R_after (ok := (fun k_ => some k_ ≠ (.slice Ao92 y170.length co92 : Value).ownBlock)) (by exact RS <| HO_5.out) hg hat)
        have n1_ := Ak (Kd.R_over' (by exact RS <| HO_6.out) (Kd.R_typed (by exact RS <| HO175.out)) (by decide) hg)
        have n2_ := Ak (Kd.R_after (ok := (fun k_ => some k_ ≠ (.slice Ao17 x5_1.length co17 : Value).ownBlock)) (by exact RS <| HO172.out) hg hat)
        have n3_ := Ak (hb)
        have n4_ := Ak ((Ct Kd.string Ny163.out (Kd.R_after (ok := (fun k_ => some k_ ≠ (.slice Ao92 y170.length co92 : Value).ownBlock)) (by exact RS <| HO_5.out) hg hat) KL83.out))
        have n5_ := Ak ((Cd Kd.string Ny176.out KA84.out (Kd.R_after (ok := (fun k_ => some k_ ≠ (.slice Ao92 y170.length co92 : Value).ownBlock)) (by exact RS <| HO_5.out) hg hat) KL84.out))
        have n6_ := Ak (ho)
        clear HO_5 HO_6 HO172 HB HR166 HR179 HO175; have HO_5 := n0_; have HO_6 := n1_; have HO172 := n2_; have HB := n3_; have HR166 := n4_; have HR179 := n5_; have HO182 := n6_; clear n0_ n1_ n2_ n3_ n4_ n5_ n6_ ho hb hg hat
        refine hK.out _ _ trivial (fun hHeld => ?_); clear hK K
        refine norm_ (a' := ?_) ?_ ?_; rotate_left; (show Act.put _ (some 94) _ = _; simp only [Z]; rfl)
        refine pure_ (i := 12) (N := some 5) (v := ?_) (a' := ?_) #[I,I,I,I,I,I,I,I,I,I,I,I,I] rfl rfl (any_of HT_.out (by kernel_rfl)) (fun _ _ _ h => h) (Or.inl ⟨by rfl, ?_⟩) ?_ ?_
        rotate_left; (intro w'; go_simp; with_reducible rfl); rotate_left; (simp only [Z]; rfl)
        refine done_ (done_of HT_.out (by kernel_rfl)) ?_
        try go_wp2
        have n0_ := Ak (Kd.R_drew HO_5.out)
        have n1_ := Ak (Kd.R_drew HO_6.out)
        have n2_ := Ak (Kd.R_drew HO172.out)
        have n3_ := Ak (Kd.R_drew HO182.out)
        have n4_ := Ak (Kd.C_drew HR166.out)
        have n5_ := Ak (Kd.C_drew HR179.out)
        have n6_ := Ak (below_drew1 HB.out)
        clear HO_5 HO_6 HO172 HO182 HR166 HR179 HB; have HO_5 := n0_; have HO_6 := n1_; have HO172 := n2_; have HO182 := n3_; have HR166 := n4_; have HR179 := n5_; have HB := n6_; clear n0_ n1_ n2_ n3_ n4_ n5_ n6_
        have q95 : (x11_3 : Int) ≤ ((x6_1.length : Int) : Int) := Dz
        obtain ⟨i095, hi095, _, hsz95, _⟩ := info_parts info3
        have hroom95 : x6_1.length ≤ co81 := (Kd.R_reads' HO_6.out).2.1
        have hC95 : Kd.C (Kd.int .i64) _ (some ad111) x6_1.length x6_1 := (Kd.R_reads' HO_6.out).2.2
        have hcut95 := cut_to (P := Tryd.prog) 25 3 .i64 Tryd.underlying25 hi095 (some ad111) x6_1.length co81 x11_3 Dz q95 hroom95
        have hr95 := Kd.C_take (m := (x11_3 : Int).toNat) hC95 (by omega)
        have hy95 : y186.length = (x11_3 : Int).toNat := (by rw [Ny186.out, List.length_take]; omega)
        rw [← Ny186.out] at hr95
        rw [← hy95] at hcut95
        have HR189 := Ak hr95
        have HC189 := Ak (show y186.length ≤ co81 from by omega)
        clear hr95 hC95 hroom95 hi095 hsz95
        have KY95 := Ak hy95
        clear hy95
        have KL95 := Ak (show (x11_3 : Int).toNat ≤ x6_1.length from by omega)
        replace q95 := eq_true q95
        have q96 : (x11_3 : Int) ≤ ((x6_1.length : Int) : Int) := Dz
        obtain ⟨i096, hi096, _, hsz96, _⟩ := info_parts info3
        have hroom96 : x6_1.length ≤ co81 := (Kd.R_reads' HO_6.out).2.1
        have hC96 : Kd.C (Kd.int .i64) _ (some ad111) x6_1.length x6_1 := (Kd.R_reads' HO_6.out).2.2
        have q096 : (0 : Int) ≤ (x11_3 : Int) := Dz
        have hcut96 := cut_from (P := Tryd.prog) 25 3 .i64 Tryd.underlying25 hi096 1 hsz96 (some ad111) x6_1.length co81 x11_3 q096 q96
        have hr96 := Kd.C_drop (m := (x11_3 : Int).toNat) (c := co81) hC96 (by omega) hroom96
        obtain ⟨A96, hA96⟩ : ∃ A1, A1 = (if co81 = (x11_3 : Int).toNat then (some ad111) else ((some ad111) : Option Addr).map (·.add ((x11_3 : Int).toNat * 1))) := ⟨_, rfl⟩
        obtain ⟨c96, hc96⟩ : ∃ c1, c1 = co81 - (x11_3 : Int).toNat := ⟨_, rfl⟩
        have hy96 : y199.length = x6_1.length - (x11_3 : Int).toNat := (by rw [Ny199.out, List.length_drop] <;> omega)
        rw [show (x6_1).drop (x11_3 : Int).toNat = y199 from Ny199.out.symm] at hr96
        replace hr96 : Kd.C (Kd.int .i64) _ A96 y199.length y199 := (by rw [hA96]; exact hr96)
        rw [← hy96, ← hA96, ← hc96] at hcut96
        have HR202 := Ak hr96
        have HC202 := Ak (show y199.length ≤ c96 from by rw [hy96, hc96]; exact Nat.sub_le_sub_right hroom96 _)
        clear hr96 hC96 hroom96 hi096 hsz96 hc96
        have KY96 := Ak hy96
        have KA96 := Ak hA96
        clear hy96 hA96
        have KL96 := Ak (show (x11_3 : Int).toNat ≤ x6_1.length from by omega)
        replace q96 := eq_true q96
        refine start_ (n := 13) (S := fun w' => True) (ds := []) #[O,O,O,O,O,O,O,O,O,O,O,O,O] (by kernel_rfl) rfl rfl trivial (fun hHeld => ?_); refine with_tabW Fa.tab17 Fa.bits17 (fun HT_ HW_ => ?_)
        generalize w93.drew = w94 at HO_5 HO_6 HO172 HO182 HR166 HR179 HB HR189 HR202 hHeld ⊢
        refine pure_ (i := 1) (N := some 96) (v := ?_) (a' := ?_) #[O,I,O,O,O,O,O,O,O,O,O,O,O] rfl rfl (any_of HT_.out (by kernel_rfl)) (fun _ _ _ h => h) (Or.inl ⟨by rfl, ?_⟩) ?_ ?_
        rotate_left; (intro w'; go_simp; with_reducible rfl); rotate_left; (simp only [Z]; rfl)
        refine pure_ (i := 2) (N := some 97) (v := ?_) (a' := ?_) #[O,I,I,O,O,O,O,O,O,O,O,O,O] rfl rfl (any_of HT_.out (by kernel_rfl)) (fun _ _ _ h => h) (Or.inl ⟨by rfl, ?_⟩) ?_ ?_
        rotate_left; (intro w'; go_simp; with_reducible rfl); rotate_left; (simp only [Z]; rfl)
        refine pure_ (i := 3) (N := some 98) (v := ?_) (a' := ?_) #[O,I,I,I,O,O,O,O,O,O,O,O,O] rfl rfl (any_of HT_.out (by kernel_rfl)) (fun _ _ _ h => h) (Or.inl ⟨by rfl, ?_⟩) ?_ ?_
        rotate_left; (intro w'; go_simp; with_reducible rfl); rotate_left; (simp only [Z]; rfl)
        refine pure_ (i := 5) (N := some 100) (v := ?_) (a' := ?_) #[O,I,I,I,O,I,O,O,O,O,O,O,O] rfl rfl (any_of HT_.out (by kernel_rfl)) (fun _ _ _ h => h) (Or.inl ⟨by rfl, ?_⟩) ?_ ?_
        rotate_left; (intro w'; go_simp; with_reducible rfl); rotate_left; (simp only [Z]; rfl)
        refine pure_ (i := 8) (N := some 103) (v := ?_) (a' := ?_) #[O,I,I,I,O,I,O,O,I,O,O,O,O] rfl rfl (any_of HT_.out (by kernel_rfl)) (fun _ _ _ h => h) (Or.inl ⟨by rfl, ?_⟩) ?_ ?_
        rotate_left; (intro w'; go_simp; with_reducible rfl); rotate_left; (simp only [Z]; rfl)
        refine pure_ (i := 9) (N := some 104) (v := ?_) (a' := ?_) #[O,I,I,I,O,I,O,O,I,I,O,O,O] rfl rfl (any_of HT_.out (by kernel_rfl)) (fun _ _ _ h => h) (Or.inl ⟨by rfl, ?_⟩) ?_ ?_
        rotate_left; (intro w'; go_simp; with_reducible rfl); rotate_left; (simp only [Z]; rfl)
        refine pure_ (i := 10) (N := some 105) (v := ?_) (a' := ?_) #[O,I,I,I,O,I,O,O,I,I,I,O,O] rfl rfl (any_of HT_.out (by kernel_rfl)) (fun _ _ _ h => h) (Or.inl ⟨by rfl, ?_⟩) ?_ ?_
        rotate_left; (intro w'; go_simp; with_reducible rfl); rotate_left; (simp only [Z]; rfl)
        refine join_ (σ := Value × Value × Value) 3 #[I,I,I,I,I,I,I,O,I,I,I,O,O] (fun s_ => [(95, s_.1), (99, s_.2.1), (101, s_.2.2)]) (fun s_ w' => (Kd.R Kd.string 9 w' w.heap.size (fun k_ => some k_ ≠ (v181 : Value).ownBlock ∧ some k_ ≠ (.slice Ao17 x5_1.length co17 : Value).ownBlock) (.slice Ao92 y170.length co92) y170) ∧ (Kd.R Kd.string 9 w' w.heap.size (fun k_ => some k_ ≠ (.slice Ao92 y170.length co92 : Value).ownBlock ∧ some k_ ≠ (.slice Ao17 x5_1.length co17 : Value).ownBlock) v181 y180) ∧ (Kd.R (Kd.int .i64) 3 w' w.heap.size (fun k_ => some k_ ≠ (s_.2.2 : Value).ownBlock ∧ some k_ ≠ (.slice (some ad111) x6_1.length co81 : Value).ownBlock) s_.2.1 y190) ∧ (Kd.R (Kd.int .i64) 3 w' w.heap.size (fun k_ => some k_ ≠ (s_.2.1 : Value).ownBlock ∧ some k_ ≠ (.slice (some ad111) x6_1.length co81 : Value).ownBlock) s_.2.2 y193) ∧ (Kd.R Kd.string 9 w' w.heap.size (fun k_ => some k_ ≠ (.slice Ao92 y170.length co92 : Value).ownBlock ∧ some k_ ≠ (v181 : Value).ownBlock) (.slice Ao17 x5_1.length co17) x5_1) ∧ (Kd.R (Kd.int .i64) 3 w' w.heap.size (fun k_ => some k_ ≠ (s_.2.1 : Value).ownBlock ∧ some k_ ≠ (s_.2.2 : Value).ownBlock) (.slice (some ad111) x6_1.length co81) x6_1) ∧ (Below w.heap.size w w')) ?_ ?_
        rotate_left
        ·intro hCont
         refine two_ (i := 0) (j := 6) (Ni := some 95) (Nj := some 101) #[I,I,I,I,O,I,O,O,I,I,I,O,O] #[O,I,I,I,O,I,I,O,I,I,I,O,O] rfl rfl rfl rfl (two_of HT_.out (by kernel_rfl)) (by decide) (by decide) (fun K hK => ?_) (fun K hK => ?_)
         ·skip
          refine Kd.R_lit_step (Kd.int .i64) _ 3 ?hg (N := 95) ?hd (xs := ([] : List Int)) (inner := []) (ok := fun _ => True) (okp := fun _ => True) ?hr ?hp (fun _ hk => hk) trivial (Below.refl _ _) (Nat.le_refl _) (by simp) ?_; (case hd => rfl); (case hg => rfl); (case hr => first | (go_simp; done) | (go_simp; rfl)); (case hp => exact (Reps.none _ _))
          intro v184 w97 ho98 hb hg_ hnew_
          clear hg_ hnew_
          (first | rw [← Ny183.out] at ho98 | (simp only [Int.reduceToNat] at ho98; rw [← Ny183.out] at ho98))
          have n0_ := Ak (Kd.R_below (by exact RS <| HO_5.out) hb)
          have n1_ := Ak (Kd.R_elder' (by exact RS <| HO_6.out) (Kd.R_base ho98) hb)
          have n2_ := Ak (Kd.R_below (by exact RS <| HO172.out) hb)
          have n3_ := Ak (Kd.R_below (by exact RS <| HO182.out) hb)
          have n4_ := Ak (Kd.R_lower (Kd.R_new' ho98 (Kd.R_lt (by exact RS <| HO_6.out))) (below_size (by exact eS HB.out)))
          have n5_ := Ak (Kd.C_below (by exact Cs HR166.out) hb)
          have n6_ := Ak (Kd.C_below (by exact Cs HR179.out) hb)
          have n7_ := Ak (Kd.C_below (by exact Cs HR189.out) hb)
          have n8_ := Ak (Kd.C_below (by exact Cs HR202.out) hb)
          have n9_ := Ak (below_step (by exact eS HB.out) hb)
          clear HO_5 HO_6 HO172 HO182 HR166 HR179 HR189 HR202 HB; have HO_5 := n0_; have HO_6 := n1_; have HO172 := n2_; have HO182 := n3_; have HO185 := n4_; have HR166 := n5_; have HR179 := n6_; have HR189 := n7_; have HR202 := n8_; have HB := n9_; clear n0_ n1_ n2_ n3_ n4_ n5_ n6_ n7_ n8_ n9_ hb ho98
          refine hK.out _ _ trivial (fun hHeld => ?_); clear hK K
          refine norm_ (a' := ?_) ?_ ?_; rotate_left; (show Act.put _ (some 95) _ = _; simp only [Z]; rfl)
          refine two_ (i := 4) (j := 6) (Ni := some 99) (Nj := some 101) #[I,I,I,I,I,I,O,O,I,I,I,O,O] #[I,I,I,I,O,I,I,O,I,I,I,O,O] rfl rfl rfl rfl (two_of HT_.out (by kernel_rfl)) (by decide) (by decide) (fun K hK => ?_) (fun K hK => ?_)
          ·skip
           refine Kd.R_append_rows_step (Kd.int .i64) (w0 := w) w.heap.size (by rfl) (.tmp 95) (.tmp 98) 25 3 (.int .i64 0) 8 rfl Tryd.underlying25 info3 rfl (by decide) (by omega) v184 y183 y186 _ _ _ (fun k_ => some k_ ≠ (.slice (some ad111) x6_1.length co81 : Value).ownBlock) (fun _ => False) rfl rfl ?aO ?aR (fun _ _ h => h) (fun _ h => h.elim) ?aF ?aB ?aS ?aL ?_
           (case aR => exact Cs HR189.out)
           (case aB => exact (by exact eS HB.out))
           (case aF => exact (fun k_ hk => Kd.fresh' (Kd.R_lt (by exact RS <| HO_6.out)) k_ hk))
           (case aO => exact (by exact RS <| Kd.R_mono HO185.out (fun _ hk => hk.2)))
           (case aS => exact (below_size (by exact eS HB.out)))
           (case aL => have := LMc76.out; omega)
           intro v191 w99 ho hb hg hat
           rw [← Ny190.out] at ho
           have n0_ := Ak (Kd.R_over' (by exact RS <| HO_5.out) (Kd.R_typed (by exact RS <| HO185.out)) (by decide) hg)
           have n1_ := Ak (Kd.R_after (ok := (fun _ => True)) (by exact RS <| HO_6.out) hg hat)
           have n2_ := Ak (Kd.R_over' (by exact RS <| HO172.out) (Kd.R_typed (by exact RS <| HO185.out)) (by decide) hg)
           have n3_ := Ak (Kd.R_over' (by exact RS <| HO182.out) (Kd.R_typed (by exact RS <| HO185.out)) (by decide) hg)
           have n4_ := Ak (hb)
           have n5_ := Ak ((Ct Kd.string Ny163.out (Kd.R_over' (by exact RS <| HO_5.out) (Kd.R_typed (by exact RS <| HO185.out)) (by decide) hg) KL83.out))
           have n6_ := Ak ((Cd Kd.string Ny176.out KA84.out (Kd.R_over' (by exact RS <| HO_5.out) (Kd.R_typed (by exact RS <| HO185.out)) (by decide) hg) KL84.out))
           have n7_ := Ak ((Ct (Kd.int .i64) Ny186.out (Kd.R_after (ok := (fun _ => True)) (by exact RS <| HO_6.out) hg hat) KL95.out))
           have n8_ := Ak ((Cd (Kd.int .i64) Ny199.out KA96.out (Kd.R_after (ok := (fun _ => True)) (by exact RS <| HO_6.out) hg hat) KL96.out))
           have n9_ := Ak (ho)
           clear HO_5 HO_6 HO172 HO182 HB HR166 HR179 HR189 HR202 HO185; have HO_5 := n0_; have HO_6 := n1_; have HO172 := n2_; have HO182 := n3_; have HB := n4_; have HR166 := n5_; have HR179 := n6_; have HR189 := n7_; have HR202 := n8_; have HO192 := n9_; clear n0_ n1_ n2_ n3_ n4_ n5_ n6_ n7_ n8_ n9_ ho hb hg hat
           refine hK.out _ _ trivial (fun hHeld => ?_); clear hK K
           refine norm_ (a' := ?_) ?_ ?_; rotate_left; (show Act.put _ (some 99) _ = _; simp only [Z]; rfl)
           refine one_ (i := 6) (N := some 101) #[I,I,I,I,I,I,I,O,I,I,I,O,O] rfl rfl (one_of HT_.out (by kernel_rfl)) (by decide) (fun K hK => ?_)
           refine Kd.R_lit_step (Kd.int .i64) _ 3 ?hg (N := 101) ?hd (xs := ([t110] : List Int)) (inner := [.int .i64 t110]) (ok := fun _ => True) (okp := fun _ => True) ?hr ?hp (fun _ hk => hk) trivial (Below.refl _ _) (Nat.le_refl _) (by simp) ?_; (case hd => rfl); (case hg => rfl); (case hr => first | (go_simp; done) | (go_simp; rfl)); (case hp => exact (Reps.one (show Kd.M (Kd.int .i64) _ _ _ t110 [.int .i64 t110] from rfl) (Reps.none _ _)))
           intro v194 w100 ho101 hb hg_ hnew_
           clear hg_ hnew_
           (first | rw [← Ny193.out] at ho101 | (simp only [Int.reduceToNat] at ho101; rw [← Ny193.out] at ho101))
           have n0_ := Ak (Kd.R_below (by exact RS <| HO_5.out) hb)
           have n1_ := Ak (Kd.R_elder' (by exact RS <| HO_6.out) (Kd.R_base ho101) hb)
           have n2_ := Ak (Kd.R_below (by exact RS <| HO172.out) hb)
           have n3_ := Ak (Kd.R_below (by exact RS <| HO182.out) hb)
           have n4_ := Ak (Kd.R_elder' (by exact RS <| HO192.out) (Kd.R_base ho101) hb)
           have n5_ := Ak (Kd.R_lower (Kd.R_new' (Kd.R_new' ho101 (Kd.R_lt (by exact RS <| HO_6.out))) (Kd.R_lt (by exact RS <| HO192.out))) (below_size (by exact eS HB.out)))
           have n6_ := Ak (Kd.C_below (by exact Cs HR166.out) hb)
           have n7_ := Ak (Kd.C_below (by exact Cs HR179.out) hb)
           have n8_ := Ak (Kd.C_below (by exact Cs HR189.out) hb)
           have n9_ := Ak (Kd.C_below (by exact Cs HR202.out) hb)
           have n10_ := Ak (below_step (by exact eS HB.out) hb)
           clear HO_5 HO_6 HO172 HO182 HO192 HR166 HR179 HR189 HR202 HB; have HO_5 := n0_; have HO_6 := n1_; have HO172 := n2_; have HO182 := n3_; have HO192 := n4_; have HO195 := n5_; have HR166 := n6_; have HR179 := n7_; have HR189 := n8_; have HR202 := n9_; have HB := n10_; clear n0_ n1_ n2_ n3_ n4_ n5_ n6_ n7_ n8_ n9_ n10_ hb ho101
           refine hK.out _ _ trivial (fun hHeld => ?_); clear hK K
           refine norm_ (a' := ?_) ?_ ?_; rotate_left; (show Act.put _ (some 101) _ = _; simp only [Z]; rfl)
           exact norm_ (by simp only [putAll, Act.put, List.setIfInBounds_toArray, List.set_cons_zero, List.set_cons_succ]) (hCont (v184, v191, v194) _ ⟨(by exact RS <| Kd.R_mono HO172.out (fun _ hk => ⟨hk.2, hk.1⟩)), (by exact RS <| Kd.R_mono HO182.out (fun _ hk => ⟨hk.2, hk.1⟩)), (by exact RS <| Kd.R_mono HO192.out (fun _ hk => ⟨hk.2, hk.1⟩)), (by exact RS <| Kd.R_mono HO195.out (fun _ hk => ⟨hk.2, hk.1.2⟩)), (by exact RS <| HO_5.out), (by exact RS <| Kd.R_mono HO_6.out (fun _ hk => ⟨hk.1.2, hk.2⟩)), (by exact eS HB.out)⟩)
          ·skip
           refine Kd.R_lit_step (Kd.int .i64) _ 3 ?hg (N := 101) ?hd (xs := ([t110] : List Int)) (inner := [.int .i64 t110]) (ok := fun _ => True) (okp := fun _ => True) ?hr ?hp (fun _ hk => hk) trivial (Below.refl _ _) (Nat.le_refl _) (by simp) ?_; (case hd => rfl); (case hg => rfl); (case hr => first | (go_simp; done) | (go_simp; rfl)); (case hp => exact (Reps.one (show Kd.M (Kd.int .i64) _ _ _ t110 [.int .i64 t110] from rfl) (Reps.none _ _)))
           intro v194 w99 ho100 hb hg_ hnew_
           clear hg_ hnew_
           (first | rw [← Ny193.out] at ho100 | (simp only [Int.reduceToNat] at ho100; rw [← Ny193.out] at ho100))
           have n0_ := Ak (Kd.R_below (by exact RS <| HO_5.out) hb)
           have n1_ := Ak (Kd.R_elder' (by exact RS <| HO_6.out) (Kd.R_base ho100) hb)
           have n2_ := Ak (Kd.R_below (by exact RS <| HO172.out) hb)
           have n3_ := Ak (Kd.R_below (by exact RS <| HO182.out) hb)
           have n4_ := Ak (Kd.R_elder' (by exact RS <| HO185.out) (Kd.R_base ho100) hb)
           have n5_ := Ak (Kd.R_lower (Kd.R_new' (Kd.R_new' ho100 (Kd.R_lt (by exact RS <| HO_6.out))) (Kd.R_lt (by exact RS <| HO185.out))) (below_size (by exact eS HB.out)))
           have n6_ := Ak (Kd.C_below (by exact Cs HR166.out) hb)
           have n7_ := Ak (Kd.C_below (by exact Cs HR179.out) hb)
           have n8_ := Ak (Kd.C_below (by exact Cs HR189.out) hb)
           have n9_ := Ak (Kd.C_below (by exact Cs HR202.out) hb)
           have n10_ := Ak (below_step (by exact eS HB.out) hb)
           clear HO_5 HO_6 HO172 HO182 HO185 HR166 HR179 HR189 HR202 HB; have HO_5 := n0_; have HO_6 := n1_; have HO172 := n2_; have HO182 := n3_; have HO185 := n4_; have HO195 := n5_; have HR166 := n6_; have HR179 := n7_; have HR189 := n8_; have HR202 := n9_; have HB := n10_; clear n0_ n1_ n2_ n3_ n4_ n5_ n6_ n7_ n8_ n9_ n10_ hb ho100
           refine hK.out _ _ trivial (fun hHeld => ?_); clear hK K
           refine norm_ (a' := ?_) ?_ ?_; rotate_left; (show Act.put _ (some 101) _ = _; simp only [Z]; rfl)
           refine one_ (i := 4) (N := some 99) #[I,I,I,I,I,I,I,O,I,I,I,O,O] rfl rfl (one_of HT_.out (by kernel_rfl)) (by decide) (fun K hK => ?_)
           refine Kd.R_append_rows_step (Kd.int .i64) (w0 := w) w.heap.size (by rfl) (.tmp 95) (.tmp 98) 25 3 (.int .i64 0) 8 rfl Tryd.underlying25 info3 rfl (by decide) (by omega) v184 y183 y186 _ _ _ (fun k_ => some k_ ≠ (.slice (some ad111) x6_1.length co81 : Value).ownBlock ∧ some k_ ≠ (v194 : Value).ownBlock) (fun _ => False) rfl rfl ?aO ?aR (fun _ _ h => h) (fun _ h => h.elim) ?aF ?aB ?aS ?aL ?_
           (case aR => exact Cs HR189.out)
           (case aB => exact (by exact eS HB.out))
           (case aF => exact (fun k_ hk => ⟨Kd.fresh' (Kd.R_lt (by exact RS <| HO_6.out)) k_ hk, Kd.fresh' (Kd.R_lt (by exact RS <| HO195.out)) k_ hk⟩))
           (case aO => exact (by exact RS <| Kd.R_mono HO185.out (fun _ hk => ⟨hk.1.2, hk.2⟩)))
           (case aS => exact (below_size (by exact eS HB.out)))
           (case aL => have := LMc76.out; omega)
           intro v191 w101 ho hb hg hat
           rw [← Ny190.out] at ho
           have n0_ := Ak (Kd.R_over' (by exact RS <| HO_5.out) (Kd.R_typed (by exact RS <| HO185.out)) (by decide) hg)
           have n1_ := Ak (Kd.R_after (ok := (fun k_ => some k_ ≠ (v194 : Value).ownBlock)) (by exact RS <| Kd.R_mono HO_6.out (fun _ hk => ⟨hk.2, hk.1.2⟩)) hg hat)
           have n2_ := Ak (Kd.R_over' (by exact RS <| HO172.out) (Kd.R_typed (by exact RS <| HO185.out)) (by decide) hg)
           have n3_ := Ak (Kd.R_over' (by exact RS <| HO182.out) (Kd.R_typed (by exact RS <| HO185.out)) (by decide) hg)
           have n4_ := Ak (Kd.R_after (ok := (fun k_ => some k_ ≠ (.slice (some ad111) x6_1.length co81 : Value).ownBlock)) (by exact RS <| Kd.R_mono HO195.out (fun _ hk => ⟨hk.1.2, hk.2⟩)) hg hat)
           have n5_ := Ak (hb)
           have n6_ := Ak ((Ct Kd.string Ny163.out (Kd.R_over' (by exact RS <| HO_5.out) (Kd.R_typed (by exact RS <| HO185.out)) (by decide) hg) KL83.out))
           have n7_ := Ak ((Cd Kd.string Ny176.out KA84.out (Kd.R_over' (by exact RS <| HO_5.out) (Kd.R_typed (by exact RS <| HO185.out)) (by decide) hg) KL84.out))
           have n8_ := Ak ((Ct (Kd.int .i64) Ny186.out (Kd.R_after (ok := (fun k_ => some k_ ≠ (v194 : Value).ownBlock)) (by exact RS <| Kd.R_mono HO_6.out (fun _ hk => ⟨hk.2, hk.1.2⟩)) hg hat) KL95.out))
           have n9_ := Ak ((Cd (Kd.int .i64) Ny199.out KA96.out (Kd.R_after (ok := (fun k_ => some k_ ≠ (v194 : Value).ownBlock)) (by exact RS <| Kd.R_mono HO_6.out (fun _ hk => ⟨hk.2, hk.1.2⟩)) hg hat) KL96.out))
           have n10_ := Ak (ho)
           clear HO_5 HO_6 HO172 HO182 HO195 HB HR166 HR179 HR189 HR202 HO185; have HO_5 := n0_; have HO_6 := n1_; have HO172 := n2_; have HO182 := n3_; have HO195 := n4_; have HB := n5_; have HR166 := n6_; have HR179 := n7_; have HR189 := n8_; have HR202 := n9_; have HO192 := n10_; clear n0_ n1_ n2_ n3_ n4_ n5_ n6_ n7_ n8_ n9_ n10_ ho hb hg hat
           refine hK.out _ _ trivial (fun hHeld => ?_); clear hK K
           refine norm_ (a' := ?_) ?_ ?_; rotate_left; (show Act.put _ (some 99) _ = _; simp only [Z]; rfl)
           exact norm_ (by simp only [putAll, Act.put, List.setIfInBounds_toArray, List.set_cons_zero, List.set_cons_succ]) (hCont (v184, v191, v194) _ ⟨(by exact RS <| Kd.R_mono HO172.out (fun _ hk => ⟨hk.2, hk.1⟩)), (by exact RS <| Kd.R_mono HO182.out (fun _ hk => ⟨hk.2, hk.1⟩)), (by exact RS <| Kd.R_mono HO192.out (fun _ hk => ⟨hk.2, hk.1⟩)), (by exact RS <| Kd.R_mono HO195.out (fun _ hk => ⟨hk.2, hk.1⟩)), (by exact RS <| HO_5.out), (by exact RS <| Kd.R_mono HO_6.out (fun _ hk => ⟨hk.2, hk.1⟩)), (by exact eS HB.out)⟩)
         ·skip
          refine Kd.R_lit_step (Kd.int .i64) _ 3 ?hg (N := 101) ?hd (xs := ([t110] : List Int)) (inner := [.int .i64 t110]) (ok := fun _ => True) (okp := fun _ => True) ?hr ?hp (fun _ hk => hk) trivial (Below.refl _ _) (Nat.le_refl _) (by simp) ?_; (case hd => rfl); (case hg => rfl); (case hr => first | (go_simp; done) | (go_simp; rfl)); (case hp => exact (Reps.one (show Kd.M (Kd.int .i64) _ _ _ t110 [.int .i64 t110] from rfl) (Reps.none _ _)))
          intro v194 w97 ho98 hb hg_ hnew_
          clear hg_ hnew_
          (first | rw [← Ny193.out] at ho98 | (simp only [Int.reduceToNat] at ho98; rw [← Ny193.out] at ho98))
          have n0_ := Ak (Kd.R_below (by exact RS <| HO_5.out) hb)
          have n1_ := Ak (Kd.R_elder' (by exact RS <| HO_6.out) (Kd.R_base ho98) hb)
          have n2_ := Ak (Kd.R_below (by exact RS <| HO172.out) hb)
          have n3_ := Ak (Kd.R_below (by exact RS <| HO182.out) hb)
          have n4_ := Ak (Kd.R_lower (Kd.R_new' ho98 (Kd.R_lt (by exact RS <| HO_6.out))) (below_size (by exact eS HB.out)))
          have n5_ := Ak (Kd.C_below (by exact Cs HR166.out) hb)
          have n6_ := Ak (Kd.C_below (by exact Cs HR179.out) hb)
          have n7_ := Ak (Kd.C_below (by exact Cs HR189.out) hb)
          have n8_ := Ak (Kd.C_below (by exact Cs HR202.out) hb)
          have n9_ := Ak (below_step (by exact eS HB.out) hb)
          clear HO_5 HO_6 HO172 HO182 HR166 HR179 HR189 HR202 HB; have HO_5 := n0_; have HO_6 := n1_; have HO172 := n2_; have HO182 := n3_; have HO195 := n4_; have HR166 := n5_; have HR179 := n6_; have HR189 := n7_; have HR202 := n8_; have HB := n9_; clear n0_ n1_ n2_ n3_ n4_ n5_ n6_ n7_ n8_ n9_ hb ho98
          refine hK.out _ _ trivial (fun hHeld => ?_); clear hK K
          refine norm_ (a' := ?_) ?_ ?_; rotate_left; (show Act.put _ (some 101) _ = _; simp only [Z]; rfl)
          refine one_ (i := 0) (N := some 95) #[I,I,I,I,O,I,I,O,I,I,I,O,O] rfl rfl (one_of HT_.out (by kernel_rfl)) (by decide) (fun K hK => ?_)
          refine Kd.R_lit_step (Kd.int .i64) _ 3 ?hg (N := 95) ?hd (xs := ([] : List Int)) (inner := []) (ok := fun _ => True) (okp := fun _ => True) ?hr ?hp (fun _ hk => hk) trivial (Below.refl _ _) (Nat.le_refl _) (by simp) ?_; (case hd => rfl); (case hg => rfl); (case hr => first | (go_simp; done) | (go_simp; rfl)); (case hp => exact (Reps.none _ _))
          intro v184 w99 ho100 hb hg_ hnew_
          clear hg_ hnew_
          (first | rw [← Ny183.out] at ho100 | (simp only [Int.reduceToNat] at ho100; rw [← Ny183.out] at ho100))
          have n0_ := Ak (Kd.R_below (by exact RS <| HO_5.out) hb)
          have n1_ := Ak (Kd.R_elder' (by exact RS <| HO_6.out) (Kd.R_base ho100) hb)
          have n2_ := Ak (Kd.R_below (by exact RS <| HO172.out) hb)
          have n3_ := Ak (Kd.R_below (by exact RS <| HO182.out) hb)
          have n4_ := Ak (Kd.R_elder' (by exact RS <| HO195.out) (Kd.R_base ho100) hb)
          have n5_ := Ak (Kd.R_lower (Kd.R_new' (Kd.R_new' ho100 (Kd.R_lt (by exact RS <| HO_6.out))) (Kd.R_lt (by exact RS <| HO195.out))) (below_size (by exact eS HB.out)))
          have n6_ := Ak (Kd.C_below (by exact Cs HR166.out) hb)
          have n7_ := Ak (Kd.C_below (by exact Cs HR179.out) hb)
          have n8_ := Ak (Kd.C_below (by exact Cs HR189.out) hb)
          have n9_ := Ak (Kd.C_below (by exact Cs HR202.out) hb)
          have n10_ := Ak (below_step (by exact eS HB.out) hb)
          clear HO_5 HO_6 HO172 HO182 HO195 HR166 HR179 HR189 HR202 HB; have HO_5 := n0_; have HO_6 := n1_; have HO172 := n2_; have HO182 := n3_; have HO195 := n4_; have HO185 := n5_; have HR166 := n6_; have HR179 := n7_; have HR189 := n8_; have HR202 := n9_; have HB := n10_; clear n0_ n1_ n2_ n3_ n4_ n5_ n6_ n7_ n8_ n9_ n10_ hb ho100
          refine hK.out _ _ trivial (fun hHeld => ?_); clear hK K
          refine norm_ (a' := ?_) ?_ ?_; rotate_left; (show Act.put _ (some 95) _ = _; simp only [Z]; rfl)
          refine one_ (i := 4) (N := some 99) #[I,I,I,I,I,I,I,O,I,I,I,O,O] rfl rfl (one_of HT_.out (by kernel_rfl)) (by decide) (fun K hK => ?_)
          refine Kd.R_append_rows_step (Kd.int .i64) (w0 := w) w.heap.size (by rfl) (.tmp 95) (.tmp 98) 25 3 (.int .i64 0) 8 rfl Tryd.underlying25 info3 rfl (by decide) (by omega) v184 y183 y186 _ _ _ (fun k_ => some k_ ≠ (.slice (some ad111) x6_1.length co81 : Value).ownBlock ∧ some k_ ≠ (v194 : Value).ownBlock) (fun _ => False) rfl rfl ?aO ?aR (fun _ _ h => h) (fun _ h => h.elim) ?aF ?aB ?aS ?aL ?_
          (case aR => exact Cs HR189.out)
          (case aB => exact (by exact eS HB.out))
          (case aF => exact (fun k_ hk => ⟨Kd.fresh' (Kd.R_lt (by exact RS <| HO_6.out)) k_ hk, Kd.fresh' (Kd.R_lt (by exact RS <| HO195.out)) k_ hk⟩))
          (case aO => exact (by exact RS <| Kd.R_mono HO185.out (fun _ hk => ⟨hk.1.2, hk.2⟩)))
          (case aS => exact (below_size (by exact eS HB.out)))
          (case aL => have := LMc76.out; omega)
          intro v191 w101 ho hb hg hat
          rw [← Ny190.out] at ho
          have n0_ := Ak (Kd.R_over' (by exact RS <| HO_5.out) (Kd.R_typed (by exact RS <| HO185.out)) (by decide) hg)
          have n1_ := Ak (Kd.R_after (ok := (fun k_ => some k_ ≠ (v194 : Value).ownBlock)) (by exact RS <| Kd.R_mono HO_6.out (fun _ hk => ⟨hk.1.2, hk.2⟩)) hg hat)
          have n2_ := Ak (Kd.R_over' (by exact RS <| HO172.out) (Kd.R_typed (by exact RS <| HO185.out)) (by decide) hg)
          have n3_ := Ak (Kd.R_over' (by exact RS <| HO182.out) (Kd.R_typed (by exact RS <| HO185.out)) (by decide) hg)
          have n4_ := Ak (Kd.R_after (ok := (fun k_ => some k_ ≠ (.slice (some ad111) x6_1.length co81 : Value).ownBlock)) (by exact RS <| Kd.R_mono HO195.out (fun _ hk => ⟨hk.1.2, hk.2⟩)) hg hat)
          have n5_ := Ak (hb)
          have n6_ := Ak ((Ct Kd.string Ny163.out (Kd.R_over' (by exact RS <| HO_5.out) (Kd.R_typed (by exact RS <| HO185.out)) (by decide) hg) KL83.out))
          have n7_ := Ak ((Cd Kd.string Ny176.out KA84.out (Kd.R_over' (by exact RS <| HO_5.out) (Kd.R_typed (by exact RS <| HO185.out)) (by decide) hg) KL84.out))
          have n8_ := Ak ((Ct (Kd.int .i64) Ny186.out (Kd.R_after (ok := (fun k_ => some k_ ≠ (v194 : Value).ownBlock)) (by exact RS <| Kd.R_mono HO_6.out (fun _ hk => ⟨hk.1.2, hk.2⟩)) hg hat) KL95.out))
          have n9_ := Ak ((Cd (Kd.int .i64) Ny199.out KA96.out (Kd.R_after (ok := (fun k_ => some k_ ≠ (v194 : Value).ownBlock)) (by exact RS <| Kd.R_mono HO_6.out (fun _ hk => ⟨hk.1.2, hk.2⟩)) hg hat) KL96.out))
          have n10_ := Ak (ho)
          clear HO_5 HO_6 HO172 HO182 HO195 HB HR166 HR179 HR189 HR202 HO185; have HO_5 := n0_; have HO_6 := n1_; have HO172 := n2_; have HO182 := n3_; have HO195 := n4_; have HB := n5_; have HR166 := n6_; have HR179 := n7_; have HR189 := n8_; have HR202 := n9_; have HO192 := n10_; clear n0_ n1_ n2_ n3_ n4_ n5_ n6_ n7_ n8_ n9_ n10_ ho hb hg hat
          refine hK.out _ _ trivial (fun hHeld => ?_); clear hK K
          refine norm_ (a' := ?_) ?_ ?_; rotate_left; (show Act.put _ (some 99) _ = _; simp only [Z]; rfl)
          exact norm_ (by simp only [putAll, Act.put, List.setIfInBounds_toArray, List.set_cons_zero, List.set_cons_succ]) (hCont (v184, v191, v194) _ ⟨(by exact RS <| Kd.R_mono HO172.out (fun _ hk => ⟨hk.2, hk.1⟩)), (by exact RS <| Kd.R_mono HO182.out (fun _ hk => ⟨hk.2, hk.1⟩)), (by exact RS <| Kd.R_mono HO192.out (fun _ hk => ⟨hk.2, hk.1⟩)), (by exact RS <| Kd.R_mono HO195.out (fun _ hk => ⟨hk.2, hk.1⟩)), (by exact RS <| HO_5.out), (by exact RS <| Kd.R_mono HO_6.out (fun _ hk => ⟨hk.2, hk.1⟩)), (by exact eS HB.out)⟩)
        rintro ⟨v184, v191, v194⟩ w102 ⟨h0_, h1_, h2_, h3_, h4_, h5_, h6_⟩
        have n0_ : Aside0 (Kd.R Kd.string 9 w102 w.heap.size (fun k_ => some k_ ≠ (v181 : Value).ownBlock ∧ some k_ ≠ (.slice Ao17 x5_1.length co17 : Value).ownBlock) (.slice Ao92 y170.length co92) y170) := ⟨h0_⟩
        have n1_ : Aside0 (Kd.R Kd.string 9 w102 w.heap.size (fun k_ => some k_ ≠ (.slice Ao92 y170.length co92 : Value).ownBlock ∧ some k_ ≠ (.slice Ao17 x5_1.length co17 : Value).ownBlock) v181 y180) := ⟨h1_⟩
        have n2_ : Aside0 (Kd.R (Kd.int .i64) 3 w102 w.heap.size (fun k_ => some k_ ≠ (v194 : Value).ownBlock ∧ some k_ ≠ (.slice (some ad111) x6_1.length co81 : Value).ownBlock) v191 y190) := ⟨h2_⟩
        have n3_ : Aside0 (Kd.R (Kd.int .i64) 3 w102 w.heap.size (fun k_ => some k_ ≠ (v191 : Value).ownBlock ∧ some k_ ≠ (.slice (some ad111) x6_1.length co81 : Value).ownBlock) v194 y193) := ⟨h3_⟩
        have n4_ : Aside0 (Kd.R Kd.string 9 w102 w.heap.size (fun k_ => some k_ ≠ (.slice Ao92 y170.length co92 : Value).ownBlock ∧ some k_ ≠ (v181 : Value).ownBlock) (.slice Ao17 x5_1.length co17) x5_1) := ⟨h4_⟩
        have n5_ : Aside0 (Kd.R (Kd.int .i64) 3 w102 w.heap.size (fun k_ => some k_ ≠ (v191 : Value).ownBlock ∧ some k_ ≠ (v194 : Value).ownBlock) (.slice (some ad111) x6_1.length co81) x6_1) := ⟨h5_⟩
        have n6_ : Aside0 (Below w.heap.size w w102) := ⟨h6_⟩
        clear HO_5 HO_6 HO172 HO182 HR166 HR179 HB h0_ h1_ h2_ h3_ h4_ h5_ h6_; have HO172 := n0_; have HO182 := n1_; have HO192 := n2_; have HO195 := n3_; have HO_5 := n4_; have HO_6 := n5_; have HB := n6_; clear n0_ n1_ n2_ n3_ n4_ n5_ n6_
        have hHeld := trivial
        have HR166 := Ak (Ct Kd.string Ny163.out (HO_5.out) KL83.out)
        have HR179 := Ak (Cd Kd.string Ny176.out KA84.out (HO_5.out) KL84.out)
        have HR189 := Ak (Ct (Kd.int .i64) Ny186.out (HO_6.out) KL95.out)
        have HR202 := Ak (Cd (Kd.int .i64) Ny199.out KA96.out (HO_6.out) KL96.out)
        obtain ⟨Ao104, co104, eo104⟩ := Kd.R_slice HO195.out
        (first | subst eo104 | (injection eo104 with f1_ f2_ f3_; have f4_ := f1_.symm; have f5_ := f3_.symm; clear f1_ f2_ f3_; subst f4_; subst f5_))
        refine norm_ (a' := ?_) ?_ ?_
        rotate_left
        ·simp only [putAll, Act.put, List.setIfInBounds_toArray, List.set_cons_zero, List.set_cons_succ]
         rfl
        refine one_ (i := 7) (N := some 102) #[I,I,I,I,I,I,I,I,I,I,I,O,O] rfl rfl (one_of HT_.out (by kernel_rfl)) (by decide) (fun K hK => ?_)
        refine Kd.R_append_rows_step (Kd.int .i64) (w0 := w) w.heap.size (by rfl) (.tmp 99) (.tmp 101) 25 3 (.int .i64 0) 8 rfl Tryd.underlying25 info3 rfl (by decide) (by omega) v191 y190 y193 _ _ _ (fun k_ => some k_ ≠ (.slice (some ad111) x6_1.length co81 : Value).ownBlock ∧ some k_ ≠ (.slice Ao104 y193.length co104 : Value).ownBlock) (fun _ => False) rfl rfl ?aO ?aR (fun _ _ h => h) (fun _ h => h.elim) ?aF ?aB ?aS ?aL ?_
        (case aR => repeat (first | exact (Kd.R_reads' HO195.out).2.2 | (with_reducible refine Kd.C_alloc ?_ _) | (with_reducible refine Kd.C_drewN ?_ _) | (with_reducible refine Kd.C_drew ?_)))
        (case aB => exact (by exact eS HB.out))
        (case aF => exact (fun k_ hk => ⟨Kd.fresh' (Kd.R_lt (by exact RS <| HO_6.out)) k_ hk, Kd.fresh' (Kd.R_lt (by exact RS <| HO195.out)) k_ hk⟩))
        (case aO => exact (by exact RS <| Kd.R_mono HO192.out (fun _ hk => ⟨hk.2, hk.1⟩)))
        (case aS => exact (below_size (by exact eS HB.out)))
        (case aL => have := LMc77.out; omega)
        intro v197 w103 ho hb hg hat
        rw [← Ny196.out] at ho
        have n0_ := Ak (Kd.R_over' (by exact RS <| HO_5.out) (Kd.R_typed (by exact RS <| HO192.out)) (by decide) hg)
        have n1_ := Ak (Kd.R_after (ok := (fun k_ => some k_ ≠ (.slice Ao104 y193.length co104 : Value).ownBlock)) (by exact RS <| Kd.R_mono HO_6.out (fun _ hk => ⟨hk.2, hk.1⟩)) hg hat)
        have n2_ := Ak (Kd.R_over' (by exact RS <| HO172.out) (Kd.R_typed (by exact RS <| HO192.out)) (by decide) hg)
        have n3_ := Ak (Kd.R_over' (by exact RS <| HO182.out) (Kd.R_typed (by exact RS <| HO192.out)) (by decide) hg)
        have n4_ := Ak (Kd.R_after (ok := (fun k_ => some k_ ≠ (.slice (some ad111) x6_1.length co81 : Value).ownBlock)) (by exact RS <| Kd.R_mono HO195.out (fun _ hk => ⟨hk.2, hk.1⟩)) hg hat)
        have n5_ := Ak (hb)
        have n6_ := Ak ((Ct Kd.string Ny163.out (Kd.R_over' (by exact RS <| HO_5.out) (Kd.R_typed (by exact RS <| HO192.out)) (by decide) hg) KL83.out))
        have n7_ := Ak ((Cd Kd.string Ny176.out KA84.out (Kd.R_over' (by exact RS <| HO_5.out) (Kd.R_typed (by exact RS <| HO192.out)) (by decide) hg) KL84.out))
        have n8_ := Ak ((Ct (Kd.int .i64) Ny186.out (Kd.R_after (ok := (fun k_ => some k_ ≠ (.slice Ao104 y193.length co104 : Value).ownBlock)) (by exact RS <| Kd.R_mono HO_6.out (fun _ hk => ⟨hk.2, hk.1⟩)) hg hat) KL95.out))
        have n9_ := Ak ((Cd (Kd.int .i64) Ny199.out KA96.out (Kd.R_after (ok := (fun k_ => some k_ ≠ (.slice Ao104 y193.length co104 : Value).ownBlock)) (by exact RS <| Kd.R_mono HO_6.out (fun _ hk => ⟨hk.2, hk.1⟩)) hg hat) KL96.out))
        have n10_ := Ak (ho)
        clear HO_5 HO_6 HO172 HO182 HO195 HB HR166 HR179 HR189 HR202 HO192; have HO_5 := n0_; have HO_6 := n1_; have HO172 := n2_; have HO182 := n3_; have HO195 := n4_; have HB := n5_; have HR166 := n6_; have HR179 := n7_; have HR189 := n8_; have HR202 := n9_; have HO198 := n10_; clear n0_ n1_ n2_ n3_ n4_ n5_ n6_ n7_ n8_ n9_ n10_ ho hb hg hat
        refine hK.out _ _ trivial (fun hHeld => ?_); clear hK K
        refine norm_ (a' := ?_) ?_ ?_; rotate_left; (show Act.put _ (some 102) _ = _; simp only [Z]; rfl)
        refine one_ (i := 11) (N := some 106) #[I,I,I,I,I,I,I,I,I,I,I,I,O] rfl rfl (one_of HT_.out (by kernel_rfl)) (by decide) (fun K hK => ?_)
        refine Kd.R_append_rows_step (Kd.int .i64) (w0 := w) w.heap.size (by rfl) (.tmp 102) (.tmp 105) 25 3 (.int .i64 0) 8 rfl Tryd.underlying25 info3 rfl (by decide) (by omega) v197 y196 y199 _ _ _ (fun k_ => some k_ ≠ (.slice (some ad111) x6_1.length co81 : Value).ownBlock ∧ some k_ ≠ (.slice Ao104 y193.length co104 : Value).ownBlock) (fun _ => False) rfl rfl ?aO ?aR (fun _ _ h => h) (fun _ h => h.elim) ?aF ?aB ?aS ?aL ?_
        (case aR => exact Cs HR202.out)
        (case aB => exact (by exact eS HB.out))
        (case aF => exact (fun k_ hk => ⟨Kd.fresh' (Kd.R_lt (by exact RS <| HO_6.out)) k_ hk, Kd.fresh' (Kd.R_lt (by exact RS <| HO195.out)) k_ hk⟩))
        (case aO => exact (by exact RS <| HO198.out))
        (case aS => exact (below_size (by exact eS HB.out)))
        (case aL => have := LMc80.out; omega)
        intro v204 w105 ho hb hg hat
        rw [← Ny203.out] at ho
        have n0_ := Ak (Kd.R_over' (by exact RS <| HO_5.out) (Kd.R_typed (by exact RS <| HO198.out)) (by decide) hg)
        have n1_ := Ak (Kd.R_after (ok := (fun k_ => some k_ ≠ (.slice Ao104 y193.length co104 : Value).ownBlock)) (by exact RS <| HO_6.out) hg hat)
        have n2_ := Ak (Kd.R_over' (by exact RS <| HO172.out) (Kd.R_typed (by exact RS <| HO198.out)) (by decide) hg)
        have n3_ := Ak (Kd.R_over' (by exact RS <| HO182.out) (Kd.R_typed (by exact RS <| HO198.out)) (by decide) hg)
        have n4_ := Ak (Kd.R_after (ok := (fun k_ => some k_ ≠ (.slice (some ad111) x6_1.length co81 : Value).ownBlock)) (by exact RS <| HO195.out) hg hat)
        have n5_ := Ak (hb)
        have n6_ := Ak ((Ct Kd.string Ny163.out (Kd.R_over' (by exact RS <| HO_5.out) (Kd.R_typed (by exact RS <| HO198.out)) (by decide) hg) KL83.out))
        have n7_ := Ak ((Cd Kd.string Ny176.out KA84.out (Kd.R_over' (by exact RS <| HO_5.out) (Kd.R_typed (by exact RS <| HO198.out)) (by decide) hg) KL84.out))
        have n8_ := Ak ((Ct (Kd.int .i64) Ny186.out (Kd.R_after (ok := (fun k_ => some k_ ≠ (.slice Ao104 y193.length co104 : Value).ownBlock)) (by exact RS <| HO_6.out) hg hat) KL95.out))
        have n9_ := Ak ((Cd (Kd.int .i64) Ny199.out KA96.out (Kd.R_after (ok := (fun k_ => some k_ ≠ (.slice Ao104 y193.length co104 : Value).ownBlock)) (by exact RS <| HO_6.out) hg hat) KL96.out))
        have n10_ := Ak (ho)
        clear HO_5 HO_6 HO172 HO182 HO195 HB HR166 HR179 HR189 HR202 HO198; have HO_5 := n0_; have HO_6 := n1_; have HO172 := n2_; have HO182 := n3_; have HO195 := n4_; have HB := n5_; have HR166 := n6_; have HR179 := n7_; have HR189 := n8_; have HR202 := n9_; have HO205 := n10_; clear n0_ n1_ n2_ n3_ n4_ n5_ n6_ n7_ n8_ n9_ n10_ ho hb hg hat
        refine hK.out _ _ trivial (fun hHeld => ?_); clear hK K
        refine norm_ (a' := ?_) ?_ ?_; rotate_left; (show Act.put _ (some 106) _ = _; simp only [Z]; rfl)
        refine pure_ (i := 12) (N := some 6) (v := ?_) (a' := ?_) #[I,I,I,I,I,I,I,I,I,I,I,I,I] rfl rfl (any_of HT_.out (by kernel_rfl)) (fun _ _ _ h => h) (Or.inl ⟨by rfl, ?_⟩) ?_ ?_
        rotate_left; (intro w'; go_simp; with_reducible rfl); rotate_left; (simp only [Z]; rfl)
        refine done_ (done_of HT_.out (by kernel_rfl)) ?_
        try go_wp2
        go_roundg k3
        case measure => have := HK1.out; have := HK2.out; have := HK3.out; omega
        case rel => exact ⟨(y180), (y203), (wrap64 (x7_1 + 1)), (by first | rfl | (simp; done) | (simp [*]; done)), H', ⟨by have := HK1.out; have := HK2.out; have := HK3.out; omega⟩, ⟨by exact RS <| Kd.R_mono HO182.out (fun _ hk => trivial)⟩, ⟨by exact RS <| Kd.R_mono HO205.out (fun _ hk => trivial)⟩, ⟨by exact eS HB.out⟩⟩
       rw [if_pos c24] at H
       have c24b0 : ((rd x6_1 (ji19)) == t110) = true := beq_iff_eq.mpr c24
       have c24b1 : ((rd x6_1 (ji19)) != t110) = false := bne_eq_false_iff_eq.mpr c24
       clear c24
       by_cases c25 : (ji19) < (x5_1.length : Int)
       rotate_left
       ·rw [if_neg c25] at H
        exact absurd H (by simp)
       rw [if_pos c25] at H
       have c25b0 : decide ((ji19) < (x5_1.length : Int)) = true := decide_eq_true c25
       clear c25
       by_cases c26 : (Op.bytesLess ((rd_T41 l0 x7_1).f1).toList ((rdOf ByteArray.empty x5_1 (ji19)).toList)) = true
       ·rw [if_pos c26] at H
        have c26b0 : (Op.bytesLess ((rd_T41 l0 x7_1).f1).toList ((rdOf ByteArray.empty x5_1 (ji19)).toList)) = true := c26
        clear c26
        have H' := Ak H
        clear H
        obtain ⟨Ao27, co27, eo27⟩ := Kd.R_slice HO_6.out
        subst eo27
        have p111 : 0 ≤ ((ji19) : Int) := Dz
        have q111 : (ji19) < (x6_1.length : Int) := Dz
        obtain ⟨ad111, e111, hx111_0⟩ := Kd.at_int (Kd.R_reads' HO_6.out).2.2 (ji19) p111 q111
        cases e111
        replace p111 := eq_true p111; replace q111 := eq_true q111
        have p112 : 0 ≤ ((ji19) : Int) := Dz
        have q112 : (ji19) < (x6_1.length : Int) := Dz
        obtain ⟨ad112, e112, hx112_0⟩ := Kd.at_int (Kd.R_reads' HO_6.out).2.2 (ji19) p112 q112
        obtain rfl : ad111 = ad112 := (by injection e112)
        replace p112 := eq_true p112; replace q112 := eq_true q112
        have p113 : 0 ≤ ((ji19) : Int) := Dz
        have q113 : (ji19) < (x5_1.length : Int) := Dz
        obtain ⟨ad113, e113, hx113_0⟩ := Kd.at_string (Kd.R_reads' HO_5.out).2.2 (ji19) p113 q113
        cases e113
        replace p113 := eq_true p113; replace q113 := eq_true q113
        go_wp2
        go_roundg k3
        case measure => have := HK1.out; have := HK2.out; have := HK3.out; omega
        case rel => exact ⟨(ji19), (by first | rfl | (simp; done) | (simp only [← hji19] <;> (first | rfl | simp)) | (simp [*]; done)), H', ⟨by have := HK1.out; have := HK2.out; have := HK3.out; omega⟩, ⟨by exact RS <| HO_5.out⟩, ⟨by exact RS <| HO_6.out⟩, ⟨by exact eS HB.out⟩⟩
       rw [if_neg c26] at H
       have c26b0 : (Op.bytesLess ((rd_T41 l0 x7_1).f1).toList ((rdOf ByteArray.empty x5_1 (ji19)).toList)) = false := by simpa using c26
       clear c26
       obtain ⟨y114, hy114⟩ : ∃ y_ : List ByteArray, y_ = (([] : List ByteArray)) := ⟨_, rfl⟩
       replace H : (if 0 ≤ x11_3 then (if x11_3 ≤ (x5_1.length : Int) then ((some (x5_1.take (x11_3 : Int).toNat : List ByteArray)).bind fun y117 => (if y114.length + y117.length < 8796093022208 then ((some (y114 ++ y117 : List ByteArray)).bind fun y121 => ((some (([((rd_T41 l0 x7_1).f1)] : List ByteArray) : List ByteArray)).bind fun y124 => (if y121.length + y124.length < 8796093022208 then ((some (y121 ++ y124 : List ByteArray)).bind fun y127 => ((some (x5_1.drop (x11_3 : Int).toNat : List ByteArray)).bind fun y130 => (if y127.length + y130.length < 8796093022208 then ((some (([] : List Int) : List Int)).bind fun y137 => (if x11_3 ≤ (x6_1.length : Int) then ((some (x6_1.take (x11_3 : Int).toNat : List Int)).bind fun y140 => (if y137.length + y140.length < 17592186044416 then ((some (y137 ++ y140 : List Int)).bind fun y144 => ((some (([t110] : List Int) : List Int)).bind fun y147 => (if y144.length + y147.length < 17592186044416 then ((some (y144 ++ y147 : List Int)).bind fun y150 => ((some (x6_1.drop (x11_3 : Int).toNat : List Int)).bind fun y153 => (if y150.length + y153.length < 17592186044416 then (Fa.l0 k3 l0 (y127 ++ y130) (y150 ++ y153) (wrap64 (x7_1 + 1))) else (none)))) else (none)))) else (none))) else (none))) else (none)))) else (none)))) else (none))) else (none)) else (none)) = some (r1, r2, r3) := by first | (rw [hy114]; with_reducible exact H) | (have H2_ := (Option.bind_some _ _).symm.trans H; rw [hy114]; with_reducible exact H2_) | (have H2_ := (Option.bind_some _ _).symm.trans H; with_reducible exact H2_) | with_reducible exact H | (rw [hy114]; exact H) | exact H
       have Ny114 := Ak hy114
       clear hy114
       by_cases c28 : 0 ≤ x11_3
       rotate_left
       ·rw [if_neg c28] at H
        exact absurd H (by simp)
       rw [if_pos c28] at H
       have c28b0 := eq_true c28
       have c28b1 : decide (0 ≤ x11_3) = true := decide_eq_true c28
       clear c28
       by_cases c29 : x11_3 ≤ (x5_1.length : Int)
       rotate_left
       ·rw [if_neg c29] at H
        exact absurd H (by simp)
       rw [if_pos c29] at H
       have c29b0 := eq_true c29
       have c29b1 : decide (x11_3 ≤ (x5_1.length : Int)) = true := decide_eq_true c29
       clear c29
       obtain ⟨y117, hy117⟩ : ∃ y_ : List ByteArray, y_ = (x5_1.take (x11_3 : Int).toNat) := ⟨_, rfl⟩
       replace H : (if y114.length + y117.length < 8796093022208 then ((some (y114 ++ y117 : List ByteArray)).bind fun y121 => ((some (([((rd_T41 l0 x7_1).f1)] : List ByteArray) : List ByteArray)).bind fun y124 => (if y121.length + y124.length < 8796093022208 then ((some (y121 ++ y124 : List ByteArray)).bind fun y127 => ((some (x5_1.drop (x11_3 : Int).toNat : List ByteArray)).bind fun y130 => (if y127.length + y130.length < 8796093022208 then ((some (([] : List Int) : List Int)).bind fun y137 => (if x11_3 ≤ (x6_1.length : Int) then ((some (x6_1.take (x11_3 : Int).toNat : List Int)).bind fun y140 => (if y137.length + y140.length < 17592186044416 then ((some (y137 ++ y140 : List Int)).bind fun y144 => ((some (([t110] : List Int) : List Int)).bind fun y147 => (if y144.length + y147.length < 17592186044416 then ((some (y144 ++ y147 : List Int)).bind fun y150 => ((some (x6_1.drop (x11_3 : Int).toNat : List Int)).bind fun y153 => (if y150.length + y153.length < 17592186044416 then (Fa.l0 k3 l0 (y127 ++ y130) (y150 ++ y153) (wrap64 (x7_1 + 1))) else (none)))) else (none)))) else (none))) else (none))) else (none)))) else (none)))) else (none)) = some (r1, r2, r3) := by first | (rw [hy117]; with_reducible exact H) | (have H2_ := (Option.bind_some _ _).symm.trans H; rw [hy117]; with_reducible exact H2_) | (have H2_ := (Option.bind_some _ _).symm.trans H; with_reducible exact H2_) | with_reducible exact H | (rw [hy117]; exact H) | exact H
       have Ny117 := Ak hy117
       clear hy117
       by_cases c30 : y114.length + y117.length < 8796093022208
       rotate_left
       ·rw [if_neg c30] at H
        exact absurd H (by simp)
       rw [if_pos c30] at H
       have LMc30 := Ak c30
       clear c30
       obtain ⟨y121, hy121⟩ : ∃ y_ : List ByteArray, y_ = (y114 ++ y117) := ⟨_, rfl⟩
       replace H : ((some (([((rd_T41 l0 x7_1).f1)] : List ByteArray) : List ByteArray)).bind fun y124 => (if y121.length + y124.length < 8796093022208 then ((some (y121 ++ y124 : List ByteArray)).bind fun y127 => ((some (x5_1.drop (x11_3 : Int).toNat : List ByteArray)).bind fun y130 => (if y127.length + y130.length < 8796093022208 then ((some (([] : List Int) : List Int)).bind fun y137 => (if x11_3 ≤ (x6_1.length : Int) then ((some (x6_1.take (x11_3 : Int).toNat : List Int)).bind fun y140 => (if y137.length + y140.length < 17592186044416 then ((some (y137 ++ y140 : List Int)).bind fun y144 => ((some (([t110] : List Int) : List Int)).bind fun y147 => (if y144.length + y147.length < 17592186044416 then ((some (y144 ++ y147 : List Int)).bind fun y150 => ((some (x6_1.drop (x11_3 : Int).toNat : List Int)).bind fun y153 => (if y150.length + y153.length < 17592186044416 then (Fa.l0 k3 l0 (y127 ++ y130) (y150 ++ y153) (wrap64 (x7_1 + 1))) else (none)))) else (none)))) else (none))) else (none))) else (none)))) else (none))) = some (r1, r2, r3) := by first | (rw [hy121]; with_reducible exact H) | (have H2_ := (Option.bind_some _ _).symm.trans H; rw [hy121]; with_reducible exact H2_) | (have H2_ := (Option.bind_some _ _).symm.trans H; with_reducible exact H2_) | with_reducible exact H | (rw [hy121]; exact H) | exact H
       have Ny121 := Ak hy121
       clear hy121
       obtain ⟨y124, hy124⟩ : ∃ y_ : List ByteArray, y_ = (([((rd_T41 l0 x7_1).f1)] : List ByteArray)) := ⟨_, rfl⟩
       replace H : (if y121.length + y124.length < 8796093022208 then ((some (y121 ++ y124 : List ByteArray)).bind fun y127 => ((some (x5_1.drop (x11_3 : Int).toNat : List ByteArray)).bind fun y130 => (if y127.length + y130.length < 8796093022208 then ((some (([] : List Int) : List Int)).bind fun y137 => (if x11_3 ≤ (x6_1.length : Int) then ((some (x6_1.take (x11_3 : Int).toNat : List Int)).bind fun y140 => (if y137.length + y140.length < 17592186044416 then ((some (y137 ++ y140 : List Int)).bind fun y144 => ((some (([t110] : List Int) : List Int)).bind fun y147 => (if y144.length + y147.length < 17592186044416 then ((some (y144 ++ y147 : List Int)).bind fun y150 => ((some (x6_1.drop (x11_3 : Int).toNat : List Int)).bind fun y153 => (if y150.length + y153.length < 17592186044416 then (Fa.l0 k3 l0 (y127 ++ y130) (y150 ++ y153) (wrap64 (x7_1 + 1))) else (none)))) else (none)))) else (none))) else (none))) else (none)))) else (none)) = some (r1, r2, r3) := by first | (rw [hy124]; with_reducible exact H) | (have H2_ := (Option.bind_some _ _).symm.trans H; rw [hy124]; with_reducible exact H2_) | (have H2_ := (Option.bind_some _ _).symm.trans H; with_reducible exact H2_) | with_reducible exact H | (rw [hy124]; exact H) | exact H
       have Ny124 := Ak hy124
       clear hy124
       by_cases c31 : y121.length + y124.length < 8796093022208
       rotate_left
       ·rw [if_neg c31] at H
        exact absurd H (by simp)
       rw [if_pos c31] at H
       have LMc31 := Ak c31
       clear c31
       obtain ⟨y127, hy127⟩ : ∃ y_ : List ByteArray, y_ = (y121 ++ y124) := ⟨_, rfl⟩
       replace H : ((some (x5_1.drop (x11_3 : Int).toNat : List ByteArray)).bind fun y130 => (if y127.length + y130.length < 8796093022208 then ((some (([] : List Int) : List Int)).bind fun y137 => (if x11_3 ≤ (x6_1.length : Int) then ((some (x6_1.take (x11_3 : Int).toNat : List Int)).bind fun y140 => (if y137.length + y140.length < 17592186044416 then ((some (y137 ++ y140 : List Int)).bind fun y144 => ((some (([t110] : List Int) : List Int)).bind fun y147 => (if y144.length + y147.length < 17592186044416 then ((some (y144 ++ y147 : List Int)).bind fun y150 => ((some (x6_1.drop (x11_3 : Int).toNat : List Int)).bind fun y153 => (if y150.length + y153.length < 17592186044416 then (Fa.l0 k3 l0 (y127 ++ y130) (y150 ++ y153) (wrap64 (x7_1 + 1))) else (none)))) else (none)))) else (none))) else (none))) else (none))) = some (r1, r2, r3) := by first | (rw [hy127]; with_reducible exact H) | (have H2_ := (Option.bind_some _ _).symm.trans H; rw [hy127]; with_reducible exact H2_) | (have H2_ := (Option.bind_some _ _).symm.trans H; with_reducible exact H2_) | with_reducible exact H | (rw [hy127]; exact H) | exact H
       have Ny127 := Ak hy127
       clear hy127
       have c32b0 := eq_true (Dz : 0 ≤ x11_3)
       have c33b0 := eq_true (Dz : x11_3 ≤ (x5_1.length : Int))
       obtain ⟨y130, hy130⟩ : ∃ y_ : List ByteArray, y_ = (x5_1.drop (x11_3 : Int).toNat) := ⟨_, rfl⟩
       replace H : (if y127.length + y130.length < 8796093022208 then ((some (([] : List Int) : List Int)).bind fun y137 => (if x11_3 ≤ (x6_1.length : Int) then ((some (x6_1.take (x11_3 : Int).toNat : List Int)).bind fun y140 => (if y137.length + y140.length < 17592186044416 then ((some (y137 ++ y140 : List Int)).bind fun y144 => ((some (([t110] : List Int) : List Int)).bind fun y147 => (if y144.length + y147.length < 17592186044416 then ((some (y144 ++ y147 : List Int)).bind fun y150 => ((some (x6_1.drop (x11_3 : Int).toNat : List Int)).bind fun y153 => (if y150.length + y153.length < 17592186044416 then (Fa.l0 k3 l0 (y127 ++ y130) (y150 ++ y153) (wrap64 (x7_1 + 1))) else (none)))) else (none)))) else (none))) else (none))) else (none)) = some (r1, r2, r3) := by first | (rw [hy130]; with_reducible exact H) | (have H2_ := (Option.bind_some _ _).symm.trans H; rw [hy130]; with_reducible exact H2_) | (have H2_ := (Option.bind_some _ _).symm.trans H; with_reducible exact H2_) | with_reducible exact H | (rw [hy130]; exact H) | exact H
       have Ny130 := Ak hy130
       clear hy130
       by_cases c34 : y127.length + y130.length < 8796093022208
       rotate_left
       ·rw [if_neg c34] at H
        exact absurd H (by simp)
       rw [if_pos c34] at H
       have LMc34 := Ak c34
       clear c34
       obtain ⟨y134, hy134⟩ : ∃ y_ : List ByteArray, y_ = (y127 ++ y130) := ⟨_, rfl⟩
       replace H : ((some (([] : List Int) : List Int)).bind fun y137 => (if x11_3 ≤ (x6_1.length : Int) then ((some (x6_1.take (x11_3 : Int).toNat : List Int)).bind fun y140 => (if y137.length + y140.length < 17592186044416 then ((some (y137 ++ y140 : List Int)).bind fun y144 => ((some (([t110] : List Int) : List Int)).bind fun y147 => (if y144.length + y147.length < 17592186044416 then ((some (y144 ++ y147 : List Int)).bind fun y150 => ((some (x6_1.drop (x11_3 : Int).toNat : List Int)).bind fun y153 => (if y150.length + y153.length < 17592186044416 then (Fa.l0 k3 l0 y134 (y150 ++ y153) (wrap64 (x7_1 + 1))) else (none)))) else (none)))) else (none))) else (none))) = some (r1, r2, r3) := by first | (rw [hy134]; with_reducible exact H) | (have H2_ := (Option.bind_some _ _).symm.trans H; rw [hy134]; with_reducible exact H2_) | (have H2_ := (Option.bind_some _ _).symm.trans H; with_reducible exact H2_) | with_reducible exact H | (rw [hy134]; exact H) | exact H
       have Ny134 := Ak hy134
       clear hy134
       obtain ⟨y137, hy137⟩ : ∃ y_ : List Int, y_ = (([] : List Int)) := ⟨_, rfl⟩
       replace H : (if x11_3 ≤ (x6_1.length : Int) then ((some (x6_1.take (x11_3 : Int).toNat : List Int)).bind fun y140 => (if y137.length + y140.length < 17592186044416 then ((some (y137 ++ y140 : List Int)).bind fun y144 => ((some (([t110] : List Int) : List Int)).bind fun y147 => (if y144.length + y147.length < 17592186044416 then ((some (y144 ++ y147 : List Int)).bind fun y150 => ((some (x6_1.drop (x11_3 : Int).toNat : List Int)).bind fun y153 => (if y150.length + y153.length < 17592186044416 then (Fa.l0 k3 l0 y134 (y150 ++ y153) (wrap64 (x7_1 + 1))) else (none)))) else (none)))) else (none))) else (none)) = some (r1, r2, r3) := by first | (rw [hy137]; with_reducible exact H) | (have H2_ := (Option.bind_some _ _).symm.trans H; rw [hy137]; with_reducible exact H2_) | (have H2_ := (Option.bind_some _ _).symm.trans H; with_reducible exact H2_) | with_reducible exact H | (rw [hy137]; exact H) | exact H
       have Ny137 := Ak hy137
       clear hy137
       have c35b0 := eq_true (Dz : 0 ≤ x11_3)
       by_cases c36 : x11_3 ≤ (x6_1.length : Int)
       rotate_left
       ·rw [if_neg c36] at H
        exact absurd H (by simp)
       rw [if_pos c36] at H
       have c36b0 := eq_true c36
       have c36b1 : decide (x11_3 ≤ (x6_1.length : Int)) = true := decide_eq_true c36
       clear c36
       obtain ⟨y140, hy140⟩ : ∃ y_ : List Int, y_ = (x6_1.take (x11_3 : Int).toNat) := ⟨_, rfl⟩
       replace H : (if y137.length + y140.length < 17592186044416 then ((some (y137 ++ y140 : List Int)).bind fun y144 => ((some (([t110] : List Int) : List Int)).bind fun y147 => (if y144.length + y147.length < 17592186044416 then ((some (y144 ++ y147 : List Int)).bind fun y150 => ((some (x6_1.drop (x11_3 : Int).toNat : List Int)).bind fun y153 => (if y150.length + y153.length < 17592186044416 then (Fa.l0 k3 l0 y134 (y150 ++ y153) (wrap64 (x7_1 + 1))) else (none)))) else (none)))) else (none)) = some (r1, r2, r3) := by first | (rw [hy140]; with_reducible exact H) | (have H2_ := (Option.bind_some _ _).symm.trans H; rw [hy140]; with_reducible exact H2_) | (have H2_ := (Option.bind_some _ _).symm.trans H; with_reducible exact H2_) | with_reducible exact H | (rw [hy140]; exact H) | exact H
       have Ny140 := Ak hy140
       clear hy140
       by_cases c37 : y137.length + y140.length < 17592186044416
       rotate_left
       ·rw [if_neg c37] at H
        exact absurd H (by simp)
       rw [if_pos c37] at H
       have LMc37 := Ak c37
       clear c37
       obtain ⟨y144, hy144⟩ : ∃ y_ : List Int, y_ = (y137 ++ y140) := ⟨_, rfl⟩
       replace H : ((some (([t110] : List Int) : List Int)).bind fun y147 => (if y144.length + y147.length < 17592186044416 then ((some (y144 ++ y147 : List Int)).bind fun y150 => ((some (x6_1.drop (x11_3 : Int).toNat : List Int)).bind fun y153 => (if y150.length + y153.length < 17592186044416 then (Fa.l0 k3 l0 y134 (y150 ++ y153) (wrap64 (x7_1 + 1))) else (none)))) else (none))) = some (r1, r2, r3) := by first | (rw [hy144]; with_reducible exact H) | (have H2_ := (Option.bind_some _ _).symm.trans H; rw [hy144]; with_reducible exact H2_) | (have H2_ := (Option.bind_some _ _).symm.trans H; with_reducible exact H2_) | with_reducible exact H | (rw [hy144]; exact H) | exact H
       have Ny144 := Ak hy144
       clear hy144
       obtain ⟨y147, hy147⟩ : ∃ y_ : List Int, y_ = (([t110] : List Int)) := ⟨_, rfl⟩
       replace H : (if y144.length + y147.length < 17592186044416 then ((some (y144 ++ y147 : List Int)).bind fun y150 => ((some (x6_1.drop (x11_3 : Int).toNat : List Int)).bind fun y153 => (if y150.length + y153.length < 17592186044416 then (Fa.l0 k3 l0 y134 (y150 ++ y153) (wrap64 (x7_1 + 1))) else (none)))) else (none)) = some (r1, r2, r3) := by first | (rw [hy147]; with_reducible exact H) | (have H2_ := (Option.bind_some _ _).symm.trans H; rw [hy147]; with_reducible exact H2_) | (have H2_ := (Option.bind_some _ _).symm.trans H; with_reducible exact H2_) | with_reducible exact H | (rw [hy147]; exact H) | exact H
       have Ny147 := Ak hy147
       clear hy147
       by_cases c38 : y144.length + y147.length < 17592186044416
       rotate_left
       ·rw [if_neg c38] at H
        exact absurd H (by simp)
       rw [if_pos c38] at H
       have LMc38 := Ak c38
       clear c38
       obtain ⟨y150, hy150⟩ : ∃ y_ : List Int, y_ = (y144 ++ y147) := ⟨_, rfl⟩
       replace H : ((some (x6_1.drop (x11_3 : Int).toNat : List Int)).bind fun y153 => (if y150.length + y153.length < 17592186044416 then (Fa.l0 k3 l0 y134 (y150 ++ y153) (wrap64 (x7_1 + 1))) else (none))) = some (r1, r2, r3) := by first | (rw [hy150]; with_reducible exact H) | (have H2_ := (Option.bind_some _ _).symm.trans H; rw [hy150]; with_reducible exact H2_) | (have H2_ := (Option.bind_some _ _).symm.trans H; with_reducible exact H2_) | with_reducible exact H | (rw [hy150]; exact H) | exact H
       have Ny150 := Ak hy150
       clear hy150
       have c39b0 := eq_true (Dz : 0 ≤ x11_3)
       have c40b0 := eq_true (Dz : x11_3 ≤ (x6_1.length : Int))
       obtain ⟨y153, hy153⟩ : ∃ y_ : List Int, y_ = (x6_1.drop (x11_3 : Int).toNat) := ⟨_, rfl⟩
       replace H : (if y150.length + y153.length < 17592186044416 then (Fa.l0 k3 l0 y134 (y150 ++ y153) (wrap64 (x7_1 + 1))) else (none)) = some (r1, r2, r3) := by first | (rw [hy153]; with_reducible exact H) | (have H2_ := (Option.bind_some _ _).symm.trans H; rw [hy153]; with_reducible exact H2_) | (have H2_ := (Option.bind_some _ _).symm.trans H; with_reducible exact H2_) | with_reducible exact H | (rw [hy153]; exact H) | exact H
       have Ny153 := Ak hy153
       clear hy153
       by_cases c41 : y150.length + y153.length < 17592186044416
       rotate_left
       ·rw [if_neg c41] at H
        exact absurd H (by simp)
       rw [if_pos c41] at H
       have LMc41 := Ak c41
       clear c41
       obtain ⟨y157, hy157⟩ : ∃ y_ : List Int, y_ = (y150 ++ y153) := ⟨_, rfl⟩
       replace H : (Fa.l0 k3 l0 y134 y157 (wrap64 (x7_1 + 1))) = some (r1, r2, r3) := by first | (rw [hy157]; with_reducible exact H) | (have H2_ := (Option.bind_some _ _).symm.trans H; rw [hy157]; with_reducible exact H2_) | (have H2_ := (Option.bind_some _ _).symm.trans H; with_reducible exact H2_) | with_reducible exact H | (rw [hy157]; exact H) | exact H
       have Ny157 := Ak hy157
       clear hy157
       have H' := Ak H
       clear H
       obtain ⟨Ao42, co42, eo42⟩ := Kd.R_slice HO_6.out
       subst eo42
       have p111 : 0 ≤ ((ji19) : Int) := Dz
       have q111 : (ji19) < (x6_1.length : Int) := Dz
       obtain ⟨ad111, e111, hx111_0⟩ := Kd.at_int (Kd.R_reads' HO_6.out).2.2 (ji19) p111 q111
       cases e111
       replace p111 := eq_true p111; replace q111 := eq_true q111
       have p112 : 0 ≤ ((ji19) : Int) := Dz
       have q112 : (ji19) < (x6_1.length : Int) := Dz
       obtain ⟨ad112, e112, hx112_0⟩ := Kd.at_int (Kd.R_reads' HO_6.out).2.2 (ji19) p112 q112
       obtain rfl : ad111 = ad112 := (by injection e112)
       replace p112 := eq_true p112; replace q112 := eq_true q112
       have p113 : 0 ≤ ((ji19) : Int) := Dz
       have q113 : (ji19) < (x5_1.length : Int) := Dz
       obtain ⟨ad113, e113, hx113_0⟩ := Kd.at_string (Kd.R_reads' HO_5.out).2.2 (ji19) p113 q113
       cases e113
       replace p113 := eq_true p113; replace q113 := eq_true q113
       try go_wp2
       have n0_ := Ak (Kd.R_drew HO_5.out)
       have n1_ := Ak (Kd.R_drew HO_6.out)
       have n2_ := Ak (below_drew1 HB.out)
       clear HO_5 HO_6 HB; have HO_5 := n0_; have HO_6 := n1_; have HB := n2_; clear n0_ n1_ n2_
       have q44 : (x11_3 : Int) ≤ ((x5_1.length : Int) : Int) := Dz
       obtain ⟨i044, hi044, _, hsz44, _⟩ := info_parts info9
       have hroom44 : x5_1.length ≤ co17 := (Kd.R_reads' HO_5.out).2.1
       have hC44 : Kd.C Kd.string _ (some ad113) x5_1.length x5_1 := (Kd.R_reads' HO_5.out).2.2
       have hcut44 := cut_to (P := Tryd.prog) 24 9 .i64 Tryd.underlying24 hi044 (some ad113) x5_1.length co17 x11_3 Dz q44 hroom44
       have hr44 := Kd.C_take (m := (x11_3 : Int).toNat) hC44 (by omega)
       have hy44 : y117.length = (x11_3 : Int).toNat := (by rw [Ny117.out, List.length_take]; omega)
       rw [← Ny117.out] at hr44
       rw [← hy44] at hcut44
       have HR120 := Ak hr44
       have HC120 := Ak (show y117.length ≤ co17 from by omega)
       clear hr44 hC44 hroom44 hi044 hsz44
       have KY44 := Ak hy44
       clear hy44
       have KL44 := Ak (show (x11_3 : Int).toNat ≤ x5_1.length from by omega)
       replace q44 := eq_true q44
       have q45 : (x11_3 : Int) ≤ ((x5_1.length : Int) : Int) := Dz
       obtain ⟨i045, hi045, _, hsz45, _⟩ := info_parts info9
       have hroom45 : x5_1.length ≤ co17 := (Kd.R_reads' HO_5.out).2.1
       have hC45 : Kd.C Kd.string _ (some ad113) x5_1.length x5_1 := (Kd.R_reads' HO_5.out).2.2
       have q045 : (0 : Int) ≤ (x11_3 : Int) := Dz
       have hcut45 := cut_from (P := Tryd.prog) 24 9 .i64 Tryd.underlying24 hi045 1 hsz45 (some ad113) x5_1.length co17 x11_3 q045 q45
       have hr45 := Kd.C_drop (m := (x11_3 : Int).toNat) (c := co17) hC45 (by omega) hroom45
       obtain ⟨A45, hA45⟩ : ∃ A1, A1 = (if co17 = (x11_3 : Int).toNat then (some ad113) else ((some ad113) : Option Addr).map (·.add ((x11_3 : Int).toNat * 1))) := ⟨_, rfl⟩
       obtain ⟨c45, hc45⟩ : ∃ c1, c1 = co17 - (x11_3 : Int).toNat := ⟨_, rfl⟩
       have hy45 : y130.length = x5_1.length - (x11_3 : Int).toNat := (by rw [Ny130.out, List.length_drop] <;> omega)
       rw [show (x5_1).drop (x11_3 : Int).toNat = y130 from Ny130.out.symm] at hr45
       replace hr45 : Kd.C Kd.string _ A45 y130.length y130 := (by rw [hA45]; exact hr45)
       rw [← hy45, ← hA45, ← hc45] at hcut45
       have HR133 := Ak hr45
       have HC133 := Ak (show y130.length ≤ c45 from by rw [hy45, hc45]; exact Nat.sub_le_sub_right hroom45 _)
       clear hr45 hC45 hroom45 hi045 hsz45 hc45
       have KY45 := Ak hy45
       have KA45 := Ak hA45
       clear hy45 hA45
       have KL45 := Ak (show (x11_3 : Int).toNat ≤ x5_1.length from by omega)
       replace q45 := eq_true q45
       refine start_ (n := 13) (S := fun w' => True) (ds := []) #[O,O,O,O,O,O,O,O,O,O,O,O,O] (by kernel_rfl) rfl rfl trivial (fun hHeld => ?_); refine with_tabW Fa.tab16 Fa.bits16 (fun HT_ HW_ => ?_)
       generalize wr.drew = w43 at HO_5 HO_6 HB HR120 HR133 hHeld ⊢
       refine pure_ (i := 1) (N := some 84) (v := ?_) (a' := ?_) #[O,I,O,O,O,O,O,O,O,O,O,O,O] rfl rfl (any_of HT_.out (by kernel_rfl)) (fun _ _ _ h => h) (Or.inl ⟨by rfl, ?_⟩) ?_ ?_
       rotate_left; (intro w'; go_simp; with_reducible rfl); rotate_left; (simp only [Z]; rfl)
       refine pure_ (i := 2) (N := some 85) (v := ?_) (a' := ?_) #[O,I,I,O,O,O,O,O,O,O,O,O,O] rfl rfl (any_of HT_.out (by kernel_rfl)) (fun _ _ _ h => h) (Or.inl ⟨by rfl, ?_⟩) ?_ ?_
       rotate_left; (intro w'; go_simp; with_reducible rfl); rotate_left; (simp only [Z]; rfl)
       refine pure_ (i := 3) (N := some 86) (v := ?_) (a' := ?_) #[O,I,I,I,O,O,O,O,O,O,O,O,O] rfl rfl (any_of HT_.out (by kernel_rfl)) (fun _ _ _ h => h) (Or.inl ⟨by rfl, ?_⟩) ?_ ?_
       rotate_left; (intro w'; go_simp; with_reducible rfl); rotate_left; (simp only [Z]; rfl)
       refine pure_ (i := 5) (N := some 88) (v := ?_) (a' := ?_) #[O,I,I,I,O,I,O,O,O,O,O,O,O] rfl rfl (any_of HT_.out (by kernel_rfl)) (fun _ _ _ h => h) (Or.inl ⟨by rfl, ?_⟩) ?_ ?_
       rotate_left; (intro w'; go_simp; with_reducible rfl); rotate_left; (simp only [Z]; rfl)
       refine pure_ (i := 8) (N := some 91) (v := ?_) (a' := ?_) #[O,I,I,I,O,I,O,O,I,O,O,O,O] rfl rfl (any_of HT_.out (by kernel_rfl)) (fun _ _ _ h => h) (Or.inl ⟨by rfl, ?_⟩) ?_ ?_
       rotate_left; (intro w'; go_simp; with_reducible rfl); rotate_left; (simp only [Z]; rfl)
       refine pure_ (i := 9) (N := some 92) (v := ?_) (a' := ?_) #[O,I,I,I,O,I,O,O,I,I,O,O,O] rfl rfl (any_of HT_.out (by kernel_rfl)) (fun _ _ _ h => h) (Or.inl ⟨by rfl, ?_⟩) ?_ ?_
       rotate_left; (intro w'; go_simp; with_reducible rfl); rotate_left; (simp only [Z]; rfl)
       refine pure_ (i := 10) (N := some 93) (v := ?_) (a' := ?_) #[O,I,I,I,O,I,O,O,I,I,I,O,O] rfl rfl (any_of HT_.out (by kernel_rfl)) (fun _ _ _ h => h) (Or.inl ⟨by rfl, ?_⟩) ?_ ?_
       rotate_left; (intro w'; go_simp; with_reducible rfl); rotate_left; (simp only [Z]; rfl)
       refine join_ (σ := Value × Value × Value) 3 #[I,I,I,I,I,I,I,O,I,I,I,O,O] (fun s_ => [(83, s_.1), (87, s_.2.1), (89, s_.2.2)]) (fun s_ w' => (Kd.R Kd.string 9 w' w.heap.size (fun k_ => some k_ ≠ (s_.2.2 : Value).ownBlock ∧ some k_ ≠ (.slice (some ad113) x5_1.length co17 : Value).ownBlock) s_.2.1 y121) ∧ (Kd.R Kd.string 9 w' w.heap.size (fun k_ => some k_ ≠ (s_.2.1 : Value).ownBlock ∧ some k_ ≠ (.slice (some ad113) x5_1.length co17 : Value).ownBlock) s_.2.2 y124) ∧ (Kd.R Kd.string 9 w' w.heap.size (fun k_ => some k_ ≠ (s_.2.1 : Value).ownBlock ∧ some k_ ≠ (s_.2.2 : Value).ownBlock) (.slice (some ad113) x5_1.length co17) x5_1) ∧ (Kd.R (Kd.int .i64) 3 w' w.heap.size (fun _ => True) (.slice (some ad111) x6_1.length co42) x6_1) ∧ (Below w.heap.size w w')) ?_ ?_
       rotate_left
       ·intro hCont
        refine two_ (i := 0) (j := 6) (Ni := some 83) (Nj := some 89) #[I,I,I,I,O,I,O,O,I,I,I,O,O] #[O,I,I,I,O,I,I,O,I,I,I,O,O] rfl rfl rfl rfl (two_of HT_.out (by kernel_rfl)) (by decide) (by decide) (fun K hK => ?_) (fun K hK => ?_)
        ·skip
         refine Kd.R_lit_step Kd.string _ 9 ?hg (N := 83) ?hd (xs := ([] : List ByteArray)) (inner := []) (ok := fun _ => True) (okp := fun _ => True) ?hr ?hp (fun _ hk => hk) trivial (Below.refl _ _) (Nat.le_refl _) (by simp) ?_; (case hd => rfl); (case hg => rfl); (case hr => first | (go_simp; done) | (go_simp; rfl)); (case hp => exact (Reps.none _ _))
         intro v115 w46 ho47 hb hg_ hnew_
         clear hg_ hnew_
         (first | rw [← Ny114.out] at ho47 | (simp only [Int.reduceToNat] at ho47; rw [← Ny114.out] at ho47))
         have n0_ := Ak (Kd.R_elder' (by exact RS <| HO_5.out) (Kd.R_base ho47) hb)
         have n1_ := Ak (Kd.R_below (by exact RS <| HO_6.out) hb)
         have n2_ := Ak (Kd.R_lower (Kd.R_new' ho47 (Kd.R_lt (by exact RS <| HO_5.out))) (below_size (by exact eS HB.out)))
         have n3_ := Ak (Kd.C_below (by exact Cs HR120.out) hb)
         have n4_ := Ak (Kd.C_below (by exact Cs HR133.out) hb)
         have n5_ := Ak (below_step (by exact eS HB.out) hb)
         clear HO_5 HO_6 HR120 HR133 HB; have HO_5 := n0_; have HO_6 := n1_; have HO116 := n2_; have HR120 := n3_; have HR133 := n4_; have HB := n5_; clear n0_ n1_ n2_ n3_ n4_ n5_ hb ho47
         refine hK.out _ _ trivial (fun hHeld => ?_); clear hK K
         refine norm_ (a' := ?_) ?_ ?_; rotate_left; (show Act.put _ (some 83) _ = _; simp only [Z]; rfl)
         refine two_ (i := 4) (j := 6) (Ni := some 87) (Nj := some 89) #[I,I,I,I,I,I,O,O,I,I,I,O,O] #[I,I,I,I,O,I,I,O,I,I,I,O,O] rfl rfl rfl rfl (two_of HT_.out (by kernel_rfl)) (by decide) (by decide) (fun K hK => ?_) (fun K hK => ?_)
         ·skip
          refine Kd.R_append_rows_step Kd.string (w0 := w) w.heap.size (by rfl) (.tmp 83) (.tmp 86) 24 9 (.string ⟨#[]⟩) 16 rfl Tryd.underlying24 info9 rfl (by decide) (by omega) v115 y114 y117 _ _ _ (fun k_ => some k_ ≠ (.slice (some ad113) x5_1.length co17 : Value).ownBlock) (fun _ => False) rfl rfl ?aO ?aR (fun _ _ h => h) (fun _ h => h.elim) ?aF ?aB ?aS ?aL ?_
          (case aR => exact Cs HR120.out)
          (case aB => exact (by exact eS HB.out))
          (case aF => exact (fun k_ hk => Kd.fresh' (Kd.R_lt (by exact RS <| HO_5.out)) k_ hk))
          (case aO => exact (by exact RS <| Kd.R_mono HO116.out (fun _ hk => hk.2)))
          (case aS => exact (below_size (by exact eS HB.out)))
          (case aL => have := LMc30.out; omega)
          intro v122 w48 ho hb hg hat
          rw [← Ny121.out] at ho
          have n0_ := Ak (Kd.R_after (ok := (fun _ => True)) (by exact RS <| HO_5.out) hg hat)
          have n1_ := Ak (Kd.R_over' (by exact RS <| HO_6.out) (Kd.R_typed (by exact RS <| HO116.out)) (by decide) hg)
          have n2_ := Ak (hb)
          have n3_ := Ak ((Ct Kd.string Ny117.out (Kd.R_after (ok := (fun _ => True)) (by exact RS <| HO_5.out) hg hat) KL44.out))
          have n4_ := Ak ((Cd Kd.string Ny130.out KA45.out (Kd.R_after (ok := (fun _ => True)) (by exact RS <| HO_5.out) hg hat) KL45.out))
          have n5_ := Ak (ho)
          clear HO_5 HO_6 HB HR120 HR133 HO116; have HO_5 := n0_; have HO_6 := n1_; have HB := n2_; have HR120 := n3_; have HR133 := n4_; have HO123 := n5_; clear n0_ n1_ n2_ n3_ n4_ n5_ ho hb hg hat
          refine hK.out _ _ trivial (fun hHeld => ?_); clear hK K
          refine norm_ (a' := ?_) ?_ ?_; rotate_left; (show Act.put _ (some 87) _ = _; simp only [Z]; rfl)
          refine one_ (i := 6) (N := some 89) #[I,I,I,I,I,I,I,O,I,I,I,O,O] rfl rfl (one_of HT_.out (by kernel_rfl)) (by decide) (fun K hK => ?_)
          refine Kd.R_lit_step Kd.string _ 9 ?hg (N := 89) ?hd (xs := ([((rd_T41 l0 x7_1).f1)] : List ByteArray)) (inner := [.string ((rd_T41 l0 x7_1).f1)]) (ok := fun _ => True) (okp := fun _ => True) ?hr ?hp (fun _ hk => hk) trivial (Below.refl _ _) (Nat.le_refl _) (by simp) ?_; (case hd => rfl); (case hg => rfl); (case hr => first | (go_simp; done) | (go_simp; rfl)); (case hp => exact (Reps.one (show Kd.M Kd.string _ _ _ ((rd_T41 l0 x7_1).f1) [.string ((rd_T41 l0 x7_1).f1)] from rfl) (Reps.none _ _)))
          intro v125 w49 ho50 hb hg_ hnew_
          clear hg_ hnew_
          (first | rw [← Ny124.out] at ho50 | (simp only [Int.reduceToNat] at ho50; rw [← Ny124.out] at ho50))
          have n0_ := Ak (Kd.R_elder' (by exact RS <| HO_5.out) (Kd.R_base ho50) hb)
          have n1_ := Ak (Kd.R_below (by exact RS <| HO_6.out) hb)
          have n2_ := Ak (Kd.R_elder' (by exact RS <| HO123.out) (Kd.R_base ho50) hb)
          have n3_ := Ak (Kd.R_lower (Kd.R_new' (Kd.R_new' ho50 (Kd.R_lt (by exact RS <| HO_5.out))) (Kd.R_lt (by exact RS <| HO123.out))) (below_size (by exact eS HB.out)))
          have n4_ := Ak (Kd.C_below (by exact Cs HR120.out) hb)
          have n5_ := Ak (Kd.C_below (by exact Cs HR133.out) hb)
          have n6_ := Ak (below_step (by exact eS HB.out) hb)
          clear HO_5 HO_6 HO123 HR120 HR133 HB; have HO_5 := n0_; have HO_6 := n1_; have HO123 := n2_; have HO126 := n3_; have HR120 := n4_; have HR133 := n5_; have HB := n6_; clear n0_ n1_ n2_ n3_ n4_ n5_ n6_ hb ho50
          refine hK.out _ _ trivial (fun hHeld => ?_); clear hK K
          refine norm_ (a' := ?_) ?_ ?_; rotate_left; (show Act.put _ (some 89) _ = _; simp only [Z]; rfl)
          exact norm_ (by simp only [putAll, Act.put, List.setIfInBounds_toArray, List.set_cons_zero, List.set_cons_succ]) (hCont (v115, v122, v125) _ ⟨(by exact RS <| Kd.R_mono HO123.out (fun _ hk => ⟨hk.2, hk.1⟩)), (by exact RS <| Kd.R_mono HO126.out (fun _ hk => ⟨hk.2, hk.1.2⟩)), (by exact RS <| Kd.R_mono HO_5.out (fun _ hk => ⟨hk.1.2, hk.2⟩)), (by exact RS <| HO_6.out), (by exact eS HB.out)⟩)
         ·skip
          refine Kd.R_lit_step Kd.string _ 9 ?hg (N := 89) ?hd (xs := ([((rd_T41 l0 x7_1).f1)] : List ByteArray)) (inner := [.string ((rd_T41 l0 x7_1).f1)]) (ok := fun _ => True) (okp := fun _ => True) ?hr ?hp (fun _ hk => hk) trivial (Below.refl _ _) (Nat.le_refl _) (by simp) ?_; (case hd => rfl); (case hg => rfl); (case hr => first | (go_simp; done) | (go_simp; rfl)); (case hp => exact (Reps.one (show Kd.M Kd.string _ _ _ ((rd_T41 l0 x7_1).f1) [.string ((rd_T41 l0 x7_1).f1)] from rfl) (Reps.none _ _)))
          intro v125 w48 ho49 hb hg_ hnew_
          clear hg_ hnew_
          (first | rw [← Ny124.out] at ho49 | (simp only [Int.reduceToNat] at ho49; rw [← Ny124.out] at ho49))
          have n0_ := Ak (Kd.R_elder' (by exact RS <| HO_5.out) (Kd.R_base ho49) hb)
          have n1_ := Ak (Kd.R_below (by exact RS <| HO_6.out) hb)
          have n2_ := Ak (Kd.R_elder' (by exact RS <| HO116.out) (Kd.R_base ho49) hb)
          have n3_ := Ak (Kd.R_lower (Kd.R_new' (Kd.R_new' ho49 (Kd.R_lt (by exact RS <| HO_5.out))) (Kd.R_lt (by exact RS <| HO116.out))) (below_size (by exact eS HB.out)))
          have n4_ := Ak (Kd.C_below (by exact Cs HR120.out) hb)
          have n5_ := Ak (Kd.C_below (by exact Cs HR133.out) hb)
          have n6_ := Ak (below_step (by exact eS HB.out) hb)
          clear HO_5 HO_6 HO116 HR120 HR133 HB; have HO_5 := n0_; have HO_6 := n1_; have HO116 := n2_; have HO126 := n3_; have HR120 := n4_; have HR133 := n5_; have HB := n6_; clear n0_ n1_ n2_ n3_ n4_ n5_ n6_ hb ho49
          refine hK.out _ _ trivial (fun hHeld => ?_); clear hK K
          refine norm_ (a' := ?_) ?_ ?_; rotate_left; (show Act.put _ (some 89) _ = _; simp only [Z]; rfl)
          refine one_ (i := 4) (N := some 87) #[I,I,I,I,I,I,I,O,I,I,I,O,O] rfl rfl (one_of HT_.out (by kernel_rfl)) (by decide) (fun K hK => ?_)
          refine Kd.R_append_rows_step Kd.string (w0 := w) w.heap.size (by rfl) (.tmp 83) (.tmp 86) 24 9 (.string ⟨#[]⟩) 16 rfl Tryd.underlying24 info9 rfl (by decide) (by omega) v115 y114 y117 _ _ _ (fun k_ => some k_ ≠ (.slice (some ad113) x5_1.length co17 : Value).ownBlock ∧ some k_ ≠ (v125 : Value).ownBlock) (fun _ => False) rfl rfl ?aO ?aR (fun _ _ h => h) (fun _ h => h.elim) ?aF ?aB ?aS ?aL ?_
          (case aR => exact Cs HR120.out)
          (case aB => exact (by exact eS HB.out))
          (case aF => exact (fun k_ hk => ⟨Kd.fresh' (Kd.R_lt (by exact RS <| HO_5.out)) k_ hk, Kd.fresh' (Kd.R_lt (by exact RS <| HO126.out)) k_ hk⟩))
          (case aO => exact (by exact RS <| Kd.R_mono HO116.out (fun _ hk => ⟨hk.1.2, hk.2⟩)))
          (case aS => exact (below_size (by exact eS HB.out)))
          (case aL => have := LMc30.out; omega)
          intro v122 w50 ho hb hg hat
          rw [← Ny121.out] at ho
          have n0_ := Ak (Kd.R_after (ok := (fun k_ => some k_ ≠ (v125 : Value).ownBlock)) (by exact RS <| Kd.R_mono HO_5.out (fun _ hk => ⟨hk.2, hk.1.2⟩)) hg hat)
          have n1_ := Ak (Kd.R_over' (by exact RS <| HO_6.out) (Kd.R_typed (by exact RS <| HO116.out)) (by decide) hg)
          have n2_ := Ak (Kd.R_after (ok := (fun k_ => some k_ ≠ (.slice (some ad113) x5_1.length co17 : Value).ownBlock)) (by exact RS <| Kd.R_mono HO126.out (fun _ hk => ⟨hk.1.2, hk.2⟩)) hg hat)
          have n3_ := Ak (hb)
          have n4_ := Ak ((Ct Kd.string Ny117.out (Kd.R_after (ok := (fun k_ => some k_ ≠ (v125 : Value).ownBlock)) (by exact RS <| Kd.R_mono HO_5.out (fun _ hk => ⟨hk.2, hk.1.2⟩)) hg hat) KL44.out))
          have n5_ := Ak ((Cd Kd.string Ny130.out KA45.out (Kd.R_after (ok := (fun k_ => some k_ ≠ (v125 : Value).ownBlock)) (by exact RS <| Kd.R_mono HO_5.out (fun _ hk => ⟨hk.2, hk.1.2⟩)) hg hat) KL45.out))
          have n6_ := Ak (ho)
          clear HO_5 HO_6 HO126 HB HR120 HR133 HO116; have HO_5 := n0_; have HO_6 := n1_; have HO126 := n2_; have HB := n3_; have HR120 := n4_; have HR133 := n5_; have HO123 := n6_; clear n0_ n1_ n2_ n3_ n4_ n5_ n6_ ho hb hg hat
          refine hK.out _ _ trivial (fun hHeld => ?_); clear hK K
          refine norm_ (a' := ?_) ?_ ?_; rotate_left; (show Act.put _ (some 87) _ = _; simp only [Z]; rfl)
          exact norm_ (by simp only [putAll, Act.put, List.setIfInBounds_toArray, List.set_cons_zero, List.set_cons_succ]) (hCont (v115, v122, v125) _ ⟨(by exact RS <| Kd.R_mono HO123.out (fun _ hk => ⟨hk.2, hk.1⟩)), (by exact RS <| Kd.R_mono HO126.out (fun _ hk => ⟨hk.2, hk.1⟩)), (by exact RS <| Kd.R_mono HO_5.out (fun _ hk => ⟨hk.2, hk.1⟩)), (by exact RS <| HO_6.out), (by exact eS HB.out)⟩)
        ·skip
         refine Kd.R_lit_step Kd.string _ 9 ?hg (N := 89) ?hd (xs := ([((rd_T41 l0 x7_1).f1)] : List ByteArray)) (inner := [.string ((rd_T41 l0 x7_1).f1)]) (ok := fun _ => True) (okp := fun _ => True) ?hr ?hp (fun _ hk => hk) trivial (Below.refl _ _) (Nat.le_refl _) (by simp) ?_; (case hd => rfl); (case hg => rfl); (case hr => first | (go_simp; done) | (go_simp; rfl)); (case hp => exact (Reps.one (show Kd.M Kd.string _ _ _ ((rd_T41 l0 x7_1).f1) [.string ((rd_T41 l0 x7_1).f1)] from rfl) (Reps.none _ _)))
         intro v125 w46 ho47 hb hg_ hnew_
         clear hg_ hnew_
         (first | rw [← Ny124.out] at ho47 | (simp only [Int.reduceToNat] at ho47; rw [← Ny124.out] at ho47))
         have n0_ := Ak (Kd.R_elder' (by exact RS <| HO_5.out) (Kd.R_base ho47) hb)
         have n1_ := Ak (Kd.R_below (by exact RS <| HO_6.out) hb)
         have n2_ := Ak (Kd.R_lower (Kd.R_new' ho47 (Kd.R_lt (by exact RS <| HO_5.out))) (below_size (by exact eS HB.out)))
         have n3_ := Ak (Kd.C_below (by exact Cs HR120.out) hb)
         have n4_ := Ak (Kd.C_below (by exact Cs HR133.out) hb)
         have n5_ := Ak (below_step (by exact eS HB.out) hb)
         clear HO_5 HO_6 HR120 HR133 HB; have HO_5 := n0_; have HO_6 := n1_; have HO126 := n2_; have HR120 := n3_; have HR133 := n4_; have HB := n5_; clear n0_ n1_ n2_ n3_ n4_ n5_ hb ho47
         refine hK.out _ _ trivial (fun hHeld => ?_); clear hK K
         refine norm_ (a' := ?_) ?_ ?_; rotate_left; (show Act.put _ (some 89) _ = _; simp only [Z]; rfl)
         refine one_ (i := 0) (N := some 83) #[I,I,I,I,O,I,I,O,I,I,I,O,O] rfl rfl (one_of HT_.out (by kernel_rfl)) (by decide) (fun K hK => ?_)
         refine Kd.R_lit_step Kd.string _ 9 ?hg (N := 83) ?hd (xs := ([] : List ByteArray)) (inner := []) (ok := fun _ => True) (okp := fun _ => True) ?hr ?hp (fun _ hk => hk) trivial (Below.refl _ _) (Nat.le_refl _) (by simp) ?_; (case hd => rfl); (case hg => rfl); (case hr => first | (go_simp; done) | (go_simp; rfl)); (case hp => exact (Reps.none _ _))
         intro v115 w48 ho49 hb hg_ hnew_
         clear hg_ hnew_
         (first | rw [← Ny114.out] at ho49 | (simp only [Int.reduceToNat] at ho49; rw [← Ny114.out] at ho49))
         have n0_ := Ak (Kd.R_elder' (by exact RS <| HO_5.out) (Kd.R_base ho49) hb)
         have n1_ := Ak (Kd.R_below (by exact RS <| HO_6.out) hb)
         have n2_ := Ak (Kd.R_elder' (by exact RS <| HO126.out) (Kd.R_base ho49) hb)
         have n3_ := Ak (Kd.R_lower (Kd.R_new' (Kd.R_new' ho49 (Kd.R_lt (by exact RS <| HO_5.out))) (Kd.R_lt (by exact RS <| HO126.out))) (below_size (by exact eS HB.out)))
         have n4_ := Ak (Kd.C_below (by exact Cs HR120.out) hb)
         have n5_ := Ak (Kd.C_below (by exact Cs HR133.out) hb)
         have n6_ := Ak (below_step (by exact eS HB.out) hb)
         clear HO_5 HO_6 HO126 HR120 HR133 HB; have HO_5 := n0_; have HO_6 := n1_; have HO126 := n2_; have HO116 := n3_; have HR120 := n4_; have HR133 := n5_; have HB := n6_; clear n0_ n1_ n2_ n3_ n4_ n5_ n6_ hb ho49
         refine hK.out _ _ trivial (fun hHeld => ?_); clear hK K
         refine norm_ (a' := ?_) ?_ ?_; rotate_left; (show Act.put _ (some 83) _ = _; simp only [Z]; rfl)
         refine one_ (i := 4) (N := some 87) #[I,I,I,I,I,I,I,O,I,I,I,O,O] rfl rfl (one_of HT_.out (by kernel_rfl)) (by decide) (fun K hK => ?_)
         refine Kd.R_append_rows_step Kd.string (w0 := w) w.heap.size (by rfl) (.tmp 83) (.tmp 86) 24 9 (.string ⟨#[]⟩) 16 rfl Tryd.underlying24 info9 rfl (by decide) (by omega) v115 y114 y117 _ _ _ (fun k_ => some k_ ≠ (.slice (some ad113) x5_1.length co17 : Value).ownBlock ∧ some k_ ≠ (v125 : Value).ownBlock) (fun _ => False) rfl rfl ?aO ?aR (fun _ _ h => h) (fun _ h => h.elim) ?aF ?aB ?aS ?aL ?_
         (case aR => exact Cs HR120.out)
         (case aB => exact (by exact eS HB.out))
         (case aF => exact (fun k_ hk => ⟨Kd.fresh' (Kd.R_lt (by exact RS <| HO_5.out)) k_ hk, Kd.fresh' (Kd.R_lt (by exact RS <| HO126.out)) k_ hk⟩))
         (case aO => exact (by exact RS <| Kd.R_mono HO116.out (fun _ hk => ⟨hk.1.2, hk.2⟩)))
         (case aS => exact (below_size (by exact eS HB.out)))
         (case aL => have := LMc30.out; omega)
         intro v122 w50 ho hb hg hat
         rw [← Ny121.out] at ho
         have n0_ := Ak (Kd.R_after (ok := (fun k_ => some k_ ≠ (v125 : Value).ownBlock)) (by exact RS <| Kd.R_mono HO_5.out (fun _ hk => ⟨hk.1.2, hk.2⟩)) hg hat)
         have n1_ := Ak (Kd.R_over' (by exact RS <| HO_6.out) (Kd.R_typed (by exact RS <| HO116.out)) (by decide) hg)
         have n2_ := Ak (Kd.R_after (ok := (fun k_ => some k_ ≠ (.slice (some ad113) x5_1.length co17 : Value).ownBlock)) (by exact RS <| Kd.R_mono HO126.out (fun _ hk => ⟨hk.1.2, hk.2⟩)) hg hat)
         have n3_ := Ak (hb)
         have n4_ := Ak ((Ct Kd.string Ny117.out (Kd.R_after (ok := (fun k_ => some k_ ≠ (v125 : Value).ownBlock)) (by exact RS <| Kd.R_mono HO_5.out (fun _ hk => ⟨hk.1.2, hk.2⟩)) hg hat) KL44.out))
         have n5_ := Ak ((Cd Kd.string Ny130.out KA45.out (Kd.R_after (ok := (fun k_ => some k_ ≠ (v125 : Value).ownBlock)) (by exact RS <| Kd.R_mono HO_5.out (fun _ hk => ⟨hk.1.2, hk.2⟩)) hg hat) KL45.out))
         have n6_ := Ak (ho)
         clear HO_5 HO_6 HO126 HB HR120 HR133 HO116; have HO_5 := n0_; have HO_6 := n1_; have HO126 := n2_; have HB := n3_; have HR120 := n4_; have HR133 := n5_; have HO123 := n6_; clear n0_ n1_ n2_ n3_ n4_ n5_ n6_ ho hb hg hat
         refine hK.out _ _ trivial (fun hHeld => ?_); clear hK K
         refine norm_ (a' := ?_) ?_ ?_; rotate_left; (show Act.put _ (some 87) _ = _; simp only [Z]; rfl)
         exact norm_ (by simp only [putAll, Act.put, List.setIfInBounds_toArray, List.set_cons_zero, List.set_cons_succ]) (hCont (v115, v122, v125) _ ⟨(by exact RS <| Kd.R_mono HO123.out (fun _ hk => ⟨hk.2, hk.1⟩)), (by exact RS <| Kd.R_mono HO126.out (fun _ hk => ⟨hk.2, hk.1⟩)), (by exact RS <| Kd.R_mono HO_5.out (fun _ hk => ⟨hk.2, hk.1⟩)), (by exact RS <| HO_6.out), (by exact eS HB.out)⟩)
       rintro ⟨v115, v122, v125⟩ w51 ⟨h0_, h1_, h2_, h3_, h4_⟩
       have n0_ : Aside0 (Kd.R Kd.string 9 w51 w.heap.size (fun k_ => some k_ ≠ (v125 : Value).ownBlock ∧ some k_ ≠ (.slice (some ad113) x5_1.length co17 : Value).ownBlock) v122 y121) := ⟨h0_⟩
       have n1_ : Aside0 (Kd.R Kd.string 9 w51 w.heap.size (fun k_ => some k_ ≠ (v122 : Value).ownBlock ∧ some k_ ≠ (.slice (some ad113) x5_1.length co17 : Value).ownBlock) v125 y124) := ⟨h1_⟩
       have n2_ : Aside0 (Kd.R Kd.string 9 w51 w.heap.size (fun k_ => some k_ ≠ (v122 : Value).ownBlock ∧ some k_ ≠ (v125 : Value).ownBlock) (.slice (some ad113) x5_1.length co17) x5_1) := ⟨h2_⟩
       have n3_ : Aside0 (Kd.R (Kd.int .i64) 3 w51 w.heap.size (fun _ => True) (.slice (some ad111) x6_1.length co42) x6_1) := ⟨h3_⟩
       have n4_ : Aside0 (Below w.heap.size w w51) := ⟨h4_⟩
       clear HO_5 HO_6 HB h0_ h1_ h2_ h3_ h4_; have HO123 := n0_; have HO126 := n1_; have HO_5 := n2_; have HO_6 := n3_; have HB := n4_; clear n0_ n1_ n2_ n3_ n4_
       have hHeld := trivial
       have HR120 := Ak (Ct Kd.string Ny117.out (HO_5.out) KL44.out)
       have HR133 := Ak (Cd Kd.string Ny130.out KA45.out (HO_5.out) KL45.out)
       obtain ⟨Ao53, co53, eo53⟩ := Kd.R_slice HO126.out
       (first | subst eo53 | (injection eo53 with f1_ f2_ f3_; have f4_ := f1_.symm; have f5_ := f3_.symm; clear f1_ f2_ f3_; subst f4_; subst f5_))
       refine norm_ (a' := ?_) ?_ ?_
       rotate_left
       ·simp only [putAll, Act.put, List.setIfInBounds_toArray, List.set_cons_zero, List.set_cons_succ]
        rfl
       refine one_ (i := 7) (N := some 90) #[I,I,I,I,I,I,I,I,I,I,I,O,O] rfl rfl (one_of HT_.out (by kernel_rfl)) (by decide) (fun K hK => ?_)
       refine Kd.R_append_rows_step Kd.string (w0 := w) w.heap.size (by rfl) (.tmp 87) (.tmp 89) 24 9 (.string ⟨#[]⟩) 16 rfl Tryd.underlying24 info9 rfl (by decide) (by omega) v122 y121 y124 _ _ _ (fun k_ => some k_ ≠ (.slice (some ad113) x5_1.length co17 : Value).ownBlock ∧ some k_ ≠ (.slice Ao53 y124.length co53 : Value).ownBlock) (fun _ => False) rfl rfl ?aO ?aR (fun _ _ h => h) (fun _ h => h.elim) ?aF ?aB ?aS ?aL ?_
       (case aR => repeat (first | exact (Kd.R_reads' HO126.out).2.2 | (with_reducible refine Kd.C_alloc ?_ _) | (with_reducible refine Kd.C_drewN ?_ _) | (with_reducible refine Kd.C_drew ?_)))
       (case aB => exact (by exact eS HB.out))
       (case aF => exact (fun k_ hk => ⟨Kd.fresh' (Kd.R_lt (by exact RS <| HO_5.out)) k_ hk, Kd.fresh' (Kd.R_lt (by exact RS <| HO126.out)) k_ hk⟩))
       (case aO => exact (by exact RS <| Kd.R_mono HO123.out (fun _ hk => ⟨hk.2, hk.1⟩)))
       (case aS => exact (below_size (by exact eS HB.out)))
       (case aL => have := LMc31.out; omega)
       intro v128 w52 ho hb hg hat
       rw [← Ny127.out] at ho
       have n0_ := Ak (Kd.R_after (ok := (fun k_ => some k_ ≠ (.slice Ao53 y124.length co53 : Value).ownBlock)) (by exact RS <| Kd.R_mono HO_5.out (fun _ hk => ⟨hk.2, hk.1⟩)) hg hat)
       have n1_ := Ak (Kd.R_over' (by exact RS <| HO_6.out) (Kd.R_typed (by exact RS <| HO123.out)) (by decide) hg)
       have n2_ := Ak (Kd.R_after (ok := (fun k_ => some k_ ≠ (.slice (some ad113) x5_1.length co17 : Value).ownBlock)) (by exact RS <| Kd.R_mono HO126.out (fun _ hk => ⟨hk.2, hk.1⟩)) hg hat)
       have n3_ := Ak (hb)
       have n4_ := Ak ((Ct Kd.string Ny117.out (Kd.R_after (ok := (fun k_ => some k_ ≠ (.slice Ao53 y124.length co53 : Value).ownBlock)) (by exact RS <| Kd.R_mono HO_5.out (fun _ hk => ⟨hk.2, hk.1⟩)) hg hat) KL44.out))
       have n5_ := Ak ((Cd Kd.string Ny130.out KA45.out (Kd.R_after (ok := (fun k_ => some k_ ≠ (.slice Ao53 y124.length co53 : Value).ownBlock)) (by exact RS <| Kd.R_mono HO_5.out (fun _ hk => ⟨hk.2, hk.1⟩)) hg hat) KL45.out))
       have n6_ := Ak (ho)
       clear HO_5 HO_6 HO126 HB HR120 HR133 HO123; have HO_5 := n0_; have HO_6 := n1_; have HO126 := n2_; have HB := n3_; have HR120 := n4_; have HR133 := n5_; have HO129 := n6_; clear n0_ n1_ n2_ n3_ n4_ n5_ n6_ ho hb hg hat
       refine hK.out _ _ trivial (fun hHeld => ?_); clear hK K
       refine norm_ (a' := ?_) ?_ ?_; rotate_left; (show Act.put _ (some 90) _ = _; simp only [Z]; rfl)
       refine one_ (i := 11) (N := some 94) #[I,I,I,I,I,I,I,I,I,I,I,I,O] rfl rfl (one_of HT_.out (by kernel_rfl)) (by decide) (fun K hK => ?_)
       refine Kd.R_append_rows_step Kd.string (w0 := w) w.heap.size (by rfl) (.tmp 90) (.tmp 93) 24 9 (.string ⟨#[]⟩) 16 rfl Tryd.underlying24 info9 rfl (by decide) (by omega) v128 y127 y130 _ _ _ (fun k_ => some k_ ≠ (.slice (some ad113) x5_1.length co17 : Value).ownBlock ∧ some k_ ≠ (.slice Ao53 y124.length co53 : Value).ownBlock) (fun _ => False) rfl rfl ?aO ?aR (fun _ _ h => h) (fun _ h => h.elim) ?aF ?aB ?aS ?aL ?_
       (case aR => exact Cs HR133.out)
       (case aB => exact (by exact eS HB.out))
       (case aF => exact (fun k_ hk => ⟨Kd.fresh' (Kd.R_lt (by exact RS <| HO_5.out)) k_ hk, Kd.fresh' (Kd.R_lt (by exact RS <| HO126.out)) k_ hk⟩))
       (case aO => exact (by exact RS <| HO129.out))
       (case aS => exact (below_size (by exact eS HB.out)))
       (case aL => have := LMc34.out; omega)
       intro v135 w54 ho hb hg hat
       rw [← Ny134.out] at ho
       have n0_ := Ak (Kd.R_after (ok := (fun k_ => some k_ ≠ (.slice Ao53 y124.length co53 : Value).ownBlock)) (by exact RS <| HO_5.out) hg hat)
       have n1_ := Ak (Kd.R_over' (by exact RS <| HO_6.out) (Kd.R_typed (by exact RS <| HO129.out)) (by decide) hg)
       have n2_ := Ak (Kd.R_after (ok := (fun k_ => some k_ ≠ (.slice (some ad113) x5_1.length co17 : Value).ownBlock)) (by exact RS <| HO126.out) hg hat)
       have n3_ := Ak (hb)
       have n4_ := Ak ((Ct Kd.string Ny117.out (Kd.R_after (ok := (fun k_ => some k_ ≠ (.slice Ao53 y124.length co53 : Value).ownBlock)) (by exact RS <| HO_5.out) hg hat) KL44.out))
       have n5_ := Ak ((Cd Kd.string Ny130.out KA45.out (Kd.R_after (ok := (fun k_ => some k_ ≠ (.slice Ao53 y124.length co53 : Value).ownBlock)) (by exact RS <| HO_5.out) hg hat) KL45.out))
       have n6_ := Ak (ho)
       clear HO_5 HO_6 HO126 HB HR120 HR133 HO129; have HO_5 := n0_; have HO_6 := n1_; have HO126 := n2_; have HB := n3_; have HR120 := n4_; have HR133 := n5_; have HO136 := n6_; clear n0_ n1_ n2_ n3_ n4_ n5_ n6_ ho hb hg hat
       refine hK.out _ _ trivial (fun hHeld => ?_); clear hK K
       refine norm_ (a' := ?_) ?_ ?_; rotate_left; (show Act.put _ (some 94) _ = _; simp only [Z]; rfl)
       refine pure_ (i := 12) (N := some 5) (v := ?_) (a' := ?_) #[I,I,I,I,I,I,I,I,I,I,I,I,I] rfl rfl (any_of HT_.out (by kernel_rfl)) (fun _ _ _ h => h) (Or.inl ⟨by rfl, ?_⟩) ?_ ?_
       rotate_left; (intro w'; go_simp; with_reducible rfl); rotate_left; (simp only [Z]; rfl)
       refine done_ (done_of HT_.out (by kernel_rfl)) ?_
       try go_wp2
       have n0_ := Ak (Kd.R_drew HO_5.out)
       have n1_ := Ak (Kd.R_drew HO_6.out)
       have n2_ := Ak (Kd.R_drew HO126.out)
       have n3_ := Ak (Kd.R_drew HO136.out)
       have n4_ := Ak (Kd.C_drew HR120.out)
       have n5_ := Ak (Kd.C_drew HR133.out)
       have n6_ := Ak (below_drew1 HB.out)
       clear HO_5 HO_6 HO126 HO136 HR120 HR133 HB; have HO_5 := n0_; have HO_6 := n1_; have HO126 := n2_; have HO136 := n3_; have HR120 := n4_; have HR133 := n5_; have HB := n6_; clear n0_ n1_ n2_ n3_ n4_ n5_ n6_
       have q56 : (x11_3 : Int) ≤ ((x6_1.length : Int) : Int) := Dz
       obtain ⟨i056, hi056, _, hsz56, _⟩ := info_parts info3
       have hroom56 : x6_1.length ≤ co42 := (Kd.R_reads' HO_6.out).2.1
       have hC56 : Kd.C (Kd.int .i64) _ (some ad111) x6_1.length x6_1 := (Kd.R_reads' HO_6.out).2.2
       have hcut56 := cut_to (P := Tryd.prog) 25 3 .i64 Tryd.underlying25 hi056 (some ad111) x6_1.length co42 x11_3 Dz q56 hroom56
       have hr56 := Kd.C_take (m := (x11_3 : Int).toNat) hC56 (by omega)
       have hy56 : y140.length = (x11_3 : Int).toNat := (by rw [Ny140.out, List.length_take]; omega)
       rw [← Ny140.out] at hr56
       rw [← hy56] at hcut56
       have HR143 := Ak hr56
       have HC143 := Ak (show y140.length ≤ co42 from by omega)
       clear hr56 hC56 hroom56 hi056 hsz56
       have KY56 := Ak hy56
       clear hy56
       have KL56 := Ak (show (x11_3 : Int).toNat ≤ x6_1.length from by omega)
       replace q56 := eq_true q56
       have q57 : (x11_3 : Int) ≤ ((x6_1.length : Int) : Int) := Dz
       obtain ⟨i057, hi057, _, hsz57, _⟩ := info_parts info3
       have hroom57 : x6_1.length ≤ co42 := (Kd.R_reads' HO_6.out).2.1
       have hC57 : Kd.C (Kd.int .i64) _ (some ad111) x6_1.length x6_1 := (Kd.R_reads' HO_6.out).2.2
       have q057 : (0 : Int) ≤ (x11_3 : Int) := Dz
       have hcut57 := cut_from (P := Tryd.prog) 25 3 .i64 Tryd.underlying25 hi057 1 hsz57 (some ad111) x6_1.length co42 x11_3 q057 q57
       have hr57 := Kd.C_drop (m := (x11_3 : Int).toNat) (c := co42) hC57 (by omega) hroom57
       obtain ⟨A57, hA57⟩ : ∃ A1, A1 = (if co42 = (x11_3 : Int).toNat then (some ad111) else ((some ad111) : Option Addr).map (·.add ((x11_3 : Int).toNat * 1))) := ⟨_, rfl⟩
       obtain ⟨c57, hc57⟩ : ∃ c1, c1 = co42 - (x11_3 : Int).toNat := ⟨_, rfl⟩
       have hy57 : y153.length = x6_1.length - (x11_3 : Int).toNat := (by rw [Ny153.out, List.length_drop] <;> omega)
       rw [show (x6_1).drop (x11_3 : Int).toNat = y153 from Ny153.out.symm] at hr57
       replace hr57 : Kd.C (Kd.int .i64) _ A57 y153.length y153 := (by rw [hA57]; exact hr57)
       rw [← hy57, ← hA57, ← hc57] at hcut57
       have HR156 := Ak hr57
       have HC156 := Ak (show y153.length ≤ c57 from by rw [hy57, hc57]; exact Nat.sub_le_sub_right hroom57 _)
       clear hr57 hC57 hroom57 hi057 hsz57 hc57
       have KY57 := Ak hy57
       have KA57 := Ak hA57
       clear hy57 hA57
       have KL57 := Ak (show (x11_3 : Int).toNat ≤ x6_1.length from by omega)
       replace q57 := eq_true q57
       refine start_ (n := 13) (S := fun w' => True) (ds := []) #[O,O,O,O,O,O,O,O,O,O,O,O,O] (by kernel_rfl) rfl rfl trivial (fun hHeld => ?_); refine with_tabW Fa.tab17 Fa.bits17 (fun HT_ HW_ => ?_)
       generalize w54.drew = w55 at HO_5 HO_6 HO126 HO136 HR120 HR133 HB HR143 HR156 hHeld ⊢
       refine pure_ (i := 1) (N := some 96) (v := ?_) (a' := ?_) #[O,I,O,O,O,O,O,O,O,O,O,O,O] rfl rfl (any_of HT_.out (by kernel_rfl)) (fun _ _ _ h => h) (Or.inl ⟨by rfl, ?_⟩) ?_ ?_
       rotate_left; (intro w'; go_simp; with_reducible rfl); rotate_left; (simp only [Z]; rfl)
       refine pure_ (i := 2) (N := some 97) (v := ?_) (a' := ?_) #[O,I,I,O,O,O,O,O,O,O,O,O,O] rfl rfl (any_of HT_.out (by kernel_rfl)) (fun _ _ _ h => h) (Or.inl ⟨by rfl, ?_⟩) ?_ ?_
       rotate_left; (intro w'; go_simp; with_reducible rfl); rotate_left; (simp only [Z]; rfl)
       refine pure_ (i := 3) (N := some 98) (v := ?_) (a' := ?_) #[O,I,I,I,O,O,O,O,O,O,O,O,O] rfl rfl (any_of HT_.out (by kernel_rfl)) (fun _ _ _ h => h) (Or.inl ⟨by rfl, ?_⟩) ?_ ?_
       rotate_left; (intro w'; go_simp; with_reducible rfl); rotate_left; (simp only [Z]; rfl)
       refine pure_ (i := 5) (N := some 100) (v := ?_) (a' := ?_) #[O,I,I,I,O,I,O,O,O,O,O,O,O] rfl rfl (any_of HT_.out (by kernel_rfl)) (fun _ _ _ h => h) (Or.inl ⟨by rfl, ?_⟩) ?_ ?_
       rotate_left; (intro w'; go_simp; with_reducible rfl); rotate_left; (simp only [Z]; rfl)
       refine pure_ (i := 8) (N := some 103) (v := ?_) (a' := ?_) #[O,I,I,I,O,I,O,O,I,O,O,O,O] rfl rfl (any_of HT_.out (by kernel_rfl)) (fun _ _ _ h => h) (Or.inl ⟨by rfl, ?_⟩) ?_ ?_
       rotate_left; (intro w'; go_simp; with_reducible rfl); rotate_left; (simp only [Z]; rfl)
       refine pure_ (i := 9) (N := some 104) (v := ?_) (a' := ?_) #[O,I,I,I,O,I,O,O,I,I,O,O,O] rfl rfl (any_of HT_.out (by kernel_rfl)) (fun _ _ _ h => h) (Or.inl ⟨by rfl, ?_⟩) ?_ ?_
       rotate_left; (intro w'; go_simp; with_reducible rfl); rotate_left; (simp only [Z]; rfl)
       refine pure_ (i := 10) (N := some 105) (v := ?_) (a' := ?_) #[O,I,I,I,O,I,O,O,I,I,I,O,O] rfl rfl (any_of HT_.out (by kernel_rfl)) (fun _ _ _ h => h) (Or.inl ⟨by rfl, ?_⟩) ?_ ?_
       rotate_left; (intro w'; go_simp; with_reducible rfl); rotate_left; (simp only [Z]; rfl)
       refine join_ (σ := Value × Value × Value) 3 #[I,I,I,I,I,I,I,O,I,I,I,O,O] (fun s_ => [(95, s_.1), (99, s_.2.1), (101, s_.2.2)]) (fun s_ w' => (Kd.R Kd.string 9 w' w.heap.size (fun k_ => some k_ ≠ (v135 : Value).ownBlock ∧ some k_ ≠ (.slice (some ad113) x5_1.length co17 : Value).ownBlock) (.slice Ao53 y124.length co53) y124) ∧ (Kd.R Kd.string 9 w' w.heap.size (fun k_ => some k_ ≠ (.slice Ao53 y124.length co53 : Value).ownBlock ∧ some k_ ≠ (.slice (some ad113) x5_1.length co17 : Value).ownBlock) v135 y134) ∧ (Kd.R (Kd.int .i64) 3 w' w.heap.size (fun k_ => some k_ ≠ (s_.2.2 : Value).ownBlock ∧ some k_ ≠ (.slice (some ad111) x6_1.length co42 : Value).ownBlock) s_.2.1 y144) ∧ (Kd.R (Kd.int .i64) 3 w' w.heap.size (fun k_ => some k_ ≠ (s_.2.1 : Value).ownBlock ∧ some k_ ≠ (.slice (some ad111) x6_1.length co42 : Value).ownBlock) s_.2.2 y147) ∧ (Kd.R Kd.string 9 w' w.heap.size (fun k_ => some k_ ≠ (.slice Ao53 y124.length co53 : Value).ownBlock ∧ some k_ ≠ (v135 : Value).ownBlock) (.slice (some ad113) x5_1.length co17) x5_1) ∧ (Kd.R (Kd.int .i64) 3 w' w.heap.size (fun k_ => some k_ ≠ (s_.2.1 : Value).ownBlock ∧ some k_ ≠ (s_.2.2 : Value).ownBlock) (.slice (some ad111) x6_1.length co42) x6_1) ∧ (Below w.heap.size w w')) ?_ ?_
       rotate_left
       ·intro hCont
        refine two_ (i := 0) (j := 6) (Ni := some 95) (Nj := some 101) #[I,I,I,I,O,I,O,O,I,I,I,O,O] #[O,I,I,I,O,I,I,O,I,I,I,O,O] rfl rfl rfl rfl (two_of HT_.out (by kernel_rfl)) (by decide) (by decide) (fun K hK => ?_) (fun K hK => ?_)
        ·skip
         refine Kd.R_lit_step (Kd.int .i64) _ 3 ?hg (N := 95) ?hd (xs := ([] : List Int)) (inner := []) (ok := fun _ => True) (okp := fun _ => True) ?hr ?hp (fun _ hk => hk) trivial (Below.refl _ _) (Nat.le_refl _) (by simp) ?_; (case hd => rfl); (case hg => rfl); (case hr => first | (go_simp; done) | (go_simp; rfl)); (case hp => exact (Reps.none _ _))
         intro v138 w58 ho59 hb hg_ hnew_
         clear hg_ hnew_
         (first | rw [← Ny137.out] at ho59 | (simp only [Int.reduceToNat] at ho59; rw [← Ny137.out] at ho59))
         have n0_ := Ak (Kd.R_below (by exact RS <| HO_5.out) hb)
         have n1_ := Ak (Kd.R_elder' (by exact RS <| HO_6.out) (Kd.R_base ho59) hb)
         have n2_ := Ak (Kd.R_below (by exact RS <| HO126.out) hb)
         have n3_ := Ak (Kd.R_below (by exact RS <| HO136.out) hb)
         have n4_ := Ak (Kd.R_lower (Kd.R_new' ho59 (Kd.R_lt (by exact RS <| HO_6.out))) (below_size (by exact eS HB.out)))
         have n5_ := Ak (Kd.C_below (by exact Cs HR120.out) hb)
         have n6_ := Ak (Kd.C_below (by exact Cs HR133.out) hb)
         have n7_ := Ak (Kd.C_below (by exact Cs HR143.out) hb)
         have n8_ := Ak (Kd.C_below (by exact Cs HR156.out) hb)
         have n9_ := Ak (below_step (by exact eS HB.out) hb)
         clear HO_5 HO_6 HO126 HO136 HR120 HR133 HR143 HR156 HB; have HO_5 := n0_; have HO_6 := n1_; have HO126 := n2_; have HO136 := n3_; have HO139 := n4_; have HR120 := n5_; have HR133 := n6_; have HR143 := n7_; have HR156 := n8_; have HB := n9_; clear n0_ n1_ n2_ n3_ n4_ n5_ n6_ n7_ n8_ n9_ hb ho59
         refine hK.out _ _ trivial (fun hHeld => ?_); clear hK K
         refine norm_ (a' := ?_) ?_ ?_; rotate_left; (show Act.put _ (some 95) _ = _; simp only [Z]; rfl)
         refine two_ (i := 4) (j := 6) (Ni := some 99) (Nj := some 101) #[I,I,I,I,I,I,O,O,I,I,I,O,O] #[I,I,I,I,O,I,I,O,I,I,I,O,O] rfl rfl rfl rfl (two_of HT_.out (by kernel_rfl)) (by decide) (by decide) (fun K hK => ?_) (fun K hK => ?_)
         ·skip
          refine Kd.R_append_rows_step (Kd.int .i64) (w0 := w) w.heap.size (by rfl) (.tmp 95) (.tmp 98) 25 3 (.int .i64 0) 8 rfl Tryd.underlying25 info3 rfl (by decide) (by omega) v138 y137 y140 _ _ _ (fun k_ => some k_ ≠ (.slice (some ad111) x6_1.length co42 : Value).ownBlock) (fun _ => False) rfl rfl ?aO ?aR (fun _ _ h => h) (fun _ h => h.elim) ?aF ?aB ?aS ?aL ?_
          (case aR => exact Cs HR143.out)
          (case aB => exact (by exact eS HB.out))
          (case aF => exact (fun k_ hk => Kd.fresh' (Kd.R_lt (by exact RS <| HO_6.out)) k_ hk))
          (case aO => exact (by exact RS <| Kd.R_mono HO139.out (fun _ hk => hk.2)))
          (case aS => exact (below_size (by exact eS HB.out)))
          (case aL => have := LMc37.out; omega)
          intro v145 w60 ho hb hg hat
          rw [← Ny144.out] at ho
          have n0_ := Ak (Kd.R_over' (by exact RS <| HO_5.out) (Kd.R_typed (by exact RS <| HO139.out)) (by decide) hg)
          have n1_ := Ak (Kd.R_after (ok := (fun _ => True)) (by exact RS <| HO_6.out) hg hat)
          have n2_ := Ak (Kd.R_over' (by exact RS <| HO126.out) (Kd.R_typed (by exact RS <| HO139.out)) (by decide) hg)
          have n3_ := Ak (Kd.R_over' (by exact RS <| HO136.out) (Kd.R_typed (by exact RS <| HO139.out)) (by decide) hg)
          have n4_ := Ak (hb)
          have n5_ := Ak ((Ct Kd.string Ny117.out (Kd.R_over' (by exact RS <| HO_5.out) (Kd.R_typed (by exact RS <| HO139.out)) (by decide) hg) KL44.out))
          have n6_ := Ak ((Cd Kd.string Ny130.out KA45.out (Kd.R_over' (by exact RS <| HO_5.out) (Kd.R_typed (by exact RS <| HO139.out)) (by decide) hg) KL45.out))
          have n7_ := Ak ((Ct (Kd.int .i64) Ny140.out (Kd.R_after (ok := (fun _ => True)) (by exact RS <| HO_6.out) hg hat) KL56.out))
          have n8_ := Ak ((Cd (Kd.int .i64) Ny153.out KA57.out (Kd.R_after (ok := (fun _ => True)) (by exact RS <| HO_6.out) hg hat) KL57.out))
          have n9_ := Ak (ho)
          clear HO_5 HO_6 HO126 HO136 HB HR120 HR133 HR143 HR156 HO139; have HO_5 := n0_; have HO_6 := n1_; have HO126 := n2_; have HO136 := n3_; have HB := n4_; have HR120 := n5_; have HR133 := n6_; have HR143 := n7_; have HR156 := n8_; have HO146 := n9_; clear n0_ n1_ n2_ n3_ n4_ n5_ n6_ n7_ n8_ n9_ ho hb hg hat
          refine hK.out _ _ trivial (fun hHeld => ?_); clear hK K
          refine norm_ (a' := ?_) ?_ ?_; rotate_left; (show Act.put _ (some 99) _ = _; simp only [Z]; rfl)
          refine one_ (i := 6) (N := some 101) #[I,I,I,I,I,I,I,O,I,I,I,O,O] rfl rfl (one_of HT_.out (by kernel_rfl)) (by decide) (fun K hK => ?_)
          refine Kd.R_lit_step (Kd.int .i64) _ 3 ?hg (N := 101) ?hd (xs := ([t110] : List Int)) (inner := [.int .i64 t110]) (ok := fun _ => True) (okp := fun _ => True) ?hr ?hp (fun _ hk => hk) trivial (Below.refl _ _) (Nat.le_refl _) (by simp) ?_; (case hd => rfl); (case hg => rfl); (case hr => first | (go_simp; done) | (go_simp; rfl)); (case hp => exact (Reps.one (show Kd.M (Kd.int .i64) _ _ _ t110 [.int .i64 t110] from rfl) (Reps.none _ _)))
          intro v148 w61 ho62 hb hg_ hnew_
          clear hg_ hnew_
          (first | rw [← Ny147.out] at ho62 | (simp only [Int.reduceToNat] at ho62; rw [← Ny147.out] at ho62))
          have n0_ := Ak (Kd.R_below (by exact RS <| HO_5.out) hb)
          have n1_ := Ak (Kd.R_elder' (by exact RS <| HO_6.out) (Kd.R_base ho62) hb)
          have n2_ := Ak (Kd.R_below (by exact RS <| HO126.out) hb)
          have n3_ := Ak (Kd.R_below (by exact RS <| HO136.out) hb)
          have n4_ := Ak (Kd.R_elder' (by exact RS <| HO146.out) (Kd.R_base ho62) hb)
          have n5_ := Ak (Kd.R_lower (Kd.R_new' (Kd.R_new' ho62 (Kd.R_lt (by exact RS <| HO_6.out))) (Kd.R_lt (by exact RS <| HO146.out))) (below_size (by exact eS HB.out)))
          have n6_ := Ak (Kd.C_below (by exact Cs HR120.out) hb)
          have n7_ := Ak (Kd.C_below (by exact Cs HR133.out) hb)
          have n8_ := Ak (Kd.C_below (by exact Cs HR143.out) hb)
          have n9_ := Ak (Kd.C_below (by exact Cs HR156.out) hb)
          have n10_ := Ak (below_step (by exact eS HB.out) hb)
          clear HO_5 HO_6 HO126 HO136 HO146 HR120 HR133 HR143 HR156 HB; have HO_5 := n0_; have HO_6 := n1_; have HO126 := n2_; have HO136 := n3_; have HO146 := n4_; have HO149 := n5_; have HR120 := n6_; have HR133 := n7_; have HR143 := n8_; have HR156 := n9_; have HB := n10_; clear n0_ n1_ n2_ n3_ n4_ n5_ n6_ n7_ n8_ n9_ n10_ hb ho62
          refine hK.out _ _ trivial (fun hHeld => ?_); clear hK K
          refine norm_ (a' := ?_) ?_ ?_; rotate_left; (show Act.put _ (some 101) _ = _; simp only [Z]; rfl)
          exact norm_ (by simp only [putAll, Act.put, List.setIfInBounds_toArray, List.set_cons_zero, List.set_cons_succ]) (hCont (v138, v145, v148) _ ⟨(by exact RS <| Kd.R_mono HO126.out (fun _ hk => ⟨hk.2, hk.1⟩)), (by exact RS <| Kd.R_mono HO136.out (fun _ hk => ⟨hk.2, hk.1⟩)), (by exact RS <| Kd.R_mono HO146.out (fun _ hk => ⟨hk.2, hk.1⟩)), (by exact RS <| Kd.R_mono HO149.out (fun _ hk => ⟨hk.2, hk.1.2⟩)), (by exact RS <| HO_5.out), (by exact RS <| Kd.R_mono HO_6.out (fun _ hk => ⟨hk.1.2, hk.2⟩)), (by exact eS HB.out)⟩)
         ·skip
          refine Kd.R_lit_step (Kd.int .i64) _ 3 ?hg (N := 101) ?hd (xs := ([t110] : List Int)) (inner := [.int .i64 t110]) (ok := fun _ => True) (okp := fun _ => True) ?hr ?hp (fun _ hk => hk) trivial (Below.refl _ _) (Nat.le_refl _) (by simp) ?_; (case hd => rfl); (case hg => rfl); (case hr => first | (go_simp; done) | (go_simp; rfl)); (case hp => exact (Reps.one (show Kd.M (Kd.int .i64) _ _ _ t110 [.int .i64 t110] from rfl) (Reps.none _ _)))
          intro v148 w60 ho61 hb hg_ hnew_
          clear hg_ hnew_
          (first | rw [← Ny147.out] at ho61 | (simp only [Int.reduceToNat] at ho61; rw [← Ny147.out] at ho61))
          have n0_ := Ak (Kd.R_below (by exact RS <| HO_5.out) hb)
          have n1_ := Ak (Kd.R_elder' (by exact RS <| HO_6.out) (Kd.R_base ho61) hb)
          have n2_ := Ak (Kd.R_below (by exact RS <| HO126.out) hb)
          have n3_ := Ak (Kd.R_below (by exact RS <| HO136.out) hb)
          have n4_ := Ak (Kd.R_elder' (by exact RS <| HO139.out) (Kd.R_base ho61) hb)
          have n5_ := Ak (Kd.R_lower (Kd.R_new' (Kd.R_new' ho61 (Kd.R_lt (by exact RS <| HO_6.out))) (Kd.R_lt (by exact RS <| HO139.out))) (below_size (by exact eS HB.out)))
          have n6_ := Ak (Kd.C_below (by exact Cs HR120.out) hb)
          have n7_ := Ak (Kd.C_below (by exact Cs HR133.out) hb)
          have n8_ := Ak (Kd.C_below (by exact Cs HR143.out) hb)
          have n9_ := Ak (Kd.C_below (by exact Cs HR156.out) hb)
          have n10_ := Ak (below_step (by exact eS HB.out) hb)
          clear HO_5 HO_6 HO126 HO136 HO139 HR120 HR133 HR143 HR156 HB; have HO_5 := n0_; have HO_6 := n1_; have HO126 := n2_; have HO136 := n3_; have HO139 := n4_; have HO149 := n5_; have HR120 := n6_; have HR133 := n7_; have HR143 := n8_; have HR156 := n9_; have HB := n10_; clear n0_ n1_ n2_ n3_ n4_ n5_ n6_ n7_ n8_ n9_ n10_ hb ho61
          refine hK.out _ _ trivial (fun hHeld => ?_); clear hK K
          refine norm_ (a' := ?_) ?_ ?_; rotate_left; (show Act.put _ (some 101) _ = _; simp only [Z]; rfl)
          refine one_ (i := 4) (N := some 99) #[I,I,I,I,I,I,I,O,I,I,I,O,O] rfl rfl (one_of HT_.out (by kernel_rfl)) (by decide) (fun K hK => ?_)
          refine Kd.R_append_rows_step (Kd.int .i64) (w0 := w) w.heap.size (by rfl) (.tmp 95) (.tmp 98) 25 3 (.int .i64 0) 8 rfl Tryd.underlying25 info3 rfl (by decide) (by omega) v138 y137 y140 _ _ _ (fun k_ => some k_ ≠ (.slice (some ad111) x6_1.length co42 : Value).ownBlock ∧ some k_ ≠ (v148 : Value).ownBlock) (fun _ => False) rfl rfl ?aO ?aR (fun _ _ h => h) (fun _ h => h.elim) ?aF ?aB ?aS ?aL ?_
          (case aR => exact Cs HR143.out)
          (case aB => exact (by exact eS HB.out))
          (case aF => exact (fun k_ hk => ⟨Kd.fresh' (Kd.R_lt (by exact RS <| HO_6.out)) k_ hk, Kd.fresh' (Kd.R_lt (by exact RS <| HO149.out)) k_ hk⟩))
          (case aO => exact (by exact RS <| Kd.R_mono HO139.out (fun _ hk => ⟨hk.1.2, hk.2⟩)))
          (case aS => exact (below_size (by exact eS HB.out)))
          (case aL => have := LMc37.out; omega)
          intro v145 w62 ho hb hg hat
          rw [← Ny144.out] at ho
          have n0_ := Ak (Kd.R_over' (by exact RS <| HO_5.out) (Kd.R_typed (by exact RS <| HO139.out)) (by decide) hg)
          have n1_ := Ak (Kd.R_after (ok := (fun k_ => some k_ ≠ (v148 : Value).ownBlock)) (by exact RS <| Kd.R_mono HO_6.out (fun _ hk => ⟨hk.2, hk.1.2⟩)) hg hat)
          have n2_ := Ak (Kd.R_over' (by exact RS <| HO126.out) (Kd.R_typed (by exact RS <| HO139.out)) (by decide) hg)
          have n3_ := Ak (Kd.R_over' (by exact RS <| HO136.out) (Kd.R_typed (by exact RS <| HO139.out)) (by decide) hg)
          have n4_ := Ak (Kd.R_after (ok := (fun k_ => some k_ ≠ (.slice (some ad111) x6_1.length co42 : Value).ownBlock)) (by exact RS <| Kd.R_mono HO149.out (fun _ hk => ⟨hk.1.2, hk.2⟩)) hg hat)
          have n5_ := Ak (hb)
          have n6_ := Ak ((Ct Kd.string Ny117.out (Kd.R_over' (by exact RS <| HO_5.out) (Kd.R_typed (by exact RS <| HO139.out)) (by decide) hg) KL44.out))
          have n7_ := Ak ((Cd Kd.string Ny130.out KA45.out (Kd.R_over' (by exact RS <| HO_5.out) (Kd.R_typed (by exact RS <| HO139.out)) (by decide) hg) KL45.out))
          have n8_ := Ak ((Ct (Kd.int .i64) Ny140.out (Kd.R_after (ok := (fun k_ => some k_ ≠ (v148 : Value).ownBlock)) (by exact RS <| Kd.R_mono HO_6.out (fun _ hk => ⟨hk.2, hk.1.2⟩)) hg hat) KL56.out))
          have n9_ := Ak ((Cd (Kd.int .i64) Ny153.out KA57.out (Kd.R_after (ok := (fun k_ => some k_ ≠ (v148 : Value).ownBlock)) (by exact RS <| Kd.R_mono HO_6.out (fun _ hk => ⟨hk.2, hk.1.2⟩)) hg hat) KL57.out))
          have n10_ := Ak (ho)
          clear HO_5 HO_6 HO126 HO136 HO149 HB HR120 HR133 HR143 HR156 HO139; have HO_5 := n0_; have HO_6 := n1_; have HO126 := n2_; have HO136 := n3_; have HO149 := n4_; have HB := n5_; have HR120 := n6_; have HR133 := n7_; have HR143 := n8_; have HR156 := n9_; have HO146 := n10_; clear n0_ n1_ n2_ n3_ n4_ n5_ n6_ n7_ n8_ n9_ n10_ ho hb hg hat
          refine hK.out _ _ trivial (fun hHeld => ?_); clear hK K
          refine norm_ (a' := ?_) ?_ ?_; rotate_left; (show Act.put _ (some 99) _ = _; simp only [Z]; rfl)
          exact norm_ (by simp only [putAll, Act.put, List.setIfInBounds_toArray, List.set_cons_zero, List.set_cons_succ]) (hCont (v138, v145, v148) _ ⟨(by exact RS <| Kd.R_mono HO126.out (fun _ hk => ⟨hk.2, hk.1⟩)), (by exact RS <| Kd.R_mono HO136.out (fun _ hk => ⟨hk.2, hk.1⟩)), (by exact RS <| Kd.R_mono HO146.out (fun _ hk => ⟨hk.2, hk.1⟩)), (by exact RS <| Kd.R_mono HO149.out (fun _ hk => ⟨hk.2, hk.1⟩)), (by exact RS <| HO_5.out), (by exact RS <| Kd.R_mono HO_6.out (fun _ hk => ⟨hk.2, hk.1⟩)), (by exact eS HB.out)⟩)
        ·skip
         refine Kd.R_lit_step (Kd.int .i64) _ 3 ?hg (N := 101) ?hd (xs := ([t110] : List Int)) (inner := [.int .i64 t110]) (ok := fun _ => True) (okp := fun _ => True) ?hr ?hp (fun _ hk => hk) trivial (Below.refl _ _) (Nat.le_refl _) (by simp) ?_; (case hd => rfl); (case hg => rfl); (case hr => first | (go_simp; done) | (go_simp; rfl)); (case hp => exact (Reps.one (show Kd.M (Kd.int .i64) _ _ _ t110 [.int .i64 t110] from rfl) (Reps.none _ _)))
         intro v148 w58 ho59 hb hg_ hnew_
         clear hg_ hnew_
         (first | rw [← Ny147.out] at ho59 | (simp only [Int.reduceToNat] at ho59; rw [← Ny147.out] at ho59))
         have n0_ := Ak (Kd.R_below (by exact RS <| HO_5.out) hb)
         have n1_ := Ak (Kd.R_elder' (by exact RS <| HO_6.out) (Kd.R_base ho59) hb)
         have n2_ := Ak (Kd.R_below (by exact RS <| HO126.out) hb)
         have n3_ := Ak (Kd.R_below (by exact RS <| HO136.out) hb)
         have n4_ := Ak (Kd.R_lower (Kd.R_new' ho59 (Kd.R_lt (by exact RS <| HO_6.out))) (below_size (by exact eS HB.out)))
         have n5_ := Ak (Kd.C_below (by exact Cs HR120.out) hb)
         have n6_ := Ak (Kd.C_below (by exact Cs HR133.out) hb)
         have n7_ := Ak (Kd.C_below (by exact Cs HR143.out) hb)
         have n8_ := Ak (Kd.C_below (by exact Cs HR156.out) hb)
         have n9_ := Ak (below_step (by exact eS HB.out) hb)
         clear HO_5 HO_6 HO126 HO136 HR120 HR133 HR143 HR156 HB; have HO_5 := n0_; have HO_6 := n1_; have HO126 := n2_; have HO136 := n3_; have HO149 := n4_; have HR120 := n5_; have HR133 := n6_; have HR143 := n7_; have HR156 := n8_; have HB := n9_; clear n0_ n1_ n2_ n3_ n4_ n5_ n6_ n7_ n8_ n9_ hb ho59
         refine hK.out _ _ trivial (fun hHeld => ?_); clear hK K
         refine norm_ (a' := ?_) ?_ ?_; rotate_left; (show Act.put _ (some 101) _ = _; simp only [Z]; rfl)
         refine one_ (i := 0) (N := some 95) #[I,I,I,I,O,I,I,O,I,I,I,O,O] rfl rfl (one_of HT_.out (by kernel_rfl)) (by decide) (fun K hK => ?_)
         refine Kd.R_lit_step (Kd.int .i64) _ 3 ?hg (N := 95) ?hd (xs := ([] : List Int)) (inner := []) (ok := fun _ => True) (okp := fun _ => True) ?hr ?hp (fun _ hk => hk) trivial (Below.refl _ _) (Nat.le_refl _) (by simp) ?_; (case hd => rfl); (case hg => rfl); (case hr => first | (go_simp; done) | (go_simp; rfl)); (case hp => exact (Reps.none _ _))
         intro v138 w60 ho61 hb hg_ hnew_
         clear hg_ hnew_
         (first | rw [← Ny137.out] at ho61 | (simp only [Int.reduceToNat] at ho61; rw [← Ny137.out] at ho61))
         have n0_ := Ak (Kd.R_below (by exact RS <| HO_5.out) hb)
         have n1_ := Ak (Kd.R_elder' (by exact RS <| HO_6.out) (Kd.R_base ho61) hb)
         have n2_ := Ak (Kd.R_below (by exact RS <| HO126.out) hb)
         have n3_ := Ak (Kd.R_below (by exact RS <| HO136.out) hb)
         have n4_ := Ak (Kd.R_elder' (by exact RS <| HO149.out) (Kd.R_base ho61) hb)
         have n5_ := Ak (Kd.R_lower (Kd.R_new' (Kd.R_new' ho61 (Kd.R_lt (by exact RS <| HO_6.out))) (Kd.R_lt (by exact RS <| HO149.out))) (below_size (by exact eS HB.out)))
         have n6_ := Ak (Kd.C_below (by exact Cs HR120.out) hb)
         have n7_ := Ak (Kd.C_below (by exact Cs HR133.out) hb)
         have n8_ := Ak (Kd.C_below (by exact Cs HR143.out) hb)
         have n9_ := Ak (Kd.C_below (by exact Cs HR156.out) hb)
         have n10_ := Ak (below_step (by exact eS HB.out) hb)
         clear HO_5 HO_6 HO126 HO136 HO149 HR120 HR133 HR143 HR156 HB; have HO_5 := n0_; have HO_6 := n1_; have HO126 := n2_; have HO136 := n3_; have HO149 := n4_; have HO139 := n5_; have HR120 := n6_; have HR133 := n7_; have HR143 := n8_; have HR156 := n9_; have HB := n10_; clear n0_ n1_ n2_ n3_ n4_ n5_ n6_ n7_ n8_ n9_ n10_ hb ho61
         refine hK.out _ _ trivial (fun hHeld => ?_); clear hK K
         refine norm_ (a' := ?_) ?_ ?_; rotate_left; (show Act.put _ (some 95) _ = _; simp only [Z]; rfl)
         refine one_ (i := 4) (N := some 99) #[I,I,I,I,I,I,I,O,I,I,I,O,O] rfl rfl (one_of HT_.out (by kernel_rfl)) (by decide) (fun K hK => ?_)
         refine Kd.R_append_rows_step (Kd.int .i64) (w0 := w) w.heap.size (by rfl) (.tmp 95) (.tmp 98) 25 3 (.int .i64 0) 8 rfl Tryd.underlying25 info3 rfl (by decide) (by omega) v138 y137 y140 _ _ _ (fun k_ => some k_ ≠ (.slice (some ad111) x6_1.length co42 : Value).ownBlock ∧ some k_ ≠ (v148 : Value).ownBlock) (fun _ => False) rfl rfl ?aO ?aR (fun _ _ h => h) (fun _ h => h.elim) ?aF ?aB ?aS ?aL ?_
         (case aR => exact Cs HR143.out)
         (case aB => exact (by exact eS HB.out))
         (case aF => exact (fun k_ hk => ⟨Kd.fresh' (Kd.R_lt (by exact RS <| HO_6.out)) k_ hk, Kd.fresh' (Kd.R_lt (by exact RS <| HO149.out)) k_ hk⟩))
         (case aO => exact (by exact RS <| Kd.R_mono HO139.out (fun _ hk => ⟨hk.1.2, hk.2⟩)))
         (case aS => exact (below_size (by exact eS HB.out)))
         (case aL => have := LMc37.out; omega)
         intro v145 w62 ho hb hg hat
         rw [← Ny144.out] at ho
         have n0_ := Ak (Kd.R_over' (by exact RS <| HO_5.out) (Kd.R_typed (by exact RS <| HO139.out)) (by decide) hg)
         have n1_ := Ak (Kd.R_after (ok := (fun k_ => some k_ ≠ (v148 : Value).ownBlock)) (by exact RS <| Kd.R_mono HO_6.out (fun _ hk => ⟨hk.1.2, hk.2⟩)) hg hat)
         have n2_ := Ak (Kd.R_over' (by exact RS <| HO126.out) (Kd.R_typed (by exact RS <| HO139.out)) (by decide) hg)
         have n3_ := Ak (Kd.R_over' (by exact RS <| HO136.out) (Kd.R_typed (by exact RS <| HO139.out)) (by decide) hg)
         have n4_ := Ak (Kd.R_after (ok := (fun k_ => some k_ ≠ (.slice (some ad111) x6_1.length co42 : Value).ownBlock)) (by exact RS <| Kd.R_mono HO149.out (fun _ hk => ⟨hk.1.2, hk.2⟩)) hg hat)
         have n5_ := Ak (hb)
         have n6_ := Ak ((Ct Kd.string Ny117.out (Kd.R_over' (by exact RS <| HO_5.out) (Kd.R_typed (by exact RS <| HO139.out)) (by decide) hg) KL44.out))
         have n7_ := Ak ((Cd Kd.string Ny130.out KA45.out (Kd.R_over' (by exact RS <| HO_5.out) (Kd.R_typed (by exact RS <| HO139.out)) (by decide) hg) KL45.out))
         have n8_ := Ak ((Ct (Kd.int .i64) Ny140.out (Kd.R_after (ok := (fun k_ => some k_ ≠ (v148 : Value).ownBlock)) (by exact RS <| Kd.R_mono HO_6.out (fun _ hk => ⟨hk.1.2, hk.2⟩)) hg hat) KL56.out))
         have n9_ := Ak ((Cd (Kd.int .i64) Ny153.out KA57.out (Kd.R_after (ok := (fun k_ => some k_ ≠ (v148 : Value).ownBlock)) (by exact RS <| Kd.R_mono HO_6.out (fun _ hk => ⟨hk.1.2, hk.2⟩)) hg hat) KL57.out))
         have n10_ := Ak (ho)
         clear HO_5 HO_6 HO126 HO136 HO149 HB HR120 HR133 HR143 HR156 HO139; have HO_5 := n0_; have HO_6 := n1_; have HO126 := n2_; have HO136 := n3_; have HO149 := n4_; have HB := n5_; have HR120 := n6_; have HR133 := n7_; have HR143 := n8_; have HR156 := n9_; have HO146 := n10_; clear n0_ n1_ n2_ n3_ n4_ n5_ n6_ n7_ n8_ n9_ n10_ ho hb hg hat
         refine hK.out _ _ trivial (fun hHeld => ?_); clear hK K
         refine norm_ (a' := ?_) ?_ ?_; rotate_left; (show Act.put _ (some 99) _ = _; simp only [Z]; rfl)
         exact norm_ (by simp only [putAll, Act.put, List.setIfInBounds_toArray, List.set_cons_zero, List.set_cons_succ]) (hCont (v138, v145, v148) _ ⟨(by exact RS <| Kd.R_mono HO126.out (fun _ hk => ⟨hk.2, hk.1⟩)), (by exact RS <| Kd.R_mono HO136.out (fun _ hk => ⟨hk.2, hk.1⟩)), (by exact RS <| Kd.R_mono HO146.out (fun _ hk => ⟨hk.2, hk.1⟩)), (by exact RS <| Kd.R_mono HO149.out (fun _ hk => ⟨hk.2, hk.1⟩)), (by exact RS <| HO_5.out), (by exact RS <| Kd.R_mono HO_6.out (fun _ hk => ⟨hk.2, hk.1⟩)), (by exact eS HB.out)⟩)
       rintro ⟨v138, v145, v148⟩ w63 ⟨h0_, h1_, h2_, h3_, h4_, h5_, h6_⟩
       have n0_ : Aside0 (Kd.R Kd.string 9 w63 w.heap.size (fun k_ => some k_ ≠ (v135 : Value).ownBlock ∧ some k_ ≠ (.slice (some ad113) x5_1.length co17 : Value).ownBlock) (.slice Ao53 y124.length co53) y124) := ⟨h0_⟩
       have n1_ : Aside0 (Kd.R Kd.string 9 w63 w.heap.size (fun k_ => some k_ ≠ (.slice Ao53 y124.length co53 : Value).ownBlock ∧ some k_ ≠ (.slice (some ad113) x5_1.length co17 : Value).ownBlock) v135 y134) := ⟨h1_⟩
       have n2_ : Aside0 (Kd.R (Kd.int .i64) 3 w63 w.heap.size (fun k_ => some k_ ≠ (v148 : Value).ownBlock ∧ some k_ ≠ (.slice (some ad111) x6_1.length co42 : Value).ownBlock) v145 y144) := ⟨h2_⟩
       have n3_ : Aside0 (Kd.R (Kd.int .i64) 3 w63 w.heap.size (fun k_ => some k_ ≠ (v145 : Value).ownBlock ∧ some k_ ≠ (.slice (some ad111) x6_1.length co42 : Value).ownBlock) v148 y147) := ⟨h3_⟩
       have n4_ : Aside0 (Kd.R Kd.string 9 w63 w.heap.size (fun k_ => some k_ ≠ (.slice Ao53 y124.length co53 : Value).ownBlock ∧ some k_ ≠ (v135 : Value).ownBlock) (.slice (some ad113) x5_1.length co17) x5_1) := ⟨h4_⟩
       have n5_ : Aside0 (Kd.R (Kd.int .i64) 3 w63 w.heap.size (fun k_ => some k_ ≠ (v145 : Value).ownBlock ∧ some k_ ≠ (v148 : Value).ownBlock) (.slice (some ad111) x6_1.length co42) x6_1) := ⟨h5_⟩
       have n6_ : Aside0 (Below w.heap.size w w63) := ⟨h6_⟩
       clear HO_5 HO_6 HO126 HO136 HR120 HR133 HB h0_ h1_ h2_ h3_ h4_ h5_ h6_; have HO126 := n0_; have HO136 := n1_; have HO146 := n2_; have HO149 := n3_; have HO_5 := n4_; have HO_6 := n5_; have HB := n6_; clear n0_ n1_ n2_ n3_ n4_ n5_ n6_
       have hHeld := trivial
       have HR120 := Ak (Ct Kd.string Ny117.out (HO_5.out) KL44.out)
       have HR133 := Ak (Cd Kd.string Ny130.out KA45.out (HO_5.out) KL45.out)
       have HR143 := Ak (Ct (Kd.int .i64) Ny140.out (HO_6.out) KL56.out)
       have HR156 := Ak (Cd (Kd.int .i64) Ny153.out KA57.out (HO_6.out) KL57.out)
       obtain ⟨Ao65, co65, eo65⟩ := Kd.R_slice HO149.out
       (first | subst eo65 | (injection eo65 with f1_ f2_ f3_; have f4_ := f1_.symm; have f5_ := f3_.symm; clear f1_ f2_ f3_; subst f4_; subst f5_))
       refine norm_ (a' := ?_) ?_ ?_
       rotate_left
       ·simp only [putAll, Act.put, List.setIfInBounds_toArray, List.set_cons_zero, List.set_cons_succ]
        rfl
       refine one_ (i := 7) (N := some 102) #[I,I,I,I,I,I,I,I,I,I,I,O,O] rfl rfl (one_of HT_.out (by kernel_rfl)) (by decide) (fun K hK => ?_)
       refine Kd.R_append_rows_step (Kd.int .i64) (w0 := w) w.heap.size (by rfl) (.tmp 99) (.tmp 101) 25 3 (.int .i64 0) 8 rfl Tryd.underlying25 info3 rfl (by decide) (by omega) v145 y144 y147 _ _ _ (fun k_ => some k_ ≠ (.slice (some ad111) x6_1.length co42 : Value).ownBlock ∧ some k_ ≠ (.slice Ao65 y147.length co65 : Value).ownBlock) (fun _ => False) rfl rfl ?aO ?aR (fun _ _ h => h) (fun _ h => h.elim) ?aF ?aB ?aS ?aL ?_
       (case aR => repeat (first | exact (Kd.R_reads' HO149.out).2.2 | (with_reducible refine Kd.C_alloc ?_ _) | (with_reducible refine Kd.C_drewN ?_ _) | (with_reducible refine Kd.C_drew ?_)))
       (case aB => exact (by exact eS HB.out))
       (case aF => exact (fun k_ hk => ⟨Kd.fresh' (Kd.R_lt (by exact RS <| HO_6.out)) k_ hk, Kd.fresh' (Kd.R_lt (by exact RS <| HO149.out)) k_ hk⟩))
       (case aO => exact (by exact RS <| Kd.R_mono HO146.out (fun _ hk => ⟨hk.2, hk.1⟩)))
       (case aS => exact (below_size (by exact eS HB.out)))
       (case aL => have := LMc38.out; omega)
       intro v151 w64 ho hb hg hat
       rw [← Ny150.out] at ho
       have n0_ := Ak (Kd.R_over' (by exact RS <| HO_5.out) (Kd.R_typed (by exact RS <| HO146.out)) (by decide) hg)
       have n1_ := Ak (Kd.R_after (ok := (fun k_ => some k_ ≠ (.slice Ao65 y147.length co65 : Value).ownBlock)) (by exact RS <| Kd.R_mono HO_6.out (fun _ hk => ⟨hk.2, hk.1⟩)) hg hat)
       have n2_ := Ak (Kd.R_over' (by exact RS <| HO126.out) (Kd.R_typed (by exact RS <| HO146.out)) (by decide) hg)
       have n3_ := Ak (Kd.R_over' (by exact RS <| HO136.out) (Kd.R_typed (by exact RS <| HO146.out)) (by decide) hg)
       have n4_ := Ak (Kd.R_after (ok := (fun k_ => some k_ ≠ (.slice (some ad111) x6_1.length co42 : Value).ownBlock)) (by exact RS <| Kd.R_mono HO149.out (fun _ hk => ⟨hk.2, hk.1⟩)) hg hat)
       have n5_ := Ak (hb)
       have n6_ := Ak ((Ct Kd.string Ny117.out (Kd.R_over' (by exact RS <| HO_5.out) (Kd.R_typed (by exact RS <| HO146.out)) (by decide) hg) KL44.out))
       have n7_ := Ak ((Cd Kd.string Ny130.out KA45.out (Kd.R_over' (by exact RS <| HO_5.out) (Kd.R_typed (by exact RS <| HO146.out)) (by decide) hg) KL45.out))
       have n8_ := Ak ((Ct (Kd.int .i64) Ny140.out (Kd.R_after (ok := (fun k_ => some k_ ≠ (.slice Ao65 y147.length co65 : Value).ownBlock)) (by exact RS <| Kd.R_mono HO_6.out (fun _ hk => ⟨hk.2, hk.1⟩)) hg hat) KL56.out))
       have n9_ := Ak ((Cd (Kd.int .i64) Ny153.out KA57.out (Kd.R_after (ok := (fun k_ => some k_ ≠ (.slice Ao65 y147.length co65 : Value).ownBlock)) (by exact RS <| Kd.R_mono HO_6.out (fun _ hk => ⟨hk.2, hk.1⟩)) hg hat) KL57.out))
       have n10_ := Ak (ho)
       clear HO_5 HO_6 HO126 HO136 HO149 HB HR120 HR133 HR143 HR156 HO146; have HO_5 := n0_; have HO_6 := n1_; have HO126 := n2_; have HO136 := n3_; have HO149 := n4_; have HB := n5_; have HR120 := n6_; have HR133 := n7_; have HR143 := n8_; have HR156 := n9_; have HO152 := n10_; clear n0_ n1_ n2_ n3_ n4_ n5_ n6_ n7_ n8_ n9_ n10_ ho hb hg hat
       refine hK.out _ _ trivial (fun hHeld => ?_); clear hK K
       refine norm_ (a' := ?_) ?_ ?_; rotate_left; (show Act.put _ (some 102) _ = _; simp only [Z]; rfl)
       refine one_ (i := 11) (N := some 106) #[I,I,I,I,I,I,I,I,I,I,I,I,O] rfl rfl (one_of HT_.out (by kernel_rfl)) (by decide) (fun K hK => ?_)
       refine Kd.R_append_rows_step (Kd.int .i64) (w0 := w) w.heap.size (by rfl) (.tmp 102) (.tmp 105) 25 3 (.int .i64 0) 8 rfl Tryd.underlying25 info3 rfl (by decide) (by omega) v151 y150 y153 _ _ _ (fun k_ => some k_ ≠ (.slice (some ad111) x6_1.length co42 : Value).ownBlock ∧ some k_ ≠ (.slice Ao65 y147.length co65 : Value).ownBlock) (fun _ => False) rfl rfl ?aO ?aR (fun _ _ h => h) (fun _ h => h.elim) ?aF ?aB ?aS ?aL ?_
       (case aR => exact Cs HR156.out)
       (case aB => exact (by exact eS HB.out))
       (case aF => exact (fun k_ hk => ⟨Kd.fresh' (Kd.R_lt (by exact RS <| HO_6.out)) k_ hk, Kd.fresh' (Kd.R_lt (by exact RS <| HO149.out)) k_ hk⟩))
       (case aO => exact (by exact RS <| HO152.out))
       (case aS => exact (below_size (by exact eS HB.out)))
       (case aL => have := LMc41.out; omega)
       intro v158 w66 ho hb hg hat
       rw [← Ny157.out] at ho
       have n0_ := Ak (Kd.R_over' (by exact RS <| HO_5.out) (Kd.R_typed (by exact RS <| HO152.out)) (by decide) hg)
       have n1_ := Ak (Kd.R_after (ok := (fun k_ => some k_ ≠ (.slice Ao65 y147.length co65 : Value).ownBlock)) (by exact RS <| HO_6.out) hg hat)
       have n2_ := Ak (Kd.R_over' (by exact RS <| HO126.out) (Kd.R_typed (by exact RS <| HO152.out)) (by decide) hg)
       have n3_ := Ak (Kd.R_over' (by exact RS <| HO136.out) (Kd.R_typed (by exact RS <| HO152.out)) (by decide) hg)
       have n4_ := Ak (Kd.R_after (ok := (fun k_ => some k_ ≠ (.slice (some ad111) x6_1.length co42 : Value).ownBlock)) (by exact RS <| HO149.out) hg hat)
       have n5_ := Ak (hb)
       have n6_ := Ak ((Ct Kd.string Ny117.out (Kd.R_over' (by exact RS <| HO_5.out) (Kd.R_typed (by exact RS <| HO152.out)) (by decide) hg) KL44.out))
       have n7_ := Ak ((Cd Kd.string Ny130.out KA45.out (Kd.R_over' (by exact RS <| HO_5.out) (Kd.R_typed (by exact RS <| HO152.out)) (by decide) hg) KL45.out))
       have n8_ := Ak ((Ct (Kd.int .i64) Ny140.out (Kd.R_after (ok := (fun k_ => some k_ ≠ (.slice Ao65 y147.length co65 : Value).ownBlock)) (by exact RS <| HO_6.out) hg hat) KL56.out))
       have n9_ := Ak ((Cd (Kd.int .i64) Ny153.out KA57.out (Kd.R_after (ok := (fun k_ => some k_ ≠ (.slice Ao65 y147.length co65 : Value).ownBlock)) (by exact RS <| HO_6.out) hg hat) KL57.out))
       have n10_ := Ak (ho)
       clear HO_5 HO_6 HO126 HO136 HO149 HB HR120 HR133 HR143 HR156 HO152; have HO_5 := n0_; have HO_6 := n1_; have HO126 := n2_; have HO136 := n3_; have HO149 := n4_; have HB := n5_; have HR120 := n6_; have HR133 := n7_; have HR143 := n8_; have HR156 := n9_; have HO159 := n10_; clear n0_ n1_ n2_ n3_ n4_ n5_ n6_ n7_ n8_ n9_ n10_ ho hb hg hat
       refine hK.out _ _ trivial (fun hHeld => ?_); clear hK K
       refine norm_ (a' := ?_) ?_ ?_; rotate_left; (show Act.put _ (some 106) _ = _; simp only [Z]; rfl)
       refine pure_ (i := 12) (N := some 6) (v := ?_) (a' := ?_) #[I,I,I,I,I,I,I,I,I,I,I,I,I] rfl rfl (any_of HT_.out (by kernel_rfl)) (fun _ _ _ h => h) (Or.inl ⟨by rfl, ?_⟩) ?_ ?_
       rotate_left; (intro w'; go_simp; with_reducible rfl); rotate_left; (simp only [Z]; rfl)
       refine done_ (done_of HT_.out (by kernel_rfl)) ?_
       try go_wp2
       go_roundg k3
       case measure => have := HK1.out; have := HK2.out; have := HK3.out; omega
       case rel => exact ⟨(y134), (y157), (wrap64 (x7_1 + 1)), (by first | rfl | (simp; done) | (simp [*]; done)), H', ⟨by have := HK1.out; have := HK2.out; have := HK3.out; omega⟩, ⟨by exact RS <| Kd.R_mono HO136.out (fun _ hk => trivial)⟩, ⟨by exact RS <| Kd.R_mono HO159.out (fun _ hk => trivial)⟩, ⟨by exact eS HB.out⟩⟩
end Go.Proofs.YtahfahlbdgbfeaaDoor.X
