/- What the law FnOrderBooks needs, part 3 of 5: what each function of the program that it reaches returns (printed by this session's own program, checked by Lean), and plain mathematics about it. Conditions: those of each theorem. -/
import Derived.Test.YtahfahlbdgbfeaaGreatDoorZFnOrderBooks1
import Derived.Deep.CutBlock
namespace Go.Proofs.YtahfahlbdgbfeaaGreatDoor.X
open Ho (bS eS RS Ak Cs Ct Cd)
open Go.RowKit Go.Proofs.YtahfahlbdgbfeaaGreatDoorW.PrintWords Go.Proofs.YtahfahlbdgbfeaaGreatDoorW.PrintLast Go.Proofs.YtahfahlbdgbfeaaGreatDoorW.PrintMore
attribute [local go_sem] max2_int min2_int max_two min_two max_three min_three max_four min_four   -- for this text's walks alone
set_option linter.unusedVariables false
set_option linter.unusedSimpArgs false
open Sq (I O Z Dz)
/-! ### Fm: function 32 -/
def Fm.l0 : Nat → List (S34) → Int → Option (Bool)
  | 0, _, _ => none
  | k + 1, x0, x3 => if x3 < (x0.length : Int) then (if 0 ≤ x3 then ((Fas.f k ((rd_T34 x0 x3).f0) ((rd_T34 x0 x3).f1) ((rd_T34 x0 x3).f2) ((rd_T34 x0 x3).f3) ((rd_T34 x0 x3).f4) ((rd_T34 x0 x3).f5) ((rd_T34 x0 x3).f6) ((rd_T34 x0 x3).f7)).bind fun t102 => (if t102 = true then (if x3 > 0 then (if 0 ≤ (wrap64 (x3 - 1)) then (if (wrap64 (x3 - 1)) < (x0.length : Int) then (if ((rd_T34 x0 (wrap64 (x3 - 1))).f0) ≥ ((rd_T34 x0 x3).f0) then (some false) else (Fm.l0 k x0 (wrap64 (x3 + 1)))) else (none)) else (none)) else (Fm.l0 k x0 (wrap64 (x3 + 1)))) else (some false))) else (none)) else (some (decide ((x0.length : Int) ≤ 10)))
def Fm.f (k : Nat) (l0 : List (S34)) : Option (Bool) := Fm.l0 k l0 0
theorem Fm.mono_l : ∀ k, (∀ y0 y1, LeO (Fm.l0 k y0 y1) (Fm.l0 (k + 1) y0 y1))
  | 0 => fun _ _ r h => by simp [Fm.l0] at h
  | k + 1 => by
    have ih0 := Fm.mono_l k
    · intro y0 y1
      unfold Fm.l0
      repeat' first | (with_reducible first | exact ih0 _ _ | exact Fas.mono _ _ _ _ _ _ _ _ _ | exact LeO.refl _ | exact LeO.none _ | refine LeO.ite ?_ ?_ | refine LeO.bind ?_ (fun _ => ?_)) | exact ih0 _ _ | exact Fas.mono _ _ _ _ _ _ _ _ _ | exact LeO.none _ | refine LeO.ite ?_ ?_ | refine LeO.bind ?_ (fun _ => ?_)
theorem Fm.mono : ∀ a0 k, LeO (Fm.f k a0) (Fm.f (k + 1) a0) := by
  intro a0 k
  have ih0 := Fm.mono_l k
  unfold Fm.f
  repeat' first | (with_reducible first | exact ih0 _ _ | exact Fas.mono _ _ _ _ _ _ _ _ _ | exact LeO.refl _ | exact LeO.none _ | refine LeO.ite ?_ ?_ | refine LeO.bind ?_ (fun _ => ?_)) | exact ih0 _ _ | exact Fas.mono _ _ _ _ _ _ _ _ _ | exact LeO.none _ | refine LeO.ite ?_ ?_ | refine LeO.bind ?_ (fun _ => ?_)
def Fm.T4 : Bool × List (List Nat × List Nat) := (true, [([], []), ([], []), ([0, 1], [0, 1]), ([2], [2]), ([3], [3]), ([4], [4]), ([5, 4], [5]), ([6], [6]), ([7, 6], [6, 7]), ([8, 6, 6], [6, 8]), ([9], [9]), ([9], [9]), ([11, 9], [9, 11]), ([10, 12, 9], [9, 10, 12]), ([13, 9], [9, 13]), ([14, 9], [9, 14]), ([9], [9]), ([9], [9]), ([16, 17, 9], [9, 16, 17]), ([18, 9], [9, 18]), ([19, 9], [9, 19]), ([15, 20, 9], [9, 15, 20]), ([9, 21, 6], [6, 9, 21]), ([6, 22], [6, 22])])
def Fm.B4 : List Nat := [0, 0, 3, 7, 15, 31, 63, 127, 255, 511, 1023, 1023, 3071, 8191, 16383, 32767, 1023, 1023, 197631, 459775, 984063, 2097151, 4194303, 8388607]
theorem Fm.tab4 : rtab .any (opsOf Tryz.f32 4) = Fm.T4 := by kernel_rfl
theorem Fm.bits4 : waitsOk Fm.T4.2 Fm.B4 = true := by kernel_rfl
set_option maxHeartbeats 8000000 in
set_option maxRecDepth 100000 in
theorem Fm.calls (k : Nat) (A0 : Option Addr) (c0 : Nat) (l0 : List (S34)) (r : Bool) (w : World) (hr0 : Kd.C k34 w A0 l0.length l0) (hc0 : l0.length ≤ c0) (h : Fm.f k l0 = some r) :
  Calls Tryz.prog 32 #[.slice A0 l0.length c0] w fun e w' => e = .returned (.bool r) ∧ Below w.heap.size w w' := by
 have hu34 := Tryz.underlying34
 have HR0 := Ak hr0
 have HC0 := Ak hc0
 clear hr0 hc0
 have HB := Ak (Below.refl w.heap.size w)
 have H : (Fm.l0 k l0 0) = some r := h
 clear h
 have H' := Ak H
 clear H
 go_enter Tryz.func32, Tryz.ntmps32
 go_wp2
 go_loopg [3] k (fun kq v3 w' => ∃ (x3_1 : Int), v3 = .int .i64 x3_1 ∧ Aside0 (Fm.l0 kq l0 x3_1 = some r) ∧ Aside0 (kq ≤ k) ∧ Aside0 (Below w.heap.size w w'))
 case atStart => exact ⟨(0), (by first | rfl | (simp; done) | (simp [*]; done)), H', ⟨Nat.le_refl _⟩, ⟨by exact eS HB.out⟩⟩
 case round =>
  clear H'
  obtain ⟨x3_1, rfl, HA, HK1, HB⟩ := hrel
  cases gk with
  | zero => exact absurd HA.out (by simp [Fm.l0])
  | succ k1 =>
   have H := HA.out
   clear HA
   simp only [Fm.l0] at H
   by_cases c2 : x3_1 < (l0.length : Int)
   rotate_left
   ·rw [if_neg c2] at H
    have c2b0 : decide (x3_1 < (l0.length : Int)) = false := decide_eq_false c2
    clear c2
    obtain rfl := Option.some.inj H
    go_wp2
    go_ret
    exact ⟨by first | rfl | (simp [errW_none, errW_some] <;> rfl) | (simp [*, errW_none, errW_some] <;> rfl), by exact eS HB.out⟩
   rw [if_pos c2] at H
   have c2b0 : decide (x3_1 < (l0.length : Int)) = true := decide_eq_true c2
   clear c2
   by_cases c3 : 0 ≤ x3_1
   rotate_left
   ·rw [if_neg c3] at H
    exact absurd H (by simp)
   rw [if_pos c3] at H
   have c3b0 : decide (0 ≤ x3_1) = true := decide_eq_true c3
   clear c3
   replace H := Option.bind_eq_some_iff.mp H
   obtain ⟨t102, A40, H⟩ := H
   (try dsimp only at H)
   have A4 := Ak A40
   clear A40
   by_cases c5 : t102 = true
   rotate_left
   ·replace c5 := Bool.eq_false_iff.mpr c5
    subst c5
    have H1 : (some false) = some r := by rw [if_neg (show ¬ (false = true) by decide)] at H; exact H
    clear H
    have H := H1
    clear H1
    obtain rfl := Option.some.inj H
    try go_wp2
    have n0_ := Ak (below_drew1 HB.out)
    clear HB; have HB := n0_; clear n0_
    have p101 : 0 ≤ (x3_1 : Int) := Dz
    have q101 : x3_1 < (l0.length : Int) := Dz
    obtain ⟨ad101, e101, hx101_0, hx101_1, hx101_2, hx101_3, hx101_4, hx101_5, hx101_6, hx101_7⟩ := at_T34 HR0.out x3_1 p101 q101
    have hw101_7 := hx101_7
    have hw101_6 := hx101_6
    have hw101_5 := hx101_5
    have hw101_4 := hx101_4
    have hw101_3 := hx101_3
    have hw101_2 := hx101_2
    have hw101_1 := hx101_1
    have hw101_0 := hx101_0
    cases e101
    replace hx101_0 := Sq.cB HB.out hx101_0
    replace hx101_1 := Sq.cB HB.out hx101_1
    replace hx101_2 := Sq.cB HB.out hx101_2
    replace hx101_3 := Sq.cB HB.out hx101_3
    replace hx101_4 := Sq.cB HB.out hx101_4
    replace hx101_5 := Sq.cB HB.out hx101_5
    replace hx101_6 := Sq.cB HB.out hx101_6
    replace hx101_7 := Sq.cB HB.out hx101_7
    replace p101 := eq_true p101; replace q101 := eq_true q101
    refine start_ (n := 24) (S := fun w' => w'.cell? (ad101.add ((x3_1).toNat * 8)) = some (.int .i64 ((rd_T34 l0 x3_1).f0)) ∧ w'.cell? ⟨(ad101.add ((x3_1).toNat * 8)).block, (ad101.add ((x3_1).toNat * 8)).off + 1, none⟩ = some (.string ((rd_T34 l0 x3_1).f1)) ∧ w'.cell? ⟨(ad101.add ((x3_1).toNat * 8)).block, (ad101.add ((x3_1).toNat * 8)).off + 2, none⟩ = some (.int .i64 ((rd_T34 l0 x3_1).f2)) ∧ w'.cell? ⟨(ad101.add ((x3_1).toNat * 8)).block, (ad101.add ((x3_1).toNat * 8)).off + 3, none⟩ = some (.int .i64 ((rd_T34 l0 x3_1).f3)) ∧ w'.cell? ⟨(ad101.add ((x3_1).toNat * 8)).block, (ad101.add ((x3_1).toNat * 8)).off + 4, none⟩ = some (.int .i64 ((rd_T34 l0 x3_1).f4)) ∧ w'.cell? ⟨(ad101.add ((x3_1).toNat * 8)).block, (ad101.add ((x3_1).toNat * 8)).off + 5, none⟩ = some (.int .i64 ((rd_T34 l0 x3_1).f5)) ∧ w'.cell? ⟨(ad101.add ((x3_1).toNat * 8)).block, (ad101.add ((x3_1).toNat * 8)).off + 6, none⟩ = some (.int .i64 ((rd_T34 l0 x3_1).f6)) ∧ w'.cell? ⟨(ad101.add ((x3_1).toNat * 8)).block, (ad101.add ((x3_1).toNat * 8)).off + 7, none⟩ = some (.int .i64 ((rd_T34 l0 x3_1).f7))) (ds := []) #[O,O,O,O,O,O,O,O,O,O,O,O,O,O,O,O,O,O,O,O,O,O,O,O] (by kernel_rfl) rfl rfl ⟨(Sq.cB HB.out hw101_0), (Sq.cB HB.out hw101_1), (Sq.cB HB.out hw101_2), (Sq.cB HB.out hw101_3), (Sq.cB HB.out hw101_4), (Sq.cB HB.out hw101_5), (Sq.cB HB.out hw101_6), (Sq.cB HB.out hw101_7)⟩ (fun hHeld => ?_); refine with_tabW Fm.tab4 Fm.bits4 (fun HT_ HW_ => ?_)
    generalize wr.drew = w17 at HB hx101_0 hx101_1 hx101_2 hx101_3 hx101_4 hx101_5 hx101_6 hx101_7 hHeld ⊢
    refine pure_ (i := 0) (N := some 10) (v := ?_) (a' := ?_) #[I,O,O,O,O,O,O,O,O,O,O,O,O,O,O,O,O,O,O,O,O,O,O,O] rfl rfl (any_of HT_.out (by kernel_rfl)) (fun _ _ _ h => h) (Or.inl ⟨by rfl, ?_⟩) ?_ ?_
    rotate_left; (intro w'; go_simp; with_reducible rfl); rotate_left; (simp only [Z]; rfl)
    refine pure_ (i := 1) (N := some 11) (v := ?_) (a' := ?_) #[I,I,O,O,O,O,O,O,O,O,O,O,O,O,O,O,O,O,O,O,O,O,O,O] rfl rfl (any_of HT_.out (by kernel_rfl)) (fun _ _ _ h => h) (Or.inl ⟨by rfl, ?_⟩) ?_ ?_
    rotate_left; (intro w'; go_simp; with_reducible rfl); rotate_left; (simp only [Z]; rfl)
    refine pure_ (i := 2) (N := some 12) (v := ?_) (a' := ?_) #[I,I,I,O,O,O,O,O,O,O,O,O,O,O,O,O,O,O,O,O,O,O,O,O] rfl rfl (any_of HT_.out (by kernel_rfl)) (fun _ _ _ h => h) (Or.inl ⟨by rfl, ?_⟩) ?_ ?_
    rotate_left; (intro w'; go_simp; with_reducible rfl); rotate_left; (simp only [Z]; rfl)
    refine take_ (i := 3) (N := some 13) (v := ?_) (a' := ?_) #[I,I,I,I,O,O,O,O,O,O,O,O,O,O,O,O,O,O,O,O,O,O,O,O] rfl rfl (take_ofW HT_.out HW_.out (by kernel_rfl)) (fun _ _ _ h => h) (Or.inl ⟨by rfl, ?_⟩) hHeld ?_ ?_
    rotate_left; (rintro w' ⟨s0, s1, s2, s3, s4, s5, s6, s7⟩; go_simp; with_reducible rfl); rotate_left; (simp only [Z]; rfl)
    refine one_ (i := 4) (N := some 14) #[I,I,I,I,I,O,O,O,O,O,O,O,O,O,O,O,O,O,O,O,O,O,O,O] rfl rfl (one_of HT_.out (by kernel_rfl)) (by decide) (fun K hK => ?_)
    refine goes_ Tryz.func60 (by kernel_rfl) rfl #[.agg #[.int .i64 ((rd_T34 l0 x3_1).f0), .string ((rd_T34 l0 x3_1).f1), .int .i64 ((rd_T34 l0 x3_1).f2), .int .i64 ((rd_T34 l0 x3_1).f3), .int .i64 ((rd_T34 l0 x3_1).f4), .int .i64 ((rd_T34 l0 x3_1).f5), .int .i64 ((rd_T34 l0 x3_1).f6), .int .i64 ((rd_T34 l0 x3_1).f7)]] (by rfl) rfl rfl (by (try simp only [List.map_toArray, List.map_cons, List.map_nil]); first | done | rfl | (simp only [List.length_drop, List.length_take]; rfl)) ?_
    with_reducible refine (Fas.calls k1 ((rd_T34 l0 x3_1).f0) ((rd_T34 l0 x3_1).f1) ((rd_T34 l0 x3_1).f2) ((rd_T34 l0 x3_1).f3) ((rd_T34 l0 x3_1).f4) ((rd_T34 l0 x3_1).f5) ((rd_T34 l0 x3_1).f6) ((rd_T34 l0 x3_1).f7) false _ A4.out).mono ?_
    rintro e w18 ⟨rfl, hb⟩
    refine ⟨_, rfl, ?_⟩
    have n0_ := Ak (below_step (by exact eS HB.out) hb)
    clear HB; have HB := n0_; clear n0_; (try clear hb); (try clear hb2); (try clear hk); (try clear hi)
    refine hK.out _ _ ⟨(Sq.cB HB.out hw101_0), (Sq.cB HB.out hw101_1), (Sq.cB HB.out hw101_2), (Sq.cB HB.out hw101_3), (Sq.cB HB.out hw101_4), (Sq.cB HB.out hw101_5), (Sq.cB HB.out hw101_6), (Sq.cB HB.out hw101_7)⟩ (fun hHeld => ?_)
    clear hK K
    refine norm_ (a' := ?_) ?_ ?_; rotate_left; (show Act.put _ (some 14) _ = _; simp only [Z]; rfl)
    refine pure_ (i := 5) (N := some 15) (v := ?_) (a' := ?_) #[I,I,I,I,I,I,O,O,O,O,O,O,O,O,O,O,O,O,O,O,O,O,O,O] rfl rfl (any_of HT_.out (by kernel_rfl)) (fun _ _ _ h => h) (Or.inl ⟨by rfl, ?_⟩) ?_ ?_
    rotate_left; (intro w'; go_simp; with_reducible rfl); rotate_left; (simp only [Z]; rfl)
    refine pure_ (i := 6) (N := some 16) (v := ?_) (a' := ?_) #[I,I,I,I,I,I,I,O,O,O,O,O,O,O,O,O,O,O,O,O,O,O,O,O] rfl rfl (any_of HT_.out (by kernel_rfl)) (fun _ _ _ h => h) (Or.inl ⟨by rfl, ?_⟩) ?_ ?_
    rotate_left; (intro w'; go_simp; with_reducible rfl); rotate_left; (simp only [Z]; rfl)
    refine pure_ (i := 7) (N := some 17) (v := undef) (a' := ?_) #[I,I,I,I,I,I,I,I,O,O,O,O,O,O,O,O,O,O,O,O,O,O,O,O] rfl rfl (any_of HT_.out (by kernel_rfl)) (fun _ _ _ h => h) (Or.inr ⟨by rfl, rfl⟩) ?_ ?_
    rotate_left; (simp only [Z]; rfl)
    refine pure_ (i := 8) (N := some 18) (v := undef) (a' := ?_) #[I,I,I,I,I,I,I,I,I,O,O,O,O,O,O,O,O,O,O,O,O,O,O,O] rfl rfl (any_of HT_.out (by kernel_rfl)) (fun _ _ _ h => h) (Or.inr ⟨by rfl, rfl⟩) ?_ ?_
    rotate_left; (simp only [Z]; rfl)
    refine pure_ (i := 9) (N := some 19) (v := undef) (a' := ?_) #[I,I,I,I,I,I,I,I,I,I,O,O,O,O,O,O,O,O,O,O,O,O,O,O] rfl rfl (any_of HT_.out (by kernel_rfl)) (fun _ _ _ h => h) (Or.inr ⟨by rfl, rfl⟩) ?_ ?_
    rotate_left; (simp only [Z]; rfl)
    refine pure_ (i := 10) (N := some 20) (v := undef) (a' := ?_) #[I,I,I,I,I,I,I,I,I,I,I,O,O,O,O,O,O,O,O,O,O,O,O,O] rfl rfl (any_of HT_.out (by kernel_rfl)) (fun _ _ _ h => h) (Or.inr ⟨by rfl, rfl⟩) ?_ ?_
    rotate_left; (simp only [Z]; rfl)
    refine pure_ (i := 11) (N := some 21) (v := undef) (a' := ?_) #[I,I,I,I,I,I,I,I,I,I,I,I,O,O,O,O,O,O,O,O,O,O,O,O] rfl rfl (any_of HT_.out (by kernel_rfl)) (fun _ _ _ h => h) (Or.inr ⟨by rfl, rfl⟩) ?_ ?_
    rotate_left; (simp only [Z]; rfl)
    refine pure_ (i := 12) (N := some 22) (v := undef) (a' := ?_) #[I,I,I,I,I,I,I,I,I,I,I,I,I,O,O,O,O,O,O,O,O,O,O,O] rfl rfl (any_of HT_.out (by kernel_rfl)) (fun _ _ _ h => h) (Or.inr ⟨by rfl, rfl⟩) ?_ ?_
    rotate_left; (simp only [Z]; rfl)
    refine pure_ (i := 13) (N := some 23) (v := undef) (a' := ?_) #[I,I,I,I,I,I,I,I,I,I,I,I,I,I,O,O,O,O,O,O,O,O,O,O] rfl rfl (any_of HT_.out (by kernel_rfl)) (fun _ _ _ h => h) (Or.inr ⟨by rfl, rfl⟩) ?_ ?_
    rotate_left; (simp only [Z]; rfl)
    refine pure_ (i := 14) (N := some 24) (v := undef) (a' := ?_) #[I,I,I,I,I,I,I,I,I,I,I,I,I,I,I,O,O,O,O,O,O,O,O,O] rfl rfl (any_of HT_.out (by kernel_rfl)) (fun _ _ _ h => h) (Or.inr ⟨by rfl, rfl⟩) ?_ ?_
    rotate_left; (simp only [Z]; rfl)
    refine pure_ (i := 15) (N := some 25) (v := undef) (a' := ?_) #[I,I,I,I,I,I,I,I,I,I,I,I,I,I,I,I,O,O,O,O,O,O,O,O] rfl rfl (any_of HT_.out (by kernel_rfl)) (fun _ _ _ h => h) (Or.inr ⟨by rfl, rfl⟩) ?_ ?_
    rotate_left; (simp only [Z]; rfl)
    refine pure_ (i := 16) (N := some 26) (v := undef) (a' := ?_) #[I,I,I,I,I,I,I,I,I,I,I,I,I,I,I,I,I,O,O,O,O,O,O,O] rfl rfl (any_of HT_.out (by kernel_rfl)) (fun _ _ _ h => h) (Or.inr ⟨by rfl, rfl⟩) ?_ ?_
    rotate_left; (simp only [Z]; rfl)
    refine pure_ (i := 17) (N := some 27) (v := undef) (a' := ?_) #[I,I,I,I,I,I,I,I,I,I,I,I,I,I,I,I,I,I,O,O,O,O,O,O] rfl rfl (any_of HT_.out (by kernel_rfl)) (fun _ _ _ h => h) (Or.inr ⟨by rfl, rfl⟩) ?_ ?_
    rotate_left; (simp only [Z]; rfl)
    refine pure_ (i := 18) (N := some 28) (v := undef) (a' := ?_) #[I,I,I,I,I,I,I,I,I,I,I,I,I,I,I,I,I,I,I,O,O,O,O,O] rfl rfl (any_of HT_.out (by kernel_rfl)) (fun _ _ _ h => h) (Or.inr ⟨by rfl, rfl⟩) ?_ ?_
    rotate_left; (simp only [Z]; rfl)
    refine pure_ (i := 19) (N := some 29) (v := undef) (a' := ?_) #[I,I,I,I,I,I,I,I,I,I,I,I,I,I,I,I,I,I,I,I,O,O,O,O] rfl rfl (any_of HT_.out (by kernel_rfl)) (fun _ _ _ h => h) (Or.inr ⟨by rfl, rfl⟩) ?_ ?_
    rotate_left; (simp only [Z]; rfl)
    refine pure_ (i := 20) (N := some 30) (v := undef) (a' := ?_) #[I,I,I,I,I,I,I,I,I,I,I,I,I,I,I,I,I,I,I,I,I,O,O,O] rfl rfl (any_of HT_.out (by kernel_rfl)) (fun _ _ _ h => h) (Or.inr ⟨by rfl, rfl⟩) ?_ ?_
    rotate_left; (simp only [Z]; rfl)
    refine pure_ (i := 21) (N := some 31) (v := undef) (a' := ?_) #[I,I,I,I,I,I,I,I,I,I,I,I,I,I,I,I,I,I,I,I,I,I,O,O] rfl rfl (any_of HT_.out (by kernel_rfl)) (fun _ _ _ h => h) (Or.inr ⟨by rfl, rfl⟩) ?_ ?_
    rotate_left; (simp only [Z]; rfl)
    refine pure_ (i := 22) (N := some 32) (v := undef) (a' := ?_) #[I,I,I,I,I,I,I,I,I,I,I,I,I,I,I,I,I,I,I,I,I,I,I,O] rfl rfl (any_of HT_.out (by kernel_rfl)) (fun _ _ _ h => h) (Or.inr ⟨by rfl, rfl⟩) ?_ ?_
    rotate_left; (simp only [Z]; rfl)
    refine pure_ (i := 23) (N := some 33) (v := ?_) (a' := ?_) #[I,I,I,I,I,I,I,I,I,I,I,I,I,I,I,I,I,I,I,I,I,I,I,I] rfl rfl (any_of HT_.out (by kernel_rfl)) (fun _ _ _ h => h) (Or.inl ⟨by rfl, ?_⟩) ?_ ?_
    rotate_left; (intro w'; go_simp; with_reducible rfl); rotate_left; (simp only [Z]; rfl)
    refine done_ (done_of HT_.out (by kernel_rfl)) ?_
    try go_wp2
    go_ret
    exact ⟨by first | rfl | (simp [errW_none, errW_some] <;> rfl) | (simp [*, errW_none, errW_some] <;> rfl), by exact eS HB.out⟩
   subst c5
   have H1 : (if x3_1 > 0 then (if 0 ≤ (wrap64 (x3_1 - 1)) then (if (wrap64 (x3_1 - 1)) < (l0.length : Int) then (if ((rd_T34 l0 (wrap64 (x3_1 - 1))).f0) ≥ ((rd_T34 l0 x3_1).f0) then (some false) else (Fm.l0 k1 l0 (wrap64 (x3_1 + 1)))) else (none)) else (none)) else (Fm.l0 k1 l0 (wrap64 (x3_1 + 1)))) = some r := by rw [if_pos rfl] at H; exact H
   clear H
   have H := H1
   clear H1
   by_cases c6 : x3_1 > 0
   rotate_left
   ·rw [if_neg c6] at H
    have c6b0 : decide (0 < x3_1) = false := decide_eq_false c6
    clear c6
    have H' := Ak H
    clear H
    try go_wp2
    have n0_ := Ak (below_drew1 HB.out)
    clear HB; have HB := n0_; clear n0_
    have p101 : 0 ≤ (x3_1 : Int) := Dz
    have q101 : x3_1 < (l0.length : Int) := Dz
    obtain ⟨ad101, e101, hx101_0, hx101_1, hx101_2, hx101_3, hx101_4, hx101_5, hx101_6, hx101_7⟩ := at_T34 HR0.out x3_1 p101 q101
    have hw101_7 := hx101_7
    have hw101_6 := hx101_6
    have hw101_5 := hx101_5
    have hw101_4 := hx101_4
    have hw101_3 := hx101_3
    have hw101_2 := hx101_2
    have hw101_1 := hx101_1
    have hw101_0 := hx101_0
    cases e101
    replace hx101_0 := Sq.cB HB.out hx101_0
    replace hx101_1 := Sq.cB HB.out hx101_1
    replace hx101_2 := Sq.cB HB.out hx101_2
    replace hx101_3 := Sq.cB HB.out hx101_3
    replace hx101_4 := Sq.cB HB.out hx101_4
    replace hx101_5 := Sq.cB HB.out hx101_5
    replace hx101_6 := Sq.cB HB.out hx101_6
    replace hx101_7 := Sq.cB HB.out hx101_7
    replace p101 := eq_true p101; replace q101 := eq_true q101
    refine start_ (n := 24) (S := fun w' => w'.cell? (ad101.add ((x3_1).toNat * 8)) = some (.int .i64 ((rd_T34 l0 x3_1).f0)) ∧ w'.cell? ⟨(ad101.add ((x3_1).toNat * 8)).block, (ad101.add ((x3_1).toNat * 8)).off + 1, none⟩ = some (.string ((rd_T34 l0 x3_1).f1)) ∧ w'.cell? ⟨(ad101.add ((x3_1).toNat * 8)).block, (ad101.add ((x3_1).toNat * 8)).off + 2, none⟩ = some (.int .i64 ((rd_T34 l0 x3_1).f2)) ∧ w'.cell? ⟨(ad101.add ((x3_1).toNat * 8)).block, (ad101.add ((x3_1).toNat * 8)).off + 3, none⟩ = some (.int .i64 ((rd_T34 l0 x3_1).f3)) ∧ w'.cell? ⟨(ad101.add ((x3_1).toNat * 8)).block, (ad101.add ((x3_1).toNat * 8)).off + 4, none⟩ = some (.int .i64 ((rd_T34 l0 x3_1).f4)) ∧ w'.cell? ⟨(ad101.add ((x3_1).toNat * 8)).block, (ad101.add ((x3_1).toNat * 8)).off + 5, none⟩ = some (.int .i64 ((rd_T34 l0 x3_1).f5)) ∧ w'.cell? ⟨(ad101.add ((x3_1).toNat * 8)).block, (ad101.add ((x3_1).toNat * 8)).off + 6, none⟩ = some (.int .i64 ((rd_T34 l0 x3_1).f6)) ∧ w'.cell? ⟨(ad101.add ((x3_1).toNat * 8)).block, (ad101.add ((x3_1).toNat * 8)).off + 7, none⟩ = some (.int .i64 ((rd_T34 l0 x3_1).f7))) (ds := []) #[O,O,O,O,O,O,O,O,O,O,O,O,O,O,O,O,O,O,O,O,O,O,O,O] (by kernel_rfl) rfl rfl ⟨(Sq.cB HB.out hw101_0), (Sq.cB HB.out hw101_1), (Sq.cB HB.out hw101_2), (Sq.cB HB.out hw101_3), (Sq.cB HB.out hw101_4), (Sq.cB HB.out hw101_5), (Sq.cB HB.out hw101_6), (Sq.cB HB.out hw101_7)⟩ (fun hHeld => ?_); refine with_tabW Fm.tab4 Fm.bits4 (fun HT_ HW_ => ?_)
    generalize wr.drew = w15 at HB hx101_0 hx101_1 hx101_2 hx101_3 hx101_4 hx101_5 hx101_6 hx101_7 hHeld ⊢
    refine pure_ (i := 0) (N := some 10) (v := ?_) (a' := ?_) #[I,O,O,O,O,O,O,O,O,O,O,O,O,O,O,O,O,O,O,O,O,O,O,O] rfl rfl (any_of HT_.out (by kernel_rfl)) (fun _ _ _ h => h) (Or.inl ⟨by rfl, ?_⟩) ?_ ?_
    rotate_left; (intro w'; go_simp; with_reducible rfl); rotate_left; (simp only [Z]; rfl)
    refine pure_ (i := 1) (N := some 11) (v := ?_) (a' := ?_) #[I,I,O,O,O,O,O,O,O,O,O,O,O,O,O,O,O,O,O,O,O,O,O,O] rfl rfl (any_of HT_.out (by kernel_rfl)) (fun _ _ _ h => h) (Or.inl ⟨by rfl, ?_⟩) ?_ ?_
    rotate_left; (intro w'; go_simp; with_reducible rfl); rotate_left; (simp only [Z]; rfl)
    refine pure_ (i := 2) (N := some 12) (v := ?_) (a' := ?_) #[I,I,I,O,O,O,O,O,O,O,O,O,O,O,O,O,O,O,O,O,O,O,O,O] rfl rfl (any_of HT_.out (by kernel_rfl)) (fun _ _ _ h => h) (Or.inl ⟨by rfl, ?_⟩) ?_ ?_
    rotate_left; (intro w'; go_simp; with_reducible rfl); rotate_left; (simp only [Z]; rfl)
    refine take_ (i := 3) (N := some 13) (v := ?_) (a' := ?_) #[I,I,I,I,O,O,O,O,O,O,O,O,O,O,O,O,O,O,O,O,O,O,O,O] rfl rfl (take_ofW HT_.out HW_.out (by kernel_rfl)) (fun _ _ _ h => h) (Or.inl ⟨by rfl, ?_⟩) hHeld ?_ ?_
    rotate_left; (rintro w' ⟨s0, s1, s2, s3, s4, s5, s6, s7⟩; go_simp; with_reducible rfl); rotate_left; (simp only [Z]; rfl)
    refine one_ (i := 4) (N := some 14) #[I,I,I,I,I,O,O,O,O,O,O,O,O,O,O,O,O,O,O,O,O,O,O,O] rfl rfl (one_of HT_.out (by kernel_rfl)) (by decide) (fun K hK => ?_)
    refine goes_ Tryz.func60 (by kernel_rfl) rfl #[.agg #[.int .i64 ((rd_T34 l0 x3_1).f0), .string ((rd_T34 l0 x3_1).f1), .int .i64 ((rd_T34 l0 x3_1).f2), .int .i64 ((rd_T34 l0 x3_1).f3), .int .i64 ((rd_T34 l0 x3_1).f4), .int .i64 ((rd_T34 l0 x3_1).f5), .int .i64 ((rd_T34 l0 x3_1).f6), .int .i64 ((rd_T34 l0 x3_1).f7)]] (by rfl) rfl rfl (by (try simp only [List.map_toArray, List.map_cons, List.map_nil]); first | done | rfl | (simp only [List.length_drop, List.length_take]; rfl)) ?_
    with_reducible refine (Fas.calls k1 ((rd_T34 l0 x3_1).f0) ((rd_T34 l0 x3_1).f1) ((rd_T34 l0 x3_1).f2) ((rd_T34 l0 x3_1).f3) ((rd_T34 l0 x3_1).f4) ((rd_T34 l0 x3_1).f5) ((rd_T34 l0 x3_1).f6) ((rd_T34 l0 x3_1).f7) true _ A4.out).mono ?_
    rintro e w16 ⟨rfl, hb⟩
    refine ⟨_, rfl, ?_⟩
    have n0_ := Ak (below_step (by exact eS HB.out) hb)
    clear HB; have HB := n0_; clear n0_; (try clear hb); (try clear hb2); (try clear hk); (try clear hi)
    refine hK.out _ _ ⟨(Sq.cB HB.out hw101_0), (Sq.cB HB.out hw101_1), (Sq.cB HB.out hw101_2), (Sq.cB HB.out hw101_3), (Sq.cB HB.out hw101_4), (Sq.cB HB.out hw101_5), (Sq.cB HB.out hw101_6), (Sq.cB HB.out hw101_7)⟩ (fun hHeld => ?_)
    clear hK K
    refine norm_ (a' := ?_) ?_ ?_; rotate_left; (show Act.put _ (some 14) _ = _; simp only [Z]; rfl)
    refine pure_ (i := 5) (N := some 15) (v := ?_) (a' := ?_) #[I,I,I,I,I,I,O,O,O,O,O,O,O,O,O,O,O,O,O,O,O,O,O,O] rfl rfl (any_of HT_.out (by kernel_rfl)) (fun _ _ _ h => h) (Or.inl ⟨by rfl, ?_⟩) ?_ ?_
    rotate_left; (intro w'; go_simp; with_reducible rfl); rotate_left; (simp only [Z]; rfl)
    refine pure_ (i := 6) (N := some 16) (v := ?_) (a' := ?_) #[I,I,I,I,I,I,I,O,O,O,O,O,O,O,O,O,O,O,O,O,O,O,O,O] rfl rfl (any_of HT_.out (by kernel_rfl)) (fun _ _ _ h => h) (Or.inl ⟨by rfl, ?_⟩) ?_ ?_
    rotate_left; (intro w'; go_simp; with_reducible rfl); rotate_left; (simp only [Z]; rfl)
    refine pure_ (i := 7) (N := some 17) (v := ?_) (a' := ?_) #[I,I,I,I,I,I,I,I,O,O,O,O,O,O,O,O,O,O,O,O,O,O,O,O] rfl rfl (any_of HT_.out (by kernel_rfl)) (fun _ _ _ h => h) (Or.inl ⟨by rfl, ?_⟩) ?_ ?_
    rotate_left; (intro w'; go_simp; with_reducible rfl); rotate_left; (simp only [Z]; rfl)
    refine pure_ (i := 8) (N := some 18) (v := ?_) (a' := ?_) #[I,I,I,I,I,I,I,I,I,O,O,O,O,O,O,O,O,O,O,O,O,O,O,O] rfl rfl (any_of HT_.out (by kernel_rfl)) (fun _ _ _ h => h) (Or.inl ⟨by rfl, ?_⟩) ?_ ?_
    rotate_left; (intro w'; go_simp; with_reducible rfl); rotate_left; (simp only [Z]; rfl)
    refine pure_ (i := 9) (N := some 19) (v := ?_) (a' := ?_) #[I,I,I,I,I,I,I,I,I,I,O,O,O,O,O,O,O,O,O,O,O,O,O,O] rfl rfl (any_of HT_.out (by kernel_rfl)) (fun _ _ _ h => h) (Or.inl ⟨by rfl, ?_⟩) ?_ ?_
    rotate_left; (intro w'; go_simp; with_reducible rfl); rotate_left; (simp only [Z]; rfl)
    refine pure_ (i := 10) (N := some 20) (v := undef) (a' := ?_) #[I,I,I,I,I,I,I,I,I,I,I,O,O,O,O,O,O,O,O,O,O,O,O,O] rfl rfl (any_of HT_.out (by kernel_rfl)) (fun _ _ _ h => h) (Or.inr ⟨by rfl, rfl⟩) ?_ ?_
    rotate_left; (simp only [Z]; rfl)
    refine pure_ (i := 11) (N := some 21) (v := undef) (a' := ?_) #[I,I,I,I,I,I,I,I,I,I,I,I,O,O,O,O,O,O,O,O,O,O,O,O] rfl rfl (any_of HT_.out (by kernel_rfl)) (fun _ _ _ h => h) (Or.inr ⟨by rfl, rfl⟩) ?_ ?_
    rotate_left; (simp only [Z]; rfl)
    refine pure_ (i := 12) (N := some 22) (v := undef) (a' := ?_) #[I,I,I,I,I,I,I,I,I,I,I,I,I,O,O,O,O,O,O,O,O,O,O,O] rfl rfl (any_of HT_.out (by kernel_rfl)) (fun _ _ _ h => h) (Or.inr ⟨by rfl, rfl⟩) ?_ ?_
    rotate_left; (simp only [Z]; rfl)
    refine pure_ (i := 13) (N := some 23) (v := undef) (a' := ?_) #[I,I,I,I,I,I,I,I,I,I,I,I,I,I,O,O,O,O,O,O,O,O,O,O] rfl rfl (any_of HT_.out (by kernel_rfl)) (fun _ _ _ h => h) (Or.inr ⟨by rfl, rfl⟩) ?_ ?_
    rotate_left; (simp only [Z]; rfl)
    refine pure_ (i := 14) (N := some 24) (v := undef) (a' := ?_) #[I,I,I,I,I,I,I,I,I,I,I,I,I,I,I,O,O,O,O,O,O,O,O,O] rfl rfl (any_of HT_.out (by kernel_rfl)) (fun _ _ _ h => h) (Or.inr ⟨by rfl, rfl⟩) ?_ ?_
    rotate_left; (simp only [Z]; rfl)
    refine pure_ (i := 15) (N := some 25) (v := undef) (a' := ?_) #[I,I,I,I,I,I,I,I,I,I,I,I,I,I,I,I,O,O,O,O,O,O,O,O] rfl rfl (any_of HT_.out (by kernel_rfl)) (fun _ _ _ h => h) (Or.inr ⟨by rfl, rfl⟩) ?_ ?_
    rotate_left; (simp only [Z]; rfl)
    refine pure_ (i := 16) (N := some 26) (v := undef) (a' := ?_) #[I,I,I,I,I,I,I,I,I,I,I,I,I,I,I,I,I,O,O,O,O,O,O,O] rfl rfl (any_of HT_.out (by kernel_rfl)) (fun _ _ _ h => h) (Or.inr ⟨by rfl, rfl⟩) ?_ ?_
    rotate_left; (simp only [Z]; rfl)
    refine pure_ (i := 17) (N := some 27) (v := undef) (a' := ?_) #[I,I,I,I,I,I,I,I,I,I,I,I,I,I,I,I,I,I,O,O,O,O,O,O] rfl rfl (any_of HT_.out (by kernel_rfl)) (fun _ _ _ h => h) (Or.inr ⟨by rfl, rfl⟩) ?_ ?_
    rotate_left; (simp only [Z]; rfl)
    refine pure_ (i := 18) (N := some 28) (v := undef) (a' := ?_) #[I,I,I,I,I,I,I,I,I,I,I,I,I,I,I,I,I,I,I,O,O,O,O,O] rfl rfl (any_of HT_.out (by kernel_rfl)) (fun _ _ _ h => h) (Or.inr ⟨by rfl, rfl⟩) ?_ ?_
    rotate_left; (simp only [Z]; rfl)
    refine pure_ (i := 19) (N := some 29) (v := undef) (a' := ?_) #[I,I,I,I,I,I,I,I,I,I,I,I,I,I,I,I,I,I,I,I,O,O,O,O] rfl rfl (any_of HT_.out (by kernel_rfl)) (fun _ _ _ h => h) (Or.inr ⟨by rfl, rfl⟩) ?_ ?_
    rotate_left; (simp only [Z]; rfl)
    refine pure_ (i := 20) (N := some 30) (v := undef) (a' := ?_) #[I,I,I,I,I,I,I,I,I,I,I,I,I,I,I,I,I,I,I,I,I,O,O,O] rfl rfl (any_of HT_.out (by kernel_rfl)) (fun _ _ _ h => h) (Or.inr ⟨by rfl, rfl⟩) ?_ ?_
    rotate_left; (simp only [Z]; rfl)
    refine pure_ (i := 21) (N := some 31) (v := undef) (a' := ?_) #[I,I,I,I,I,I,I,I,I,I,I,I,I,I,I,I,I,I,I,I,I,I,O,O] rfl rfl (any_of HT_.out (by kernel_rfl)) (fun _ _ _ h => h) (Or.inr ⟨by rfl, rfl⟩) ?_ ?_
    rotate_left; (simp only [Z]; rfl)
    refine pure_ (i := 22) (N := some 32) (v := ?_) (a' := ?_) #[I,I,I,I,I,I,I,I,I,I,I,I,I,I,I,I,I,I,I,I,I,I,I,O] rfl rfl (any_of HT_.out (by kernel_rfl)) (fun _ _ _ h => h) (Or.inl ⟨by rfl, ?_⟩) ?_ ?_
    rotate_left; (intro w'; go_simp; with_reducible rfl); rotate_left; (simp only [Z]; rfl)
    refine pure_ (i := 23) (N := some 33) (v := ?_) (a' := ?_) #[I,I,I,I,I,I,I,I,I,I,I,I,I,I,I,I,I,I,I,I,I,I,I,I] rfl rfl (any_of HT_.out (by kernel_rfl)) (fun _ _ _ h => h) (Or.inl ⟨by rfl, ?_⟩) ?_ ?_
    rotate_left; (intro w'; go_simp; with_reducible rfl); rotate_left; (simp only [Z]; rfl)
    refine done_ (done_of HT_.out (by kernel_rfl)) ?_
    try go_wp2
    go_roundg k1
    case measure => have := HK1.out; omega
    case rel => exact ⟨(wrap64 (x3_1 + 1)), (by first | rfl | (simp; done) | (simp [*]; done)), H', ⟨by have := HK1.out; omega⟩, ⟨by exact eS HB.out⟩⟩
   rw [if_pos c6] at H
   have c6b0 : decide (0 < x3_1) = true := decide_eq_true c6
   clear c6
   obtain ⟨ji7, hji7⟩ : ∃ j_ : Int, (wrap64 (x3_1 - 1)) = j_ := ⟨_, rfl⟩
   replace H : (if 0 ≤ (ji7) then (if (ji7) < (l0.length : Int) then (if ((rd_T34 l0 (ji7)).f0) ≥ ((rd_T34 l0 x3_1).f0) then (some false) else (Fm.l0 k1 l0 (wrap64 (x3_1 + 1)))) else (none)) else (none)) = some r := by first | (rw [hji7] at H; exact H) | (simp only [hji7] at H ⊢; exact H)
   (try rw [hji7] at A4)
   have hji7w : (IntKind.i64.wrap (x3_1 - 1)) = ji7 := (i64_w _).trans hji7
   by_cases c8 : 0 ≤ (ji7)
   rotate_left
   ·rw [if_neg c8] at H
    exact absurd H (by simp)
   rw [if_pos c8] at H
   have c8b0 : decide (0 ≤ (ji7)) = true := decide_eq_true c8
   clear c8
   by_cases c9 : (ji7) < (l0.length : Int)
   rotate_left
   ·rw [if_neg c9] at H
    exact absurd H (by simp)
   rw [if_pos c9] at H
   have c9b0 : decide ((ji7) < (l0.length : Int)) = true := decide_eq_true c9
   clear c9
   by_cases c10 : ((rd_T34 l0 (ji7)).f0) ≥ ((rd_T34 l0 x3_1).f0)
   ·rw [if_pos c10] at H
    have c10b0 : decide (((rd_T34 l0 x3_1).f0) ≤ ((rd_T34 l0 (ji7)).f0)) = true := decide_eq_true c10
    clear c10
    obtain rfl := Option.some.inj H
    try go_wp2
    have n0_ := Ak (below_drew1 HB.out)
    clear HB; have HB := n0_; clear n0_
    have p101 : 0 ≤ (x3_1 : Int) := Dz
    have q101 : x3_1 < (l0.length : Int) := Dz
    obtain ⟨ad101, e101, hx101_0, hx101_1, hx101_2, hx101_3, hx101_4, hx101_5, hx101_6, hx101_7⟩ := at_T34 HR0.out x3_1 p101 q101
    have hw101_7 := hx101_7
    have hw101_6 := hx101_6
    have hw101_5 := hx101_5
    have hw101_4 := hx101_4
    have hw101_3 := hx101_3
    have hw101_2 := hx101_2
    have hw101_1 := hx101_1
    have hw101_0 := hx101_0
    cases e101
    replace hx101_0 := Sq.cB HB.out hx101_0
    replace hx101_1 := Sq.cB HB.out hx101_1
    replace hx101_2 := Sq.cB HB.out hx101_2
    replace hx101_3 := Sq.cB HB.out hx101_3
    replace hx101_4 := Sq.cB HB.out hx101_4
    replace hx101_5 := Sq.cB HB.out hx101_5
    replace hx101_6 := Sq.cB HB.out hx101_6
    replace hx101_7 := Sq.cB HB.out hx101_7
    replace p101 := eq_true p101; replace q101 := eq_true q101
    have p103 : 0 ≤ ((ji7) : Int) := Dz
    have q103 : (ji7) < (l0.length : Int) := Dz
    obtain ⟨ad103, e103, hx103_0, hx103_1, hx103_2, hx103_3, hx103_4, hx103_5, hx103_6, hx103_7⟩ := at_T34 HR0.out (ji7) p103 q103
    have hw103_7 := hx103_7
    have hw103_6 := hx103_6
    have hw103_5 := hx103_5
    have hw103_4 := hx103_4
    have hw103_3 := hx103_3
    have hw103_2 := hx103_2
    have hw103_1 := hx103_1
    have hw103_0 := hx103_0
    obtain rfl : ad101 = ad103 := (by injection e103)
    replace hx103_0 := Sq.cB HB.out hx103_0
    replace hx103_1 := Sq.cB HB.out hx103_1
    replace hx103_2 := Sq.cB HB.out hx103_2
    replace hx103_3 := Sq.cB HB.out hx103_3
    replace hx103_4 := Sq.cB HB.out hx103_4
    replace hx103_5 := Sq.cB HB.out hx103_5
    replace hx103_6 := Sq.cB HB.out hx103_6
    replace hx103_7 := Sq.cB HB.out hx103_7
    replace p103 := eq_true p103; replace q103 := eq_true q103
    have p104 : 0 ≤ (x3_1 : Int) := Dz
    have q104 : x3_1 < (l0.length : Int) := Dz
    obtain ⟨ad104, e104, hx104_0, hx104_1, hx104_2, hx104_3, hx104_4, hx104_5, hx104_6, hx104_7⟩ := at_T34 HR0.out x3_1 p104 q104
    have hw104_7 := hx104_7
    have hw104_6 := hx104_6
    have hw104_5 := hx104_5
    have hw104_4 := hx104_4
    have hw104_3 := hx104_3
    have hw104_2 := hx104_2
    have hw104_1 := hx104_1
    have hw104_0 := hx104_0
    obtain rfl : ad101 = ad104 := (by injection e104)
    replace hx104_0 := Sq.cB HB.out hx104_0
    replace hx104_1 := Sq.cB HB.out hx104_1
    replace hx104_2 := Sq.cB HB.out hx104_2
    replace hx104_3 := Sq.cB HB.out hx104_3
    replace hx104_4 := Sq.cB HB.out hx104_4
    replace hx104_5 := Sq.cB HB.out hx104_5
    replace hx104_6 := Sq.cB HB.out hx104_6
    replace hx104_7 := Sq.cB HB.out hx104_7
    replace p104 := eq_true p104; replace q104 := eq_true q104
    refine start_ (n := 24) (S := fun w' => w'.cell? (ad101.add ((x3_1).toNat * 8)) = some (.int .i64 ((rd_T34 l0 x3_1).f0)) ∧ w'.cell? ⟨(ad101.add ((x3_1).toNat * 8)).block, (ad101.add ((x3_1).toNat * 8)).off + 1, none⟩ = some (.string ((rd_T34 l0 x3_1).f1)) ∧ w'.cell? ⟨(ad101.add ((x3_1).toNat * 8)).block, (ad101.add ((x3_1).toNat * 8)).off + 2, none⟩ = some (.int .i64 ((rd_T34 l0 x3_1).f2)) ∧ w'.cell? ⟨(ad101.add ((x3_1).toNat * 8)).block, (ad101.add ((x3_1).toNat * 8)).off + 3, none⟩ = some (.int .i64 ((rd_T34 l0 x3_1).f3)) ∧ w'.cell? ⟨(ad101.add ((x3_1).toNat * 8)).block, (ad101.add ((x3_1).toNat * 8)).off + 4, none⟩ = some (.int .i64 ((rd_T34 l0 x3_1).f4)) ∧ w'.cell? ⟨(ad101.add ((x3_1).toNat * 8)).block, (ad101.add ((x3_1).toNat * 8)).off + 5, none⟩ = some (.int .i64 ((rd_T34 l0 x3_1).f5)) ∧ w'.cell? ⟨(ad101.add ((x3_1).toNat * 8)).block, (ad101.add ((x3_1).toNat * 8)).off + 6, none⟩ = some (.int .i64 ((rd_T34 l0 x3_1).f6)) ∧ w'.cell? ⟨(ad101.add ((x3_1).toNat * 8)).block, (ad101.add ((x3_1).toNat * 8)).off + 7, none⟩ = some (.int .i64 ((rd_T34 l0 x3_1).f7)) ∧ w'.cell? (ad101.add (((ji7)).toNat * 8)) = some (.int .i64 ((rd_T34 l0 (ji7)).f0)) ∧ w'.cell? ⟨(ad101.add (((ji7)).toNat * 8)).block, (ad101.add (((ji7)).toNat * 8)).off + 1, none⟩ = some (.string ((rd_T34 l0 (ji7)).f1)) ∧ w'.cell? ⟨(ad101.add (((ji7)).toNat * 8)).block, (ad101.add (((ji7)).toNat * 8)).off + 2, none⟩ = some (.int .i64 ((rd_T34 l0 (ji7)).f2)) ∧ w'.cell? ⟨(ad101.add (((ji7)).toNat * 8)).block, (ad101.add (((ji7)).toNat * 8)).off + 3, none⟩ = some (.int .i64 ((rd_T34 l0 (ji7)).f3)) ∧ w'.cell? ⟨(ad101.add (((ji7)).toNat * 8)).block, (ad101.add (((ji7)).toNat * 8)).off + 4, none⟩ = some (.int .i64 ((rd_T34 l0 (ji7)).f4)) ∧ w'.cell? ⟨(ad101.add (((ji7)).toNat * 8)).block, (ad101.add (((ji7)).toNat * 8)).off + 5, none⟩ = some (.int .i64 ((rd_T34 l0 (ji7)).f5)) ∧ w'.cell? ⟨(ad101.add (((ji7)).toNat * 8)).block, (ad101.add (((ji7)).toNat * 8)).off + 6, none⟩ = some (.int .i64 ((rd_T34 l0 (ji7)).f6)) ∧ w'.cell? ⟨(ad101.add (((ji7)).toNat * 8)).block, (ad101.add (((ji7)).toNat * 8)).off + 7, none⟩ = some (.int .i64 ((rd_T34 l0 (ji7)).f7)) ∧ w'.cell? (ad101.add ((x3_1).toNat * 8)) = some (.int .i64 ((rd_T34 l0 x3_1).f0)) ∧ w'.cell? ⟨(ad101.add ((x3_1).toNat * 8)).block, (ad101.add ((x3_1).toNat * 8)).off + 1, none⟩ = some (.string ((rd_T34 l0 x3_1).f1)) ∧ w'.cell? ⟨(ad101.add ((x3_1).toNat * 8)).block, (ad101.add ((x3_1).toNat * 8)).off + 2, none⟩ = some (.int .i64 ((rd_T34 l0 x3_1).f2)) ∧ w'.cell? ⟨(ad101.add ((x3_1).toNat * 8)).block, (ad101.add ((x3_1).toNat * 8)).off + 3, none⟩ = some (.int .i64 ((rd_T34 l0 x3_1).f3)) ∧ w'.cell? ⟨(ad101.add ((x3_1).toNat * 8)).block, (ad101.add ((x3_1).toNat * 8)).off + 4, none⟩ = some (.int .i64 ((rd_T34 l0 x3_1).f4)) ∧ w'.cell? ⟨(ad101.add ((x3_1).toNat * 8)).block, (ad101.add ((x3_1).toNat * 8)).off + 5, none⟩ = some (.int .i64 ((rd_T34 l0 x3_1).f5)) ∧ w'.cell? ⟨(ad101.add ((x3_1).toNat * 8)).block, (ad101.add ((x3_1).toNat * 8)).off + 6, none⟩ = some (.int .i64 ((rd_T34 l0 x3_1).f6)) ∧ w'.cell? ⟨(ad101.add ((x3_1).toNat * 8)).block, (ad101.add ((x3_1).toNat * 8)).off + 7, none⟩ = some (.int .i64 ((rd_T34 l0 x3_1).f7))) (ds := []) #[O,O,O,O,O,O,O,O,O,O,O,O,O,O,O,O,O,O,O,O,O,O,O,O] (by kernel_rfl) rfl rfl ⟨(Sq.cB HB.out hw101_0), (Sq.cB HB.out hw101_1), (Sq.cB HB.out hw101_2), (Sq.cB HB.out hw101_3), (Sq.cB HB.out hw101_4), (Sq.cB HB.out hw101_5), (Sq.cB HB.out hw101_6), (Sq.cB HB.out hw101_7), (Sq.cB HB.out hw103_0), (Sq.cB HB.out hw103_1), (Sq.cB HB.out hw103_2), (Sq.cB HB.out hw103_3), (Sq.cB HB.out hw103_4), (Sq.cB HB.out hw103_5), (Sq.cB HB.out hw103_6), (Sq.cB HB.out hw103_7), (Sq.cB HB.out hw104_0), (Sq.cB HB.out hw104_1), (Sq.cB HB.out hw104_2), (Sq.cB HB.out hw104_3), (Sq.cB HB.out hw104_4), (Sq.cB HB.out hw104_5), (Sq.cB HB.out hw104_6), (Sq.cB HB.out hw104_7)⟩ (fun hHeld => ?_); refine with_tabW Fm.tab4 Fm.bits4 (fun HT_ HW_ => ?_)
    generalize wr.drew = w11 at HB hx101_0 hx101_1 hx101_2 hx101_3 hx101_4 hx101_5 hx101_6 hx101_7 hx103_0 hx103_1 hx103_2 hx103_3 hx103_4 hx103_5 hx103_6 hx103_7 hx104_0 hx104_1 hx104_2 hx104_3 hx104_4 hx104_5 hx104_6 hx104_7 hHeld ⊢
    refine pure_ (i := 0) (N := some 10) (v := ?_) (a' := ?_) #[I,O,O,O,O,O,O,O,O,O,O,O,O,O,O,O,O,O,O,O,O,O,O,O] rfl rfl (any_of HT_.out (by kernel_rfl)) (fun _ _ _ h => h) (Or.inl ⟨by rfl, ?_⟩) ?_ ?_
    rotate_left; (intro w'; go_simp; with_reducible rfl); rotate_left; (simp only [Z]; rfl)
    refine pure_ (i := 1) (N := some 11) (v := ?_) (a' := ?_) #[I,I,O,O,O,O,O,O,O,O,O,O,O,O,O,O,O,O,O,O,O,O,O,O] rfl rfl (any_of HT_.out (by kernel_rfl)) (fun _ _ _ h => h) (Or.inl ⟨by rfl, ?_⟩) ?_ ?_
    rotate_left; (intro w'; go_simp; with_reducible rfl); rotate_left; (simp only [Z]; rfl)
    refine pure_ (i := 2) (N := some 12) (v := ?_) (a' := ?_) #[I,I,I,O,O,O,O,O,O,O,O,O,O,O,O,O,O,O,O,O,O,O,O,O] rfl rfl (any_of HT_.out (by kernel_rfl)) (fun _ _ _ h => h) (Or.inl ⟨by rfl, ?_⟩) ?_ ?_
    rotate_left; (intro w'; go_simp; with_reducible rfl); rotate_left; (simp only [Z]; rfl)
    refine take_ (i := 3) (N := some 13) (v := ?_) (a' := ?_) #[I,I,I,I,O,O,O,O,O,O,O,O,O,O,O,O,O,O,O,O,O,O,O,O] rfl rfl (take_ofW HT_.out HW_.out (by kernel_rfl)) (fun _ _ _ h => h) (Or.inl ⟨by rfl, ?_⟩) hHeld ?_ ?_
    rotate_left; (rintro w' ⟨s0, s1, s2, s3, s4, s5, s6, s7, s8, s9, s10, s11, s12, s13, s14, s15, s16, s17, s18, s19, s20, s21, s22, s23⟩; go_simp; with_reducible rfl); rotate_left; (simp only [Z]; rfl)
    refine one_ (i := 4) (N := some 14) #[I,I,I,I,I,O,O,O,O,O,O,O,O,O,O,O,O,O,O,O,O,O,O,O] rfl rfl (one_of HT_.out (by kernel_rfl)) (by decide) (fun K hK => ?_)
    refine goes_ Tryz.func60 (by kernel_rfl) rfl #[.agg #[.int .i64 ((rd_T34 l0 x3_1).f0), .string ((rd_T34 l0 x3_1).f1), .int .i64 ((rd_T34 l0 x3_1).f2), .int .i64 ((rd_T34 l0 x3_1).f3), .int .i64 ((rd_T34 l0 x3_1).f4), .int .i64 ((rd_T34 l0 x3_1).f5), .int .i64 ((rd_T34 l0 x3_1).f6), .int .i64 ((rd_T34 l0 x3_1).f7)]] (by rfl) rfl rfl (by (try simp only [List.map_toArray, List.map_cons, List.map_nil]); first | done | rfl | (simp only [List.length_drop, List.length_take]; rfl)) ?_
    with_reducible refine (Fas.calls k1 ((rd_T34 l0 x3_1).f0) ((rd_T34 l0 x3_1).f1) ((rd_T34 l0 x3_1).f2) ((rd_T34 l0 x3_1).f3) ((rd_T34 l0 x3_1).f4) ((rd_T34 l0 x3_1).f5) ((rd_T34 l0 x3_1).f6) ((rd_T34 l0 x3_1).f7) true _ A4.out).mono ?_
    rintro e w12 ⟨rfl, hb⟩
    refine ⟨_, rfl, ?_⟩
    have n0_ := Ak (below_step (by exact eS HB.out) hb)
    clear HB; have HB := n0_; clear n0_; (try clear hb); (try clear hb2); (try clear hk); (try clear hi)
    refine hK.out _ _ ⟨(Sq.cB HB.out hw101_0), (Sq.cB HB.out hw101_1), (Sq.cB HB.out hw101_2), (Sq.cB HB.out hw101_3), (Sq.cB HB.out hw101_4), (Sq.cB HB.out hw101_5), (Sq.cB HB.out hw101_6), (Sq.cB HB.out hw101_7), (Sq.cB HB.out hw103_0), (Sq.cB HB.out hw103_1), (Sq.cB HB.out hw103_2), (Sq.cB HB.out hw103_3), (Sq.cB HB.out hw103_4), (Sq.cB HB.out hw103_5), (Sq.cB HB.out hw103_6), (Sq.cB HB.out hw103_7), (Sq.cB HB.out hw104_0), (Sq.cB HB.out hw104_1), (Sq.cB HB.out hw104_2), (Sq.cB HB.out hw104_3), (Sq.cB HB.out hw104_4), (Sq.cB HB.out hw104_5), (Sq.cB HB.out hw104_6), (Sq.cB HB.out hw104_7)⟩ (fun hHeld => ?_)
    clear hK K
    refine norm_ (a' := ?_) ?_ ?_; rotate_left; (show Act.put _ (some 14) _ = _; simp only [Z]; rfl)
    refine pure_ (i := 5) (N := some 15) (v := ?_) (a' := ?_) #[I,I,I,I,I,I,O,O,O,O,O,O,O,O,O,O,O,O,O,O,O,O,O,O] rfl rfl (any_of HT_.out (by kernel_rfl)) (fun _ _ _ h => h) (Or.inl ⟨by rfl, ?_⟩) ?_ ?_
    rotate_left; (intro w'; go_simp; with_reducible rfl); rotate_left; (simp only [Z]; rfl)
    refine pure_ (i := 6) (N := some 16) (v := ?_) (a' := ?_) #[I,I,I,I,I,I,I,O,O,O,O,O,O,O,O,O,O,O,O,O,O,O,O,O] rfl rfl (any_of HT_.out (by kernel_rfl)) (fun _ _ _ h => h) (Or.inl ⟨by rfl, ?_⟩) ?_ ?_
    rotate_left; (intro w'; go_simp; with_reducible rfl); rotate_left; (simp only [Z]; rfl)
    refine pure_ (i := 7) (N := some 17) (v := ?_) (a' := ?_) #[I,I,I,I,I,I,I,I,O,O,O,O,O,O,O,O,O,O,O,O,O,O,O,O] rfl rfl (any_of HT_.out (by kernel_rfl)) (fun _ _ _ h => h) (Or.inl ⟨by rfl, ?_⟩) ?_ ?_
    rotate_left; (intro w'; go_simp; with_reducible rfl); rotate_left; (simp only [Z]; rfl)
    refine pure_ (i := 8) (N := some 18) (v := ?_) (a' := ?_) #[I,I,I,I,I,I,I,I,I,O,O,O,O,O,O,O,O,O,O,O,O,O,O,O] rfl rfl (any_of HT_.out (by kernel_rfl)) (fun _ _ _ h => h) (Or.inl ⟨by rfl, ?_⟩) ?_ ?_
    rotate_left; (intro w'; go_simp; with_reducible rfl); rotate_left; (simp only [Z]; rfl)
    refine pure_ (i := 9) (N := some 19) (v := ?_) (a' := ?_) #[I,I,I,I,I,I,I,I,I,I,O,O,O,O,O,O,O,O,O,O,O,O,O,O] rfl rfl (any_of HT_.out (by kernel_rfl)) (fun _ _ _ h => h) (Or.inl ⟨by rfl, ?_⟩) ?_ ?_
    rotate_left; (intro w'; go_simp; with_reducible rfl); rotate_left; (simp only [Z]; rfl)
    refine pure_ (i := 10) (N := some 20) (v := ?_) (a' := ?_) #[I,I,I,I,I,I,I,I,I,I,I,O,O,O,O,O,O,O,O,O,O,O,O,O] rfl rfl (any_of HT_.out (by kernel_rfl)) (fun _ _ _ h => h) (Or.inl ⟨by rfl, ?_⟩) ?_ ?_
    rotate_left; (intro w'; go_simp; with_reducible rfl); rotate_left; (simp only [Z]; rfl)
    refine pure_ (i := 11) (N := some 21) (v := ?_) (a' := ?_) #[I,I,I,I,I,I,I,I,I,I,I,I,O,O,O,O,O,O,O,O,O,O,O,O] rfl rfl (any_of HT_.out (by kernel_rfl)) (fun _ _ _ h => h) (Or.inl ⟨by rfl, ?_⟩) ?_ ?_
    rotate_left; (intro w'; go_simp; with_reducible rfl); rotate_left; (simp only [Z]; rfl)
    refine pure_ (i := 12) (N := some 22) (v := ?_) (a' := ?_) #[I,I,I,I,I,I,I,I,I,I,I,I,I,O,O,O,O,O,O,O,O,O,O,O] rfl rfl (any_of HT_.out (by kernel_rfl)) (fun _ _ _ h => h) (Or.inl ⟨by rfl, ?_⟩) ?_ ?_
    rotate_left; (intro w'; go_simp; with_reducible rfl); rotate_left; (simp only [Z]; rfl)
    refine pure_ (i := 13) (N := some 23) (v := ?_) (a' := ?_) #[I,I,I,I,I,I,I,I,I,I,I,I,I,I,O,O,O,O,O,O,O,O,O,O] rfl rfl (any_of HT_.out (by kernel_rfl)) (fun _ _ _ h => h) (Or.inl ⟨by rfl, ?_⟩) ?_ ?_
    rotate_left; (intro w'; go_simp; with_reducible rfl); rotate_left; (simp only [Z]; rfl)
    refine pure_ (i := 14) (N := some 24) (v := ?_) (a' := ?_) #[I,I,I,I,I,I,I,I,I,I,I,I,I,I,I,O,O,O,O,O,O,O,O,O] rfl rfl (any_of HT_.out (by kernel_rfl)) (fun _ _ _ h => h) (Or.inl ⟨by rfl, ?_⟩) ?_ ?_
    rotate_left; (intro w'; go_simp; with_reducible rfl); rotate_left; (simp only [Z]; rfl)
    refine pure_ (i := 16) (N := some 26) (v := ?_) (a' := ?_) #[I,I,I,I,I,I,I,I,I,I,I,I,I,I,I,O,I,O,O,O,O,O,O,O] rfl rfl (any_of HT_.out (by kernel_rfl)) (fun _ _ _ h => h) (Or.inl ⟨by rfl, ?_⟩) ?_ ?_
    rotate_left; (intro w'; go_simp; with_reducible rfl); rotate_left; (simp only [Z]; rfl)
    refine pure_ (i := 17) (N := some 27) (v := ?_) (a' := ?_) #[I,I,I,I,I,I,I,I,I,I,I,I,I,I,I,O,I,I,O,O,O,O,O,O] rfl rfl (any_of HT_.out (by kernel_rfl)) (fun _ _ _ h => h) (Or.inl ⟨by rfl, ?_⟩) ?_ ?_
    rotate_left; (intro w'; go_simp; with_reducible rfl); rotate_left; (simp only [Z]; rfl)
    refine pure_ (i := 18) (N := some 28) (v := ?_) (a' := ?_) #[I,I,I,I,I,I,I,I,I,I,I,I,I,I,I,O,I,I,I,O,O,O,O,O] rfl rfl (any_of HT_.out (by kernel_rfl)) (fun _ _ _ h => h) (Or.inl ⟨by rfl, ?_⟩) ?_ ?_
    rotate_left; (intro w'; go_simp; with_reducible rfl); rotate_left; (simp only [Z]; rfl)
    refine pure_ (i := 19) (N := some 29) (v := ?_) (a' := ?_) #[I,I,I,I,I,I,I,I,I,I,I,I,I,I,I,O,I,I,I,I,O,O,O,O] rfl rfl (any_of HT_.out (by kernel_rfl)) (fun _ _ _ h => h) (Or.inl ⟨by rfl, ?_⟩) ?_ ?_
    rotate_left; (intro w'; go_simp; with_reducible rfl); rotate_left; (simp only [Z]; rfl)
    refine take_ (i := 15) (N := some 25) (v := ?_) (a' := ?_) #[I,I,I,I,I,I,I,I,I,I,I,I,I,I,I,I,I,I,I,I,O,O,O,O] rfl rfl (take_ofW HT_.out HW_.out (by kernel_rfl)) (fun _ _ _ h => h) (Or.inl ⟨by rfl, ?_⟩) hHeld ?_ ?_
    rotate_left; (rintro w' ⟨s0, s1, s2, s3, s4, s5, s6, s7, s8, s9, s10, s11, s12, s13, s14, s15, s16, s17, s18, s19, s20, s21, s22, s23⟩; go_simp; with_reducible rfl); rotate_left; (simp only [Z]; rfl)
    refine take_ (i := 20) (N := some 30) (v := ?_) (a' := ?_) #[I,I,I,I,I,I,I,I,I,I,I,I,I,I,I,I,I,I,I,I,I,O,O,O] rfl rfl (take_ofW HT_.out HW_.out (by kernel_rfl)) (fun _ _ _ h => h) (Or.inl ⟨by rfl, ?_⟩) hHeld ?_ ?_
    rotate_left; (rintro w' ⟨s0, s1, s2, s3, s4, s5, s6, s7, s8, s9, s10, s11, s12, s13, s14, s15, s16, s17, s18, s19, s20, s21, s22, s23⟩; go_simp; with_reducible rfl); rotate_left; (simp only [Z]; rfl)
    refine pure_ (i := 21) (N := some 31) (v := ?_) (a' := ?_) #[I,I,I,I,I,I,I,I,I,I,I,I,I,I,I,I,I,I,I,I,I,I,O,O] rfl rfl (any_of HT_.out (by kernel_rfl)) (fun _ _ _ h => h) (Or.inl ⟨by rfl, ?_⟩) ?_ ?_
    rotate_left; (intro w'; go_simp; with_reducible rfl); rotate_left; (simp only [Z]; rfl)
    refine pure_ (i := 22) (N := some 32) (v := ?_) (a' := ?_) #[I,I,I,I,I,I,I,I,I,I,I,I,I,I,I,I,I,I,I,I,I,I,I,O] rfl rfl (any_of HT_.out (by kernel_rfl)) (fun _ _ _ h => h) (Or.inl ⟨by rfl, ?_⟩) ?_ ?_
    rotate_left; (intro w'; go_simp; with_reducible rfl); rotate_left; (simp only [Z]; rfl)
    refine pure_ (i := 23) (N := some 33) (v := ?_) (a' := ?_) #[I,I,I,I,I,I,I,I,I,I,I,I,I,I,I,I,I,I,I,I,I,I,I,I] rfl rfl (any_of HT_.out (by kernel_rfl)) (fun _ _ _ h => h) (Or.inl ⟨by rfl, ?_⟩) ?_ ?_
    rotate_left; (intro w'; go_simp; with_reducible rfl); rotate_left; (simp only [Z]; rfl)
    refine done_ (done_of HT_.out (by kernel_rfl)) ?_
    try go_wp2
    go_ret
    exact ⟨by first | rfl | (simp [errW_none, errW_some] <;> rfl) | (simp only [← hji7]; first | rfl | (simp [errW_none, errW_some] <;> rfl)) | (simp [*, errW_none, errW_some] <;> rfl), by exact eS HB.out⟩
   rw [if_neg c10] at H
   have c10b0 : decide (((rd_T34 l0 x3_1).f0) ≤ ((rd_T34 l0 (ji7)).f0)) = false := decide_eq_false c10
   clear c10
   have H' := Ak H
   clear H
   try go_wp2
   have n0_ := Ak (below_drew1 HB.out)
   clear HB; have HB := n0_; clear n0_
   have p101 : 0 ≤ (x3_1 : Int) := Dz
   have q101 : x3_1 < (l0.length : Int) := Dz
   obtain ⟨ad101, e101, hx101_0, hx101_1, hx101_2, hx101_3, hx101_4, hx101_5, hx101_6, hx101_7⟩ := at_T34 HR0.out x3_1 p101 q101
   have hw101_7 := hx101_7
   have hw101_6 := hx101_6
   have hw101_5 := hx101_5
   have hw101_4 := hx101_4
   have hw101_3 := hx101_3
   have hw101_2 := hx101_2
   have hw101_1 := hx101_1
   have hw101_0 := hx101_0
   cases e101
   replace hx101_0 := Sq.cB HB.out hx101_0
   replace hx101_1 := Sq.cB HB.out hx101_1
   replace hx101_2 := Sq.cB HB.out hx101_2
   replace hx101_3 := Sq.cB HB.out hx101_3
   replace hx101_4 := Sq.cB HB.out hx101_4
   replace hx101_5 := Sq.cB HB.out hx101_5
   replace hx101_6 := Sq.cB HB.out hx101_6
   replace hx101_7 := Sq.cB HB.out hx101_7
   replace p101 := eq_true p101; replace q101 := eq_true q101
   have p103 : 0 ≤ ((ji7) : Int) := Dz
   have q103 : (ji7) < (l0.length : Int) := Dz
   obtain ⟨ad103, e103, hx103_0, hx103_1, hx103_2, hx103_3, hx103_4, hx103_5, hx103_6, hx103_7⟩ := at_T34 HR0.out (ji7) p103 q103
   have hw103_7 := hx103_7
   have hw103_6 := hx103_6
   have hw103_5 := hx103_5
   have hw103_4 := hx103_4
   have hw103_3 := hx103_3
   have hw103_2 := hx103_2
   have hw103_1 := hx103_1
   have hw103_0 := hx103_0
   obtain rfl : ad101 = ad103 := (by injection e103)
   replace hx103_0 := Sq.cB HB.out hx103_0
   replace hx103_1 := Sq.cB HB.out hx103_1
   replace hx103_2 := Sq.cB HB.out hx103_2
   replace hx103_3 := Sq.cB HB.out hx103_3
   replace hx103_4 := Sq.cB HB.out hx103_4
   replace hx103_5 := Sq.cB HB.out hx103_5
   replace hx103_6 := Sq.cB HB.out hx103_6
   replace hx103_7 := Sq.cB HB.out hx103_7
   replace p103 := eq_true p103; replace q103 := eq_true q103
   have p104 : 0 ≤ (x3_1 : Int) := Dz
   have q104 : x3_1 < (l0.length : Int) := Dz
   obtain ⟨ad104, e104, hx104_0, hx104_1, hx104_2, hx104_3, hx104_4, hx104_5, hx104_6, hx104_7⟩ := at_T34 HR0.out x3_1 p104 q104
   have hw104_7 := hx104_7
   have hw104_6 := hx104_6
   have hw104_5 := hx104_5
   have hw104_4 := hx104_4
   have hw104_3 := hx104_3
   have hw104_2 := hx104_2
   have hw104_1 := hx104_1
   have hw104_0 := hx104_0
   obtain rfl : ad101 = ad104 := (by injection e104)
   replace hx104_0 := Sq.cB HB.out hx104_0
   replace hx104_1 := Sq.cB HB.out hx104_1
   replace hx104_2 := Sq.cB HB.out hx104_2
   replace hx104_3 := Sq.cB HB.out hx104_3
   replace hx104_4 := Sq.cB HB.out hx104_4
   replace hx104_5 := Sq.cB HB.out hx104_5
   replace hx104_6 := Sq.cB HB.out hx104_6
   replace hx104_7 := Sq.cB HB.out hx104_7
   replace p104 := eq_true p104; replace q104 := eq_true q104
   refine start_ (n := 24) (S := fun w' => w'.cell? (ad101.add ((x3_1).toNat * 8)) = some (.int .i64 ((rd_T34 l0 x3_1).f0)) ∧ w'.cell? ⟨(ad101.add ((x3_1).toNat * 8)).block, (ad101.add ((x3_1).toNat * 8)).off + 1, none⟩ = some (.string ((rd_T34 l0 x3_1).f1)) ∧ w'.cell? ⟨(ad101.add ((x3_1).toNat * 8)).block, (ad101.add ((x3_1).toNat * 8)).off + 2, none⟩ = some (.int .i64 ((rd_T34 l0 x3_1).f2)) ∧ w'.cell? ⟨(ad101.add ((x3_1).toNat * 8)).block, (ad101.add ((x3_1).toNat * 8)).off + 3, none⟩ = some (.int .i64 ((rd_T34 l0 x3_1).f3)) ∧ w'.cell? ⟨(ad101.add ((x3_1).toNat * 8)).block, (ad101.add ((x3_1).toNat * 8)).off + 4, none⟩ = some (.int .i64 ((rd_T34 l0 x3_1).f4)) ∧ w'.cell? ⟨(ad101.add ((x3_1).toNat * 8)).block, (ad101.add ((x3_1).toNat * 8)).off + 5, none⟩ = some (.int .i64 ((rd_T34 l0 x3_1).f5)) ∧ w'.cell? ⟨(ad101.add ((x3_1).toNat * 8)).block, (ad101.add ((x3_1).toNat * 8)).off + 6, none⟩ = some (.int .i64 ((rd_T34 l0 x3_1).f6)) ∧ w'.cell? ⟨(ad101.add ((x3_1).toNat * 8)).block, (ad101.add ((x3_1).toNat * 8)).off + 7, none⟩ = some (.int .i64 ((rd_T34 l0 x3_1).f7)) ∧ w'.cell? (ad101.add (((ji7)).toNat * 8)) = some (.int .i64 ((rd_T34 l0 (ji7)).f0)) ∧ w'.cell? ⟨(ad101.add (((ji7)).toNat * 8)).block, (ad101.add (((ji7)).toNat * 8)).off + 1, none⟩ = some (.string ((rd_T34 l0 (ji7)).f1)) ∧ w'.cell? ⟨(ad101.add (((ji7)).toNat * 8)).block, (ad101.add (((ji7)).toNat * 8)).off + 2, none⟩ = some (.int .i64 ((rd_T34 l0 (ji7)).f2)) ∧ w'.cell? ⟨(ad101.add (((ji7)).toNat * 8)).block, (ad101.add (((ji7)).toNat * 8)).off + 3, none⟩ = some (.int .i64 ((rd_T34 l0 (ji7)).f3)) ∧ w'.cell? ⟨(ad101.add (((ji7)).toNat * 8)).block, (ad101.add (((ji7)).toNat * 8)).off + 4, none⟩ = some (.int .i64 ((rd_T34 l0 (ji7)).f4)) ∧ w'.cell? ⟨(ad101.add (((ji7)).toNat * 8)).block, (ad101.add (((ji7)).toNat * 8)).off + 5, none⟩ = some (.int .i64 ((rd_T34 l0 (ji7)).f5)) ∧ w'.cell? ⟨(ad101.add (((ji7)).toNat * 8)).block, (ad101.add (((ji7)).toNat * 8)).off + 6, none⟩ = some (.int .i64 ((rd_T34 l0 (ji7)).f6)) ∧ w'.cell? ⟨(ad101.add (((ji7)).toNat * 8)).block, (ad101.add (((ji7)).toNat * 8)).off + 7, none⟩ = some (.int .i64 ((rd_T34 l0 (ji7)).f7)) ∧ w'.cell? (ad101.add ((x3_1).toNat * 8)) = some (.int .i64 ((rd_T34 l0 x3_1).f0)) ∧ w'.cell? ⟨(ad101.add ((x3_1).toNat * 8)).block, (ad101.add ((x3_1).toNat * 8)).off + 1, none⟩ = some (.string ((rd_T34 l0 x3_1).f1)) ∧ w'.cell? ⟨(ad101.add ((x3_1).toNat * 8)).block, (ad101.add ((x3_1).toNat * 8)).off + 2, none⟩ = some (.int .i64 ((rd_T34 l0 x3_1).f2)) ∧ w'.cell? ⟨(ad101.add ((x3_1).toNat * 8)).block, (ad101.add ((x3_1).toNat * 8)).off + 3, none⟩ = some (.int .i64 ((rd_T34 l0 x3_1).f3)) ∧ w'.cell? ⟨(ad101.add ((x3_1).toNat * 8)).block, (ad101.add ((x3_1).toNat * 8)).off + 4, none⟩ = some (.int .i64 ((rd_T34 l0 x3_1).f4)) ∧ w'.cell? ⟨(ad101.add ((x3_1).toNat * 8)).block, (ad101.add ((x3_1).toNat * 8)).off + 5, none⟩ = some (.int .i64 ((rd_T34 l0 x3_1).f5)) ∧ w'.cell? ⟨(ad101.add ((x3_1).toNat * 8)).block, (ad101.add ((x3_1).toNat * 8)).off + 6, none⟩ = some (.int .i64 ((rd_T34 l0 x3_1).f6)) ∧ w'.cell? ⟨(ad101.add ((x3_1).toNat * 8)).block, (ad101.add ((x3_1).toNat * 8)).off + 7, none⟩ = some (.int .i64 ((rd_T34 l0 x3_1).f7))) (ds := []) #[O,O,O,O,O,O,O,O,O,O,O,O,O,O,O,O,O,O,O,O,O,O,O,O] (by kernel_rfl) rfl rfl ⟨(Sq.cB HB.out hw101_0), (Sq.cB HB.out hw101_1), (Sq.cB HB.out hw101_2), (Sq.cB HB.out hw101_3), (Sq.cB HB.out hw101_4), (Sq.cB HB.out hw101_5), (Sq.cB HB.out hw101_6), (Sq.cB HB.out hw101_7), (Sq.cB HB.out hw103_0), (Sq.cB HB.out hw103_1), (Sq.cB HB.out hw103_2), (Sq.cB HB.out hw103_3), (Sq.cB HB.out hw103_4), (Sq.cB HB.out hw103_5), (Sq.cB HB.out hw103_6), (Sq.cB HB.out hw103_7), (Sq.cB HB.out hw104_0), (Sq.cB HB.out hw104_1), (Sq.cB HB.out hw104_2), (Sq.cB HB.out hw104_3), (Sq.cB HB.out hw104_4), (Sq.cB HB.out hw104_5), (Sq.cB HB.out hw104_6), (Sq.cB HB.out hw104_7)⟩ (fun hHeld => ?_); refine with_tabW Fm.tab4 Fm.bits4 (fun HT_ HW_ => ?_)
   generalize wr.drew = w13 at HB hx101_0 hx101_1 hx101_2 hx101_3 hx101_4 hx101_5 hx101_6 hx101_7 hx103_0 hx103_1 hx103_2 hx103_3 hx103_4 hx103_5 hx103_6 hx103_7 hx104_0 hx104_1 hx104_2 hx104_3 hx104_4 hx104_5 hx104_6 hx104_7 hHeld ⊢
   refine pure_ (i := 0) (N := some 10) (v := ?_) (a' := ?_) #[I,O,O,O,O,O,O,O,O,O,O,O,O,O,O,O,O,O,O,O,O,O,O,O] rfl rfl (any_of HT_.out (by kernel_rfl)) (fun _ _ _ h => h) (Or.inl ⟨by rfl, ?_⟩) ?_ ?_
   rotate_left; (intro w'; go_simp; with_reducible rfl); rotate_left; (simp only [Z]; rfl)
   refine pure_ (i := 1) (N := some 11) (v := ?_) (a' := ?_) #[I,I,O,O,O,O,O,O,O,O,O,O,O,O,O,O,O,O,O,O,O,O,O,O] rfl rfl (any_of HT_.out (by kernel_rfl)) (fun _ _ _ h => h) (Or.inl ⟨by rfl, ?_⟩) ?_ ?_
   rotate_left; (intro w'; go_simp; with_reducible rfl); rotate_left; (simp only [Z]; rfl)
   refine pure_ (i := 2) (N := some 12) (v := ?_) (a' := ?_) #[I,I,I,O,O,O,O,O,O,O,O,O,O,O,O,O,O,O,O,O,O,O,O,O] rfl rfl (any_of HT_.out (by kernel_rfl)) (fun _ _ _ h => h) (Or.inl ⟨by rfl, ?_⟩) ?_ ?_
   rotate_left; (intro w'; go_simp; with_reducible rfl); rotate_left; (simp only [Z]; rfl)
   refine take_ (i := 3) (N := some 13) (v := ?_) (a' := ?_) #[I,I,I,I,O,O,O,O,O,O,O,O,O,O,O,O,O,O,O,O,O,O,O,O] rfl rfl (take_ofW HT_.out HW_.out (by kernel_rfl)) (fun _ _ _ h => h) (Or.inl ⟨by rfl, ?_⟩) hHeld ?_ ?_
   rotate_left; (rintro w' ⟨s0, s1, s2, s3, s4, s5, s6, s7, s8, s9, s10, s11, s12, s13, s14, s15, s16, s17, s18, s19, s20, s21, s22, s23⟩; go_simp; with_reducible rfl); rotate_left; (simp only [Z]; rfl)
   refine one_ (i := 4) (N := some 14) #[I,I,I,I,I,O,O,O,O,O,O,O,O,O,O,O,O,O,O,O,O,O,O,O] rfl rfl (one_of HT_.out (by kernel_rfl)) (by decide) (fun K hK => ?_)
   refine goes_ Tryz.func60 (by kernel_rfl) rfl #[.agg #[.int .i64 ((rd_T34 l0 x3_1).f0), .string ((rd_T34 l0 x3_1).f1), .int .i64 ((rd_T34 l0 x3_1).f2), .int .i64 ((rd_T34 l0 x3_1).f3), .int .i64 ((rd_T34 l0 x3_1).f4), .int .i64 ((rd_T34 l0 x3_1).f5), .int .i64 ((rd_T34 l0 x3_1).f6), .int .i64 ((rd_T34 l0 x3_1).f7)]] (by rfl) rfl rfl (by (try simp only [List.map_toArray, List.map_cons, List.map_nil]); first | done | rfl | (simp only [List.length_drop, List.length_take]; rfl)) ?_
   with_reducible refine (Fas.calls k1 ((rd_T34 l0 x3_1).f0) ((rd_T34 l0 x3_1).f1) ((rd_T34 l0 x3_1).f2) ((rd_T34 l0 x3_1).f3) ((rd_T34 l0 x3_1).f4) ((rd_T34 l0 x3_1).f5) ((rd_T34 l0 x3_1).f6) ((rd_T34 l0 x3_1).f7) true _ A4.out).mono ?_
   rintro e w14 ⟨rfl, hb⟩
   refine ⟨_, rfl, ?_⟩
   have n0_ := Ak (below_step (by exact eS HB.out) hb)
   clear HB; have HB := n0_; clear n0_; (try clear hb); (try clear hb2); (try clear hk); (try clear hi)
   refine hK.out _ _ ⟨(Sq.cB HB.out hw101_0), (Sq.cB HB.out hw101_1), (Sq.cB HB.out hw101_2), (Sq.cB HB.out hw101_3), (Sq.cB HB.out hw101_4), (Sq.cB HB.out hw101_5), (Sq.cB HB.out hw101_6), (Sq.cB HB.out hw101_7), (Sq.cB HB.out hw103_0), (Sq.cB HB.out hw103_1), (Sq.cB HB.out hw103_2), (Sq.cB HB.out hw103_3), (Sq.cB HB.out hw103_4), (Sq.cB HB.out hw103_5), (Sq.cB HB.out hw103_6), (Sq.cB HB.out hw103_7), (Sq.cB HB.out hw104_0), (Sq.cB HB.out hw104_1), (Sq.cB HB.out hw104_2), (Sq.cB HB.out hw104_3), (Sq.cB HB.out hw104_4), (Sq.cB HB.out hw104_5), (Sq.cB HB.out hw104_6), (Sq.cB HB.out hw104_7)⟩ (fun hHeld => ?_)
   clear hK K
   refine norm_ (a' := ?_) ?_ ?_; rotate_left; (show Act.put _ (some 14) _ = _; simp only [Z]; rfl)
   refine pure_ (i := 5) (N := some 15) (v := ?_) (a' := ?_) #[I,I,I,I,I,I,O,O,O,O,O,O,O,O,O,O,O,O,O,O,O,O,O,O] rfl rfl (any_of HT_.out (by kernel_rfl)) (fun _ _ _ h => h) (Or.inl ⟨by rfl, ?_⟩) ?_ ?_
   rotate_left; (intro w'; go_simp; with_reducible rfl); rotate_left; (simp only [Z]; rfl)
   refine pure_ (i := 6) (N := some 16) (v := ?_) (a' := ?_) #[I,I,I,I,I,I,I,O,O,O,O,O,O,O,O,O,O,O,O,O,O,O,O,O] rfl rfl (any_of HT_.out (by kernel_rfl)) (fun _ _ _ h => h) (Or.inl ⟨by rfl, ?_⟩) ?_ ?_
   rotate_left; (intro w'; go_simp; with_reducible rfl); rotate_left; (simp only [Z]; rfl)
   refine pure_ (i := 7) (N := some 17) (v := ?_) (a' := ?_) #[I,I,I,I,I,I,I,I,O,O,O,O,O,O,O,O,O,O,O,O,O,O,O,O] rfl rfl (any_of HT_.out (by kernel_rfl)) (fun _ _ _ h => h) (Or.inl ⟨by rfl, ?_⟩) ?_ ?_
   rotate_left; (intro w'; go_simp; with_reducible rfl); rotate_left; (simp only [Z]; rfl)
   refine pure_ (i := 8) (N := some 18) (v := ?_) (a' := ?_) #[I,I,I,I,I,I,I,I,I,O,O,O,O,O,O,O,O,O,O,O,O,O,O,O] rfl rfl (any_of HT_.out (by kernel_rfl)) (fun _ _ _ h => h) (Or.inl ⟨by rfl, ?_⟩) ?_ ?_
   rotate_left; (intro w'; go_simp; with_reducible rfl); rotate_left; (simp only [Z]; rfl)
   refine pure_ (i := 9) (N := some 19) (v := ?_) (a' := ?_) #[I,I,I,I,I,I,I,I,I,I,O,O,O,O,O,O,O,O,O,O,O,O,O,O] rfl rfl (any_of HT_.out (by kernel_rfl)) (fun _ _ _ h => h) (Or.inl ⟨by rfl, ?_⟩) ?_ ?_
   rotate_left; (intro w'; go_simp; with_reducible rfl); rotate_left; (simp only [Z]; rfl)
   refine pure_ (i := 10) (N := some 20) (v := ?_) (a' := ?_) #[I,I,I,I,I,I,I,I,I,I,I,O,O,O,O,O,O,O,O,O,O,O,O,O] rfl rfl (any_of HT_.out (by kernel_rfl)) (fun _ _ _ h => h) (Or.inl ⟨by rfl, ?_⟩) ?_ ?_
   rotate_left; (intro w'; go_simp; with_reducible rfl); rotate_left; (simp only [Z]; rfl)
   refine pure_ (i := 11) (N := some 21) (v := ?_) (a' := ?_) #[I,I,I,I,I,I,I,I,I,I,I,I,O,O,O,O,O,O,O,O,O,O,O,O] rfl rfl (any_of HT_.out (by kernel_rfl)) (fun _ _ _ h => h) (Or.inl ⟨by rfl, ?_⟩) ?_ ?_
   rotate_left; (intro w'; go_simp; with_reducible rfl); rotate_left; (simp only [Z]; rfl)
   refine pure_ (i := 12) (N := some 22) (v := ?_) (a' := ?_) #[I,I,I,I,I,I,I,I,I,I,I,I,I,O,O,O,O,O,O,O,O,O,O,O] rfl rfl (any_of HT_.out (by kernel_rfl)) (fun _ _ _ h => h) (Or.inl ⟨by rfl, ?_⟩) ?_ ?_
   rotate_left; (intro w'; go_simp; with_reducible rfl); rotate_left; (simp only [Z]; rfl)
   refine pure_ (i := 13) (N := some 23) (v := ?_) (a' := ?_) #[I,I,I,I,I,I,I,I,I,I,I,I,I,I,O,O,O,O,O,O,O,O,O,O] rfl rfl (any_of HT_.out (by kernel_rfl)) (fun _ _ _ h => h) (Or.inl ⟨by rfl, ?_⟩) ?_ ?_
   rotate_left; (intro w'; go_simp; with_reducible rfl); rotate_left; (simp only [Z]; rfl)
   refine pure_ (i := 14) (N := some 24) (v := ?_) (a' := ?_) #[I,I,I,I,I,I,I,I,I,I,I,I,I,I,I,O,O,O,O,O,O,O,O,O] rfl rfl (any_of HT_.out (by kernel_rfl)) (fun _ _ _ h => h) (Or.inl ⟨by rfl, ?_⟩) ?_ ?_
   rotate_left; (intro w'; go_simp; with_reducible rfl); rotate_left; (simp only [Z]; rfl)
   refine pure_ (i := 16) (N := some 26) (v := ?_) (a' := ?_) #[I,I,I,I,I,I,I,I,I,I,I,I,I,I,I,O,I,O,O,O,O,O,O,O] rfl rfl (any_of HT_.out (by kernel_rfl)) (fun _ _ _ h => h) (Or.inl ⟨by rfl, ?_⟩) ?_ ?_
   rotate_left; (intro w'; go_simp; with_reducible rfl); rotate_left; (simp only [Z]; rfl)
   refine pure_ (i := 17) (N := some 27) (v := ?_) (a' := ?_) #[I,I,I,I,I,I,I,I,I,I,I,I,I,I,I,O,I,I,O,O,O,O,O,O] rfl rfl (any_of HT_.out (by kernel_rfl)) (fun _ _ _ h => h) (Or.inl ⟨by rfl, ?_⟩) ?_ ?_
   rotate_left; (intro w'; go_simp; with_reducible rfl); rotate_left; (simp only [Z]; rfl)
   refine pure_ (i := 18) (N := some 28) (v := ?_) (a' := ?_) #[I,I,I,I,I,I,I,I,I,I,I,I,I,I,I,O,I,I,I,O,O,O,O,O] rfl rfl (any_of HT_.out (by kernel_rfl)) (fun _ _ _ h => h) (Or.inl ⟨by rfl, ?_⟩) ?_ ?_
   rotate_left; (intro w'; go_simp; with_reducible rfl); rotate_left; (simp only [Z]; rfl)
   refine pure_ (i := 19) (N := some 29) (v := ?_) (a' := ?_) #[I,I,I,I,I,I,I,I,I,I,I,I,I,I,I,O,I,I,I,I,O,O,O,O] rfl rfl (any_of HT_.out (by kernel_rfl)) (fun _ _ _ h => h) (Or.inl ⟨by rfl, ?_⟩) ?_ ?_
   rotate_left; (intro w'; go_simp; with_reducible rfl); rotate_left; (simp only [Z]; rfl)
   refine take_ (i := 15) (N := some 25) (v := ?_) (a' := ?_) #[I,I,I,I,I,I,I,I,I,I,I,I,I,I,I,I,I,I,I,I,O,O,O,O] rfl rfl (take_ofW HT_.out HW_.out (by kernel_rfl)) (fun _ _ _ h => h) (Or.inl ⟨by rfl, ?_⟩) hHeld ?_ ?_
   rotate_left; (rintro w' ⟨s0, s1, s2, s3, s4, s5, s6, s7, s8, s9, s10, s11, s12, s13, s14, s15, s16, s17, s18, s19, s20, s21, s22, s23⟩; go_simp; with_reducible rfl); rotate_left; (simp only [Z]; rfl)
   refine take_ (i := 20) (N := some 30) (v := ?_) (a' := ?_) #[I,I,I,I,I,I,I,I,I,I,I,I,I,I,I,I,I,I,I,I,I,O,O,O] rfl rfl (take_ofW HT_.out HW_.out (by kernel_rfl)) (fun _ _ _ h => h) (Or.inl ⟨by rfl, ?_⟩) hHeld ?_ ?_
   rotate_left; (rintro w' ⟨s0, s1, s2, s3, s4, s5, s6, s7, s8, s9, s10, s11, s12, s13, s14, s15, s16, s17, s18, s19, s20, s21, s22, s23⟩; go_simp; with_reducible rfl); rotate_left; (simp only [Z]; rfl)
   refine pure_ (i := 21) (N := some 31) (v := ?_) (a' := ?_) #[I,I,I,I,I,I,I,I,I,I,I,I,I,I,I,I,I,I,I,I,I,I,O,O] rfl rfl (any_of HT_.out (by kernel_rfl)) (fun _ _ _ h => h) (Or.inl ⟨by rfl, ?_⟩) ?_ ?_
   rotate_left; (intro w'; go_simp; with_reducible rfl); rotate_left; (simp only [Z]; rfl)
   refine pure_ (i := 22) (N := some 32) (v := ?_) (a' := ?_) #[I,I,I,I,I,I,I,I,I,I,I,I,I,I,I,I,I,I,I,I,I,I,I,O] rfl rfl (any_of HT_.out (by kernel_rfl)) (fun _ _ _ h => h) (Or.inl ⟨by rfl, ?_⟩) ?_ ?_
   rotate_left; (intro w'; go_simp; with_reducible rfl); rotate_left; (simp only [Z]; rfl)
   refine pure_ (i := 23) (N := some 33) (v := ?_) (a' := ?_) #[I,I,I,I,I,I,I,I,I,I,I,I,I,I,I,I,I,I,I,I,I,I,I,I] rfl rfl (any_of HT_.out (by kernel_rfl)) (fun _ _ _ h => h) (Or.inl ⟨by rfl, ?_⟩) ?_ ?_
   rotate_left; (intro w'; go_simp; with_reducible rfl); rotate_left; (simp only [Z]; rfl)
   refine done_ (done_of HT_.out (by kernel_rfl)) ?_
   try go_wp2
   go_roundg k1
   case measure => have := HK1.out; omega
   case rel => exact ⟨(wrap64 (x3_1 + 1)), (by first | rfl | (simp; done) | (simp [*]; done)), H', ⟨by have := HK1.out; omega⟩, ⟨by exact eS HB.out⟩⟩
attribute [local go_sem ↓] Ho.isSome_setCell_   -- a store leaves all places there
/-! ### Fs: function 22 -/
def Fs.l0 : Nat → List (S34) → Int → Int → Option (Int × Bool)
  | 0, _, _, _ => none
  | k + 1, x0, x4, x5 => if x5 < (x0.length : Int) then (if 0 ≤ x5 then (if ((rd_T34 x0 x5).f4) = 1 then (Fs.l0 k x0 (wrap64 (x4 + (wrap64 (((rd_T34 x0 x5).f2) * ((rd_T34 x0 x5).f3))))) (wrap64 (x5 + 1))) else (if ((rd_T34 x0 x5).f4) = 2 then (Fs.l0 k x0 (wrap64 (x4 + (wrap64 (((rd_T34 x0 x5).f2) * ((rd_T34 x0 x5).f3))))) (wrap64 (x5 + 1))) else (Fs.l0 k x0 x4 (wrap64 (x5 + 1))))) else (none)) else (some (x4, true))
def Fs.f (k : Nat) (l0 : List (S34)) : Option (Int × Bool) := (Fm.f k l0).bind fun t101 => (if t101 = true then (Fs.l0 k l0 0 0) else (some (0, false)))
theorem Fs.mono_l : ∀ k, (∀ y0 y1 y2, LeO (Fs.l0 k y0 y1 y2) (Fs.l0 (k + 1) y0 y1 y2))
  | 0 => fun _ _ _ r h => by simp [Fs.l0] at h
  | k + 1 => by
    have ih0 := Fs.mono_l k
    · intro y0 y1 y2
      unfold Fs.l0
      repeat' first | (with_reducible first | exact ih0 _ _ _ | exact Fm.mono _ _ | exact LeO.refl _ | exact LeO.none _ | refine LeO.ite ?_ ?_ | refine LeO.bind ?_ (fun _ => ?_)) | exact ih0 _ _ _ | exact Fm.mono _ _ | exact LeO.none _ | refine LeO.ite ?_ ?_ | refine LeO.bind ?_ (fun _ => ?_)
theorem Fs.mono : ∀ a0 k, LeO (Fs.f k a0) (Fs.f (k + 1) a0) := by
  intro a0 k
  have ih0 := Fs.mono_l k
  unfold Fs.f
  repeat' first | (with_reducible first | exact ih0 _ _ _ | exact Fm.mono _ _ | exact LeO.refl _ | exact LeO.none _ | refine LeO.ite ?_ ?_ | refine LeO.bind ?_ (fun _ => ?_)) | exact ih0 _ _ _ | exact Fm.mono _ _ | exact LeO.none _ | refine LeO.ite ?_ ?_ | refine LeO.bind ?_ (fun _ => ?_)
set_option maxHeartbeats 8000000 in
set_option maxRecDepth 100000 in
theorem Fs.calls (k : Nat) (A0 : Option Addr) (c0 : Nat) (l0 : List (S34)) (r1 : Int) (r2 : Bool) (w : World) (hr0 : Kd.C k34 w A0 l0.length l0) (hc0 : l0.length ≤ c0) (h : Fs.f k l0 = some (r1, r2)) :
  Calls Tryz.prog 22 #[.slice A0 l0.length c0] w fun e w' => e = .returned (.tuple #[.int .i64 r1, .bool r2]) ∧ Below w.heap.size w w' := by
 have hu34 := Tryz.underlying34
 have HR0 := Ak hr0
 have HC0 := Ak hc0
 clear hr0 hc0
 have HB := Ak (Below.refl w.heap.size w)
 have H : ((Fm.f k l0).bind fun t101 => (if t101 = true then (Fs.l0 k l0 0 0) else (some (0, false)))) = some (r1, r2) := h
 clear h
 replace H := Option.bind_eq_some_iff.mp H
 obtain ⟨t101, A20, H⟩ := H
 (try dsimp only at H)
 have A2 := Ak A20
 clear A20
 by_cases c3 : t101 = true
 rotate_left
 ·replace c3 := Bool.eq_false_iff.mpr c3
  subst c3
  have H1 : (some (0, false)) = some (r1, r2) := by rw [if_neg (show ¬ (false = true) by decide)] at H; exact H
  clear H
  have H := H1
  clear H1
  simp only [Option.some.injEq, Prod.mk.injEq] at H
  obtain ⟨rfl, rfl⟩ := H
  go_enter Tryz.func22, Tryz.ntmps22
  go_wp2_with (first | ((with_reducible refine gate_callee (f := 32) rfl ?_); refine goesL_ (some 8) rfl rfl Tryz.func32 (by kernel_rfl) rfl #[.slice A0 l0.length c0] rfl (by (try simp only [List.map_toArray, List.map_cons, List.map_nil]); first | done | rfl | (simp only [List.length_drop, List.length_take]; rfl)) ?_; (with_reducible refine (Fm.calls k _ _ l0 false _ ?side1 ?side2 A2.out).mono ?_); (case side1 => exact Cs HR0.out); (case side2 => exact HC0.out); rintro e w15 ⟨rfl, hb⟩; refine ⟨_, rfl, ?_⟩; have n0_ := Ak (below_step (by exact eS HB.out) hb); clear HB; have HB := n0_; clear n0_; (try clear hb); (try clear hb2); (try clear hk); (try clear hi)))
  go_ret2
  exact ⟨by first | rfl | (simp [errW_none, errW_some] <;> rfl) | (simp [*, errW_none, errW_some] <;> rfl), by exact eS HB.out⟩
 subst c3
 have H1 : (Fs.l0 k l0 0 0) = some (r1, r2) := by rw [if_pos rfl] at H; exact H
 clear H
 have H := H1
 clear H1
 have H' := Ak H
 clear H
 go_enter Tryz.func22, Tryz.ntmps22
 go_wp2_with (first | ((with_reducible refine gate_callee (f := 32) rfl ?_); refine goesL_ (some 8) rfl rfl Tryz.func32 (by kernel_rfl) rfl #[.slice A0 l0.length c0] rfl (by (try simp only [List.map_toArray, List.map_cons, List.map_nil]); first | done | rfl | (simp only [List.length_drop, List.length_take]; rfl)) ?_; (with_reducible refine (Fm.calls k _ _ l0 true _ ?side1 ?side2 A2.out).mono ?_); (case side1 => exact Cs HR0.out); (case side2 => exact HC0.out); rintro e w4 ⟨rfl, hb⟩; refine ⟨_, rfl, ?_⟩; have n0_ := Ak (below_step (by exact eS HB.out) hb); clear HB; have HB := n0_; clear n0_; (try clear hb); (try clear hb2); (try clear hk); (try clear hi)))
 go_loopg [4, 5] k (fun kq v4 v5 w' => ∃ (x4_1 : Int) (x5_1 : Int), v4 = .int .i64 x4_1 ∧ v5 = .int .i64 x5_1 ∧ Aside0 (Fs.l0 kq l0 x4_1 x5_1 = some (r1, r2)) ∧ Aside0 (kq ≤ k) ∧ Aside0 (Below w.heap.size w w'))
 case atStart => exact ⟨(0), (0), (by first | rfl | (simp; done) | (simp [*]; done)), (by first | rfl | (simp; done) | (simp [*]; done)), H', ⟨Nat.le_refl _⟩, ⟨by exact eS HB.out⟩⟩
 case round =>
  clear H'; (try clear c2); (try clear p2); (try clear c3)
  obtain ⟨x4_1, x5_1, rfl, rfl, HA, HK1, HB⟩ := hrel
  cases gk with
  | zero => exact absurd HA.out (by simp [Fs.l0])
  | succ k1 =>
   have H := HA.out
   clear HA
   simp only [Fs.l0] at H
   by_cases c5 : x5_1 < (l0.length : Int)
   rotate_left
   ·rw [if_neg c5] at H
    have c5b0 : decide (x5_1 < (l0.length : Int)) = false := decide_eq_false c5
    clear c5
    simp only [Option.some.injEq, Prod.mk.injEq] at H
    obtain ⟨rfl, rfl⟩ := H
    go_wp2
    go_ret2
    exact ⟨by first | rfl | (simp [errW_none, errW_some] <;> rfl) | (simp [*, errW_none, errW_some] <;> rfl), by exact eS HB.out⟩
   rw [if_pos c5] at H
   have c5b0 : decide (x5_1 < (l0.length : Int)) = true := decide_eq_true c5
   clear c5
   by_cases c6 : 0 ≤ x5_1
   rotate_left
   ·rw [if_neg c6] at H
    exact absurd H (by simp)
   rw [if_pos c6] at H
   have c6b0 : decide (0 ≤ x5_1) = true := decide_eq_true c6
   clear c6
   by_cases c7 : ((rd_T34 l0 x5_1).f4) = 1
   ·rw [if_pos c7] at H
    have c7b0 : (((rd_T34 l0 x5_1).f4) == 1) = true := beq_iff_eq.mpr c7
    have c7b1 : (((rd_T34 l0 x5_1).f4) != 1) = false := bne_eq_false_iff_eq.mpr c7
    clear c7
    have H' := Ak H
    clear H
    have p102 : 0 ≤ (x5_1 : Int) := of_decide_eq_true (by first | (with_reducible assumption) | assumption)
    have q102 : x5_1 < (l0.length : Int) := of_decide_eq_true (by first | (with_reducible assumption) | assumption)
    obtain ⟨ad102, e102, hx102_0, hx102_1, hx102_2, hx102_3, hx102_4, hx102_5, hx102_6, hx102_7⟩ := at_T34 HR0.out x5_1 p102 q102
    cases e102
    replace hx102_0 := Sq.cB HB.out hx102_0
    replace hx102_1 := Sq.cB HB.out hx102_1
    replace hx102_2 := Sq.cB HB.out hx102_2
    replace hx102_3 := Sq.cB HB.out hx102_3
    replace hx102_4 := Sq.cB HB.out hx102_4
    replace hx102_5 := Sq.cB HB.out hx102_5
    replace hx102_6 := Sq.cB HB.out hx102_6
    replace hx102_7 := Sq.cB HB.out hx102_7
    replace p102 := eq_true p102; replace q102 := eq_true q102
    go_wp2_with (first | ((with_reducible refine gate_dst (N := 6) rfl ?_); refine box_event ?hg (N := 6) ?hd (cs := #[.int .i64 0, .string (⟨#[]⟩ : ByteArray), .int .i64 0, .int .i64 0, .int .i64 0, .int .i64 0, .int .i64 0, .int .i64 0]) (t := 34) ?hr ?_; (case hd => rfl); (case hg => rfl); (case hr => first | (go_simp; done) | (go_simp; rfl)); intro gb103 hg w8 hbox hb; have n0_ := Ak (below_step (by exact eS HB.out) hb); have n1_ := Ak (hbox); have n2_ := Ak ((by rw [hg]; exact (below_size (by exact eS HB.out)) : w.heap.size ≤ gb103)); have n3_ := Ak ((by rw [hg]; exact (below_size (by exact eS HB.out)) : w.heap.size ≤ gb103)); clear HB; have HB := n0_; have BK103 := n1_; have GW103 := n2_; have GE103 := n3_; clear n0_ n1_ n2_ n3_; clear hb hbox hg; obtain ⟨hcz9_0, hcz9_1, hcz9_2, hcz9_3, hcz9_4, hcz9_5, hcz9_6, hcz9_7, hfz9_0, hfz9_1, hfz9_2, hfz9_3, hfz9_4, hfz9_5, hfz9_6, hfz9_7⟩ := Sq.c8 BK103.out))
    go_roundg k1
    case measure => have := HK1.out; omega
    case rel => exact ⟨(wrap64 (x4_1 + (wrap64 (((rd_T34 l0 x5_1).f2) * ((rd_T34 l0 x5_1).f3))))), (wrap64 (x5_1 + 1)), (by first | rfl | (simp; done) | (simp [*]; done)), (by first | rfl | (simp; done) | (simp [*]; done)), H', ⟨by have := HK1.out; omega⟩, ⟨by repeat (first | (with_reducible first | exact HB.out | apply below_alloc | apply pw_below_drewN | apply below_drew1 | refine below_set ?_ GE103.out) | exact HB.out)⟩⟩
   rw [if_neg c7] at H
   have c7b0 : (((rd_T34 l0 x5_1).f4) == 1) = false := beq_eq_false_iff_ne.mpr c7
   have c7b1 : (((rd_T34 l0 x5_1).f4) != 1) = true := bne_iff_ne.mpr c7
   by_cases c10 : ((rd_T34 l0 x5_1).f4) = 2
   rotate_left
   ·rw [if_neg c10] at H
    have c10b0 : (((rd_T34 l0 x5_1).f4) == 2) = false := beq_eq_false_iff_ne.mpr c10
    have c10b1 : (((rd_T34 l0 x5_1).f4) != 2) = true := bne_iff_ne.mpr c10
    have H' := Ak H
    clear H
    have p102 : 0 ≤ (x5_1 : Int) := of_decide_eq_true (by first | (with_reducible assumption) | assumption)
    have q102 : x5_1 < (l0.length : Int) := of_decide_eq_true (by first | (with_reducible assumption) | assumption)
    obtain ⟨ad102, e102, hx102_0, hx102_1, hx102_2, hx102_3, hx102_4, hx102_5, hx102_6, hx102_7⟩ := at_T34 HR0.out x5_1 p102 q102
    cases e102
    replace hx102_0 := Sq.cB HB.out hx102_0
    replace hx102_1 := Sq.cB HB.out hx102_1
    replace hx102_2 := Sq.cB HB.out hx102_2
    replace hx102_3 := Sq.cB HB.out hx102_3
    replace hx102_4 := Sq.cB HB.out hx102_4
    replace hx102_5 := Sq.cB HB.out hx102_5
    replace hx102_6 := Sq.cB HB.out hx102_6
    replace hx102_7 := Sq.cB HB.out hx102_7
    replace p102 := eq_true p102; replace q102 := eq_true q102
    go_wp2_with (first | ((with_reducible refine gate_dst (N := 6) rfl ?_); refine box_event ?hg (N := 6) ?hd (cs := #[.int .i64 0, .string (⟨#[]⟩ : ByteArray), .int .i64 0, .int .i64 0, .int .i64 0, .int .i64 0, .int .i64 0, .int .i64 0]) (t := 34) ?hr ?_; (case hd => rfl); (case hg => rfl); (case hr => first | (go_simp; done) | (go_simp; rfl)); intro gb103 hg w13 hbox hb; have n0_ := Ak (below_step (by exact eS HB.out) hb); have n1_ := Ak (hbox); have n2_ := Ak ((by rw [hg]; exact (below_size (by exact eS HB.out)) : w.heap.size ≤ gb103)); have n3_ := Ak ((by rw [hg]; exact (below_size (by exact eS HB.out)) : w.heap.size ≤ gb103)); clear HB; have HB := n0_; have BK103 := n1_; have GW103 := n2_; have GE103 := n3_; clear n0_ n1_ n2_ n3_; clear hb hbox hg; obtain ⟨hcz14_0, hcz14_1, hcz14_2, hcz14_3, hcz14_4, hcz14_5, hcz14_6, hcz14_7, hfz14_0, hfz14_1, hfz14_2, hfz14_3, hfz14_4, hfz14_5, hfz14_6, hfz14_7⟩ := Sq.c8 BK103.out))
    go_roundg k1
    case measure => have := HK1.out; omega
    case rel => exact ⟨(x4_1), (wrap64 (x5_1 + 1)), (by first | rfl | (simp; done) | (simp [*]; done)), (by first | rfl | (simp; done) | (simp [*]; done)), H', ⟨by have := HK1.out; omega⟩, ⟨by repeat (first | (with_reducible first | exact HB.out | apply below_alloc | apply pw_below_drewN | apply below_drew1 | refine below_set ?_ GE103.out) | exact HB.out)⟩⟩
   rw [if_pos c10] at H
   have c10b0 : (((rd_T34 l0 x5_1).f4) == 2) = true := beq_iff_eq.mpr c10
   have c10b1 : (((rd_T34 l0 x5_1).f4) != 2) = false := bne_eq_false_iff_eq.mpr c10
   clear c10
   have H' := Ak H
   clear H
   have p102 : 0 ≤ (x5_1 : Int) := of_decide_eq_true (by first | (with_reducible assumption) | assumption)
   have q102 : x5_1 < (l0.length : Int) := of_decide_eq_true (by first | (with_reducible assumption) | assumption)
   obtain ⟨ad102, e102, hx102_0, hx102_1, hx102_2, hx102_3, hx102_4, hx102_5, hx102_6, hx102_7⟩ := at_T34 HR0.out x5_1 p102 q102
   cases e102
   replace hx102_0 := Sq.cB HB.out hx102_0
   replace hx102_1 := Sq.cB HB.out hx102_1
   replace hx102_2 := Sq.cB HB.out hx102_2
   replace hx102_3 := Sq.cB HB.out hx102_3
   replace hx102_4 := Sq.cB HB.out hx102_4
   replace hx102_5 := Sq.cB HB.out hx102_5
   replace hx102_6 := Sq.cB HB.out hx102_6
   replace hx102_7 := Sq.cB HB.out hx102_7
   replace p102 := eq_true p102; replace q102 := eq_true q102
   go_wp2_with (first | ((with_reducible refine gate_dst (N := 6) rfl ?_); refine box_event ?hg (N := 6) ?hd (cs := #[.int .i64 0, .string (⟨#[]⟩ : ByteArray), .int .i64 0, .int .i64 0, .int .i64 0, .int .i64 0, .int .i64 0, .int .i64 0]) (t := 34) ?hr ?_; (case hd => rfl); (case hg => rfl); (case hr => first | (go_simp; done) | (go_simp; rfl)); intro gb103 hg w11 hbox hb; have n0_ := Ak (below_step (by exact eS HB.out) hb); have n1_ := Ak (hbox); have n2_ := Ak ((by rw [hg]; exact (below_size (by exact eS HB.out)) : w.heap.size ≤ gb103)); have n3_ := Ak ((by rw [hg]; exact (below_size (by exact eS HB.out)) : w.heap.size ≤ gb103)); clear HB; have HB := n0_; have BK103 := n1_; have GW103 := n2_; have GE103 := n3_; clear n0_ n1_ n2_ n3_; clear hb hbox hg; obtain ⟨hcz12_0, hcz12_1, hcz12_2, hcz12_3, hcz12_4, hcz12_5, hcz12_6, hcz12_7, hfz12_0, hfz12_1, hfz12_2, hfz12_3, hfz12_4, hfz12_5, hfz12_6, hfz12_7⟩ := Sq.c8 BK103.out))
   go_roundg k1
   case measure => have := HK1.out; omega
   case rel => exact ⟨(wrap64 (x4_1 + (wrap64 (((rd_T34 l0 x5_1).f2) * ((rd_T34 l0 x5_1).f3))))), (wrap64 (x5_1 + 1)), (by first | rfl | (simp; done) | (simp [*]; done)), (by first | rfl | (simp; done) | (simp [*]; done)), H', ⟨by have := HK1.out; omega⟩, ⟨by repeat (first | (with_reducible first | exact HB.out | apply below_alloc | apply pw_below_drewN | apply below_drew1 | refine below_set ?_ GE103.out) | exact HB.out)⟩⟩
end Go.Proofs.YtahfahlbdgbfeaaGreatDoor.X

namespace Go.Proofs.YtahfahlbdgbfeaaGreatDoor.X
open Ho (bS eS RS Ak Cs Ct Cd)
open Go.RowKit Go.Proofs.YtahfahlbdgbfeaaGreatDoorW.PrintWords Go.Proofs.YtahfahlbdgbfeaaGreatDoorW.PrintLast Go.Proofs.YtahfahlbdgbfeaaGreatDoorW.PrintMore
attribute [local go_sem] max2_int min2_int max_two min_two max_three min_three max_four min_four   -- for this text's walks alone
set_option linter.unusedVariables false
set_option linter.unusedSimpArgs false
open Sq (I O Z Dz)
/-! ### Fah: function 33 -/
def Fah.l0 : Nat → List (S34) → ByteArray → Int → Int → Option (Int)
  | 0, _, _, _, _ => none
  | k + 1, x0, x1, x5, x6 => if x6 < (x0.length : Int) then (if 0 ≤ x6 then (if ((rd_T34 x0 x6).f1).toList = x1.toList then (Fah.l0 k x0 x1 (wrap64 (x5 + ((rd_T34 x0 x6).f6))) (wrap64 (x6 + 1))) else (Fah.l0 k x0 x1 x5 (wrap64 (x6 + 1)))) else (none)) else (some x5)
def Fah.f (k : Nat) (l0 : List (S34)) (a1 : ByteArray) : Option (Int) := Fah.l0 k l0 a1 0 0
theorem Fah.mono_l : ∀ k, (∀ y0 y1 y2 y3, LeO (Fah.l0 k y0 y1 y2 y3) (Fah.l0 (k + 1) y0 y1 y2 y3))
  | 0 => fun _ _ _ _ r h => by simp [Fah.l0] at h
  | k + 1 => by
    have ih0 := Fah.mono_l k
    · intro y0 y1 y2 y3
      unfold Fah.l0
      repeat' first | (with_reducible first | exact ih0 _ _ _ _ | exact LeO.refl _ | exact LeO.none _ | refine LeO.ite ?_ ?_ | refine LeO.bind ?_ (fun _ => ?_)) | exact ih0 _ _ _ _ | exact LeO.none _ | refine LeO.ite ?_ ?_ | refine LeO.bind ?_ (fun _ => ?_)
theorem Fah.mono : ∀ a0 a1 k, LeO (Fah.f k a0 a1) (Fah.f (k + 1) a0 a1) := by
  intro a0 a1 k
  have ih0 := Fah.mono_l k
  unfold Fah.f
  repeat' first | (with_reducible first | exact ih0 _ _ _ _ | exact LeO.refl _ | exact LeO.none _ | refine LeO.ite ?_ ?_ | refine LeO.bind ?_ (fun _ => ?_)) | exact ih0 _ _ _ _ | exact LeO.none _ | refine LeO.ite ?_ ?_ | refine LeO.bind ?_ (fun _ => ?_)
set_option maxHeartbeats 8000000 in
set_option maxRecDepth 100000 in
theorem Fah.calls (k : Nat) (A0 : Option Addr) (c0 : Nat) (l0 : List (S34)) (a1 : ByteArray) (r : Int) (w : World) (hr0 : Kd.C k34 w A0 l0.length l0) (hc0 : l0.length ≤ c0) (h : Fah.f k l0 a1 = some r) :
  Calls Tryz.prog 33 #[.slice A0 l0.length c0, .string a1] w fun e w' => e = .returned (.int .i64 r) ∧ Drawn0 w w' := by
 have HR0 := Ak hr0
 have HC0 := Ak hc0
 clear hr0 hc0
 have H : (Fah.l0 k l0 a1 0 0) = some r := h
 clear h
 have H' := Ak H
 clear H
 go_enter Tryz.func33, Tryz.ntmps33
 go_wp2
 go_loopg [5, 6] k (fun kq v5 v6 w' => ∃ (x5_1 : Int) (x6_1 : Int), v5 = .int .i64 x5_1 ∧ v6 = .int .i64 x6_1 ∧ Aside0 (Fah.l0 kq l0 a1 x5_1 x6_1 = some r) ∧ Aside0 (kq ≤ k) ∧ Drawn0 w w')
 case atStart => exact ⟨(0), (0), (by first | rfl | (simp; done) | (simp [*]; done)), (by first | rfl | (simp; done) | (simp [*]; done)), H', ⟨Nat.le_refl _⟩, by repeat (first | exact Drawn0.refl _ | apply Drawn0.step)⟩
 case round =>
  clear H'; (try clear p2)
  obtain ⟨x5_1, x6_1, rfl, rfl, HA, HK1, ⟨m1, rfl⟩⟩ := hrel
  cases gk with
  | zero => exact absurd HA.out (by simp [Fah.l0])
  | succ k1 =>
   have H := HA.out
   clear HA
   simp only [Fah.l0] at H
   by_cases c3 : x6_1 < (l0.length : Int)
   ·rw [if_pos c3] at H
    have c3b0 : decide (x6_1 < (l0.length : Int)) = true := decide_eq_true c3
    clear c3
    by_cases c4 : 0 ≤ x6_1
    ·rw [if_pos c4] at H
     have c4b0 : decide (0 ≤ x6_1) = true := decide_eq_true c4
     clear c4
     by_cases c5 : ((rd_T34 l0 x6_1).f1).toList = a1.toList
     ·rw [if_pos c5] at H
      have c5b0 : (((rd_T34 l0 x6_1).f1).toList == a1.toList) = true := beq_iff_eq.mpr c5
      have c5b1 : (((rd_T34 l0 x6_1).f1).toList != a1.toList) = false := bne_eq_false_iff_eq.mpr c5
      clear c5
      have H' := Ak H
      clear H
      have p101 : 0 ≤ (x6_1 : Int) := Dz
      have q101 : x6_1 < (l0.length : Int) := Dz
      obtain ⟨ad101, e101, hx101_0, hx101_1, hx101_2, hx101_3, hx101_4, hx101_5, hx101_6, hx101_7⟩ := at_T34 HR0.out x6_1 p101 q101
      cases e101
      replace p101 := eq_true p101; replace q101 := eq_true q101
      have p102 : 0 ≤ (x6_1 : Int) := Dz
      have q102 : x6_1 < (l0.length : Int) := Dz
      obtain ⟨ad102, e102, hx102_0, hx102_1, hx102_2, hx102_3, hx102_4, hx102_5, hx102_6, hx102_7⟩ := at_T34 HR0.out x6_1 p102 q102
      obtain rfl : ad101 = ad102 := (by injection e102)
      replace p102 := eq_true p102; replace q102 := eq_true q102
      go_wp2
      go_roundg k1
      case measure => have := HK1.out; omega
      case rel => exact ⟨(wrap64 (x5_1 + ((rd_T34 l0 x6_1).f6))), (wrap64 (x6_1 + 1)), (by first | rfl | (simp; done) | (simp [*]; done)), (by first | rfl | (simp; done) | (simp [*]; done)), H', ⟨by have := HK1.out; omega⟩, by repeat (first | exact Drawn0.refl _ | apply Drawn0.step)⟩
     ·rw [if_neg c5] at H
      have c5b0 : (((rd_T34 l0 x6_1).f1).toList == a1.toList) = false := beq_eq_false_iff_ne.mpr c5
      have c5b1 : (((rd_T34 l0 x6_1).f1).toList != a1.toList) = true := bne_iff_ne.mpr c5
      have H' := Ak H
      clear H
      have p101 : 0 ≤ (x6_1 : Int) := Dz
      have q101 : x6_1 < (l0.length : Int) := Dz
      obtain ⟨ad101, e101, hx101_0, hx101_1, hx101_2, hx101_3, hx101_4, hx101_5, hx101_6, hx101_7⟩ := at_T34 HR0.out x6_1 p101 q101
      cases e101
      replace p101 := eq_true p101; replace q101 := eq_true q101
      go_wp2
      go_roundg k1
      case measure => have := HK1.out; omega
      case rel => exact ⟨(x5_1), (wrap64 (x6_1 + 1)), (by first | rfl | (simp; done) | (simp [*]; done)), (by first | rfl | (simp; done) | (simp [*]; done)), H', ⟨by have := HK1.out; omega⟩, by repeat (first | exact Drawn0.refl _ | apply Drawn0.step)⟩
    ·rw [if_neg c4] at H
     exact absurd H (by simp)
   ·rw [if_neg c3] at H
    have c3b0 : decide (x6_1 < (l0.length : Int)) = false := decide_eq_false c3
    clear c3
    obtain rfl := Option.some.inj H
    go_wp2
    go_ret
    exact ⟨by first | rfl | (simp; done) | (simp [*]; done), by repeat (first | exact Drawn0.refl _ | apply Drawn0.step)⟩
end Go.Proofs.YtahfahlbdgbfeaaGreatDoor.X

namespace Go.Proofs.YtahfahlbdgbfeaaGreatDoor.X
open Ho (bS eS RS Ak Cs Ct Cd)
open Go.RowKit Go.Proofs.YtahfahlbdgbfeaaGreatDoorW.PrintWords Go.Proofs.YtahfahlbdgbfeaaGreatDoorW.PrintLast Go.Proofs.YtahfahlbdgbfeaaGreatDoorW.PrintMore
attribute [local go_sem] max2_int min2_int max_two min_two max_three min_three max_four min_four   -- for this text's walks alone
set_option linter.unusedVariables false
set_option linter.unusedSimpArgs false
open Sq (I O Z Dz)
/-! ### Fc: function 7 -/
mutual
def Fc.l0 : Nat → List (S34) → List ByteArray → List Int → Int → Option (List ByteArray × List Int × Bool)
  | 0, _, _, _, _ => none
  | k + 1, x0, x5, x6, x7 => if x7 < (x0.length : Int) then (if 0 ≤ x7 then (Fc.l1 k x0 x5 x6 x7 ((rd_T34 x0 x7).f1) false 0) else (none)) else (some (x5, x6, true))
def Fc.l1 : Nat → List (S34) → List ByteArray → List Int → Int → ByteArray → Bool → Int → Option (List ByteArray × List Int × Bool)
  | 0, _, _, _, _, _, _, _ => none
  | k + 1, x0, x5, x6, x7, x8, x9, x10 => if x10 < x7 then (if x9 = true then (Fc.l1 k x0 x5 x6 x7 x8 true (wrap64 (x10 + 1))) else (if 0 ≤ x10 then (if x10 < (x0.length : Int) then (Fc.l1 k x0 x5 x6 x7 x8 (((rd_T34 x0 x10).f1).toList == x8.toList) (wrap64 (x10 + 1))) else (none)) else (none))) else (if x9 = true then (Fc.l0 k x0 x5 x6 (wrap64 (x7 + 1))) else ((Fah.f k x0 x8).bind fun t110 => (Fc.l2 k x0 x5 x6 x7 x8 (x5.length : Int) t110)))
def Fc.l2 : Nat → List (S34) → List ByteArray → List Int → Int → ByteArray → Int → Int → Option (List ByteArray × List Int × Bool)
  | 0, _, _, _, _, _, _, _ => none
  | k + 1, x0, x5, x6, x7, x8, x11, x12 => if x11 > 0 then (if 0 ≤ (wrap64 (x11 - 1)) then (if (wrap64 (x11 - 1)) < (x6.length : Int) then (if (rd x6 (wrap64 (x11 - 1))) < x12 then (Fc.l2 k x0 x5 x6 x7 x8 (wrap64 (x11 - 1)) x12) else (if (rd x6 (wrap64 (x11 - 1))) = x12 then (if (wrap64 (x11 - 1)) < (x5.length : Int) then (if (Op.bytesLess x8.toList ((rdOf ByteArray.empty x5 (wrap64 (x11 - 1))).toList)) = true then (Fc.l2 k x0 x5 x6 x7 x8 (wrap64 (x11 - 1)) x12) else ((some (([] : List ByteArray) : List ByteArray)).bind fun y114 => (if 0 ≤ x11 then (if x11 ≤ (x5.length : Int) then ((some (x5.take (x11 : Int).toNat : List ByteArray)).bind fun y117 => (if y114.length + y117.length < 8796093022208 then ((some (y114 ++ y117 : List ByteArray)).bind fun y121 => ((some (([x8] : List ByteArray) : List ByteArray)).bind fun y124 => (if y121.length + y124.length < 8796093022208 then ((some (y121 ++ y124 : List ByteArray)).bind fun y127 => ((some (x5.drop (x11 : Int).toNat : List ByteArray)).bind fun y130 => (if y127.length + y130.length < 8796093022208 then ((some (([] : List Int) : List Int)).bind fun y137 => (if x11 ≤ (x6.length : Int) then ((some (x6.take (x11 : Int).toNat : List Int)).bind fun y140 => (if y137.length + y140.length < 17592186044416 then ((some (y137 ++ y140 : List Int)).bind fun y144 => ((some (([x12] : List Int) : List Int)).bind fun y147 => (if y144.length + y147.length < 17592186044416 then ((some (y144 ++ y147 : List Int)).bind fun y150 => ((some (x6.drop (x11 : Int).toNat : List Int)).bind fun y153 => (if y150.length + y153.length < 17592186044416 then (Fc.l0 k x0 (y127 ++ y130) (y150 ++ y153) (wrap64 (x7 + 1))) else (none)))) else (none)))) else (none))) else (none))) else (none)))) else (none)))) else (none))) else (none)) else (none)))) else (none)) else ((some (([] : List ByteArray) : List ByteArray)).bind fun y160 => (if 0 ≤ x11 then (if x11 ≤ (x5.length : Int) then ((some (x5.take (x11 : Int).toNat : List ByteArray)).bind fun y163 => (if y160.length + y163.length < 8796093022208 then ((some (y160 ++ y163 : List ByteArray)).bind fun y167 => ((some (([x8] : List ByteArray) : List ByteArray)).bind fun y170 => (if y167.length + y170.length < 8796093022208 then ((some (y167 ++ y170 : List ByteArray)).bind fun y173 => ((some (x5.drop (x11 : Int).toNat : List ByteArray)).bind fun y176 => (if y173.length + y176.length < 8796093022208 then ((some (([] : List Int) : List Int)).bind fun y183 => (if x11 ≤ (x6.length : Int) then ((some (x6.take (x11 : Int).toNat : List Int)).bind fun y186 => (if y183.length + y186.length < 17592186044416 then ((some (y183 ++ y186 : List Int)).bind fun y190 => ((some (([x12] : List Int) : List Int)).bind fun y193 => (if y190.length + y193.length < 17592186044416 then ((some (y190 ++ y193 : List Int)).bind fun y196 => ((some (x6.drop (x11 : Int).toNat : List Int)).bind fun y199 => (if y196.length + y199.length < 17592186044416 then (Fc.l0 k x0 (y173 ++ y176) (y196 ++ y199) (wrap64 (x7 + 1))) else (none)))) else (none)))) else (none))) else (none))) else (none)))) else (none)))) else (none))) else (none)) else (none))))) else (none)) else (none)) else ((some (([] : List ByteArray) : List ByteArray)).bind fun y206 => (if 0 ≤ x11 then (if x11 ≤ (x5.length : Int) then ((some (x5.take (x11 : Int).toNat : List ByteArray)).bind fun y209 => (if y206.length + y209.length < 8796093022208 then ((some (y206 ++ y209 : List ByteArray)).bind fun y213 => ((some (([x8] : List ByteArray) : List ByteArray)).bind fun y216 => (if y213.length + y216.length < 8796093022208 then ((some (y213 ++ y216 : List ByteArray)).bind fun y219 => ((some (x5.drop (x11 : Int).toNat : List ByteArray)).bind fun y222 => (if y219.length + y222.length < 8796093022208 then ((some (([] : List Int) : List Int)).bind fun y229 => (if x11 ≤ (x6.length : Int) then ((some (x6.take (x11 : Int).toNat : List Int)).bind fun y232 => (if y229.length + y232.length < 17592186044416 then ((some (y229 ++ y232 : List Int)).bind fun y236 => ((some (([x12] : List Int) : List Int)).bind fun y239 => (if y236.length + y239.length < 17592186044416 then ((some (y236 ++ y239 : List Int)).bind fun y242 => ((some (x6.drop (x11 : Int).toNat : List Int)).bind fun y245 => (if y242.length + y245.length < 17592186044416 then (Fc.l0 k x0 (y219 ++ y222) (y242 ++ y245) (wrap64 (x7 + 1))) else (none)))) else (none)))) else (none))) else (none))) else (none)))) else (none)))) else (none))) else (none)) else (none)))
end
def Fc.e2 (k : Nat) (x0 : List (S34)) (x5 : List ByteArray) (x6 : List Int) (x7 : Int) (x8 : ByteArray) (x11 x12 : Int) : Option (List ByteArray × List Int × Bool) := ((some (([] : List ByteArray) : List ByteArray)).bind fun y206 => (if 0 ≤ x11 then (if x11 ≤ (x5.length : Int) then ((some (x5.take (x11 : Int).toNat : List ByteArray)).bind fun y209 => (if y206.length + y209.length < 8796093022208 then ((some (y206 ++ y209 : List ByteArray)).bind fun y213 => ((some (([x8] : List ByteArray) : List ByteArray)).bind fun y216 => (if y213.length + y216.length < 8796093022208 then ((some (y213 ++ y216 : List ByteArray)).bind fun y219 => ((some (x5.drop (x11 : Int).toNat : List ByteArray)).bind fun y222 => (if y219.length + y222.length < 8796093022208 then ((some (([] : List Int) : List Int)).bind fun y229 => (if x11 ≤ (x6.length : Int) then ((some (x6.take (x11 : Int).toNat : List Int)).bind fun y232 => (if y229.length + y232.length < 17592186044416 then ((some (y229 ++ y232 : List Int)).bind fun y236 => ((some (([x12] : List Int) : List Int)).bind fun y239 => (if y236.length + y239.length < 17592186044416 then ((some (y236 ++ y239 : List Int)).bind fun y242 => ((some (x6.drop (x11 : Int).toNat : List Int)).bind fun y245 => (if y242.length + y245.length < 17592186044416 then (Fc.l0 k x0 (y219 ++ y222) (y242 ++ y245) (wrap64 (x7 + 1))) else (none)))) else (none)))) else (none))) else (none))) else (none)))) else (none)))) else (none))) else (none)) else (none)))
def Fc.f (k : Nat) (l0 : List (S34)) : Option (List ByteArray × List Int × Bool) := (some (([] : List ByteArray) : List ByteArray)).bind fun y101 => ((some (([] : List Int) : List Int)).bind fun y104 => ((Fm.f k l0).bind fun t107 => (if t107 = true then (Fc.l0 k l0 y101 y104 0) else (some (y101, y104, false)))))
theorem Fc.mono_l : ∀ k, (∀ y0 y1 y2 y3, LeO (Fc.l0 k y0 y1 y2 y3) (Fc.l0 (k + 1) y0 y1 y2 y3)) ∧ (∀ y0 y1 y2 y3 y4 y5 y6, LeO (Fc.l1 k y0 y1 y2 y3 y4 y5 y6) (Fc.l1 (k + 1) y0 y1 y2 y3 y4 y5 y6)) ∧ (∀ y0 y1 y2 y3 y4 y5 y6, LeO (Fc.l2 k y0 y1 y2 y3 y4 y5 y6) (Fc.l2 (k + 1) y0 y1 y2 y3 y4 y5 y6))
  | 0 => ⟨fun _ _ _ _ r h => by simp [Fc.l0] at h, fun _ _ _ _ _ _ _ r h => by simp [Fc.l1] at h, fun _ _ _ _ _ _ _ r h => by simp [Fc.l2] at h⟩
  | k + 1 => by
    obtain ⟨ih0, ih1, ih2⟩ := Fc.mono_l k
    refine ⟨?_, ?_, ?_⟩
    · intro y0 y1 y2 y3
      unfold Fc.l0
      repeat' first | (with_reducible first | exact ih0 _ _ _ _ | exact ih1 _ _ _ _ _ _ _ | exact ih2 _ _ _ _ _ _ _ | exact Fm.mono _ _ | exact Fah.mono _ _ _ | exact LeO.refl _ | exact LeO.none _ | refine LeO.ite ?_ ?_ | refine LeO.bind ?_ (fun _ => ?_)) | exact ih0 _ _ _ _ | exact ih1 _ _ _ _ _ _ _ | exact ih2 _ _ _ _ _ _ _ | exact Fm.mono _ _ | exact Fah.mono _ _ _ | exact LeO.none _ | refine LeO.ite ?_ ?_ | refine LeO.bind ?_ (fun _ => ?_)
    · intro y0 y1 y2 y3 y4 y5 y6
      unfold Fc.l1
      repeat' first | (with_reducible first | exact ih0 _ _ _ _ | exact ih1 _ _ _ _ _ _ _ | exact ih2 _ _ _ _ _ _ _ | exact Fm.mono _ _ | exact Fah.mono _ _ _ | exact LeO.refl _ | exact LeO.none _ | refine LeO.ite ?_ ?_ | refine LeO.bind ?_ (fun _ => ?_)) | exact ih0 _ _ _ _ | exact ih1 _ _ _ _ _ _ _ | exact ih2 _ _ _ _ _ _ _ | exact Fm.mono _ _ | exact Fah.mono _ _ _ | exact LeO.none _ | refine LeO.ite ?_ ?_ | refine LeO.bind ?_ (fun _ => ?_)
    · intro y0 y1 y2 y3 y4 y5 y6
      unfold Fc.l2
      repeat' first | (with_reducible first | exact ih0 _ _ _ _ | exact ih1 _ _ _ _ _ _ _ | exact ih2 _ _ _ _ _ _ _ | exact Fm.mono _ _ | exact Fah.mono _ _ _ | exact LeO.refl _ | exact LeO.none _ | refine LeO.ite ?_ ?_ | refine LeO.bind ?_ (fun _ => ?_)) | exact ih0 _ _ _ _ | exact ih1 _ _ _ _ _ _ _ | exact ih2 _ _ _ _ _ _ _ | exact Fm.mono _ _ | exact Fah.mono _ _ _ | exact LeO.none _ | refine LeO.ite ?_ ?_ | refine LeO.bind ?_ (fun _ => ?_)
theorem Fc.mono : ∀ a0 k, LeO (Fc.f k a0) (Fc.f (k + 1) a0) := by
  intro a0 k
  obtain ⟨ih0, ih1, ih2⟩ := Fc.mono_l k
  unfold Fc.f
  repeat' first | (with_reducible first | exact ih0 _ _ _ _ | exact ih1 _ _ _ _ _ _ _ | exact ih2 _ _ _ _ _ _ _ | exact Fm.mono _ _ | exact Fah.mono _ _ _ | exact LeO.refl _ | exact LeO.none _ | refine LeO.ite ?_ ?_ | refine LeO.bind ?_ (fun _ => ?_)) | exact ih0 _ _ _ _ | exact ih1 _ _ _ _ _ _ _ | exact ih2 _ _ _ _ _ _ _ | exact Fm.mono _ _ | exact Fah.mono _ _ _ | exact LeO.none _ | refine LeO.ite ?_ ?_ | refine LeO.bind ?_ (fun _ => ?_)
def Fc.T16 : Bool × List (List Nat × List Nat) := (true, [([], []), ([], []), ([], []), ([1, 2], [1, 2]), ([0, 3], [0, 3]), ([], []), ([5], [5]), ([4, 6, 4], [4, 6]), ([], []), ([], []), ([8, 9], [8, 9]), ([7, 10, 7], [7, 10]), ([11, 11, 0, 1, 2, 3, 4, 5, 6, 7, 8, 9, 10, 11], [1, 8, 11])])
def Fc.B16 : List Nat := [0, 0, 0, 6, 15, 0, 32, 127, 0, 0, 768, 2047, 4095]
theorem Fc.tab16 : rtab .any (opsOf Tryz.f7 16) = Fc.T16 := by kernel_rfl
theorem Fc.bits16 : waitsOk Fc.T16.2 Fc.B16 = true := by kernel_rfl
def Fc.T17 : Bool × List (List Nat × List Nat) := (true, [([], []), ([], []), ([], []), ([1, 2], [1, 2]), ([0, 3], [0, 3]), ([], []), ([5], [5]), ([4, 6, 4], [4, 6]), ([], []), ([], []), ([8, 9], [8, 9]), ([7, 10, 7], [7, 10]), ([11, 11, 0, 1, 2, 3, 4, 5, 6, 7, 8, 9, 10, 11], [1, 8, 11])])
def Fc.B17 : List Nat := [0, 0, 0, 6, 15, 0, 32, 127, 0, 0, 768, 2047, 4095]
theorem Fc.tab17 : rtab .any (opsOf Tryz.f7 17) = Fc.T17 := by kernel_rfl
theorem Fc.bits17 : waitsOk Fc.T17.2 Fc.B17 = true := by kernel_rfl
theorem Fc.gtrL_ : ∀ x y : List UInt8, (!(Op.bytesLess x y || x == y)) = Op.bytesLess y x
  | [], [] => rfl
  | [], _ :: _ => rfl
  | _ :: _, [] => rfl
  | a :: x, b :: y => by
    have ih := Fc.gtrL_ x y
    simp only [Op.bytesLess]
    rcases Nat.lt_trichotomy a.toNat b.toNat with h | h | h
    · have h1 : a < b := h
      have h2 : ¬ b < a := fun h' => absurd (Nat.lt_trans h h') (Nat.lt_irrefl _)
      have h3 : (b == a) = false := by rw [beq_eq_false_iff_ne]; rintro rfl; exact Nat.lt_irrefl _ h
      simp [h1, h2, h3]
    · have h1 : a = b := UInt8.toNat_inj.mp h
      subst h1
      have h2 : ¬ a < a := fun h' => absurd h' (Nat.lt_irrefl _)
      rw [← ih]; simp [h2]
    · have h1 : b < a := h
      have h2 : ¬ a < b := fun h' => absurd (Nat.lt_trans h h') (Nat.lt_irrefl _)
      have h3 : (a == b) = false := by rw [beq_eq_false_iff_ne]; rintro rfl; exact Nat.lt_irrefl _ h
      simp [h1, h2, h3]
theorem Fc.gtr_ (t : TypeId) (a b : ByteArray) : binOp .gtr t (.string a) (.string b) = pure (.bool (Op.bytesLess b.toList a.toList)) := by
  rw [← Fc.gtrL_]; simp [binOp, Op.stringOp]
attribute [local go_sem] Fc.gtr_
set_option maxHeartbeats 8000000 in
set_option maxRecDepth 100000 in
theorem Fc.calls (k : Nat) (A0 : Option Addr) (c0 : Nat) (l0 : List (S34)) (r1 : List ByteArray) (r2 : List Int) (r3 : Bool) (w : World) (hr0 : Kd.C k34 w A0 l0.length l0) (hc0 : l0.length ≤ c0) (h : Fc.f k l0 = some (r1, r2, r3)) :
  Calls Tryz.prog 7 #[.slice A0 l0.length c0] w fun e w' => ∃ v0_ v1_ : Value, e = .returned (.tuple #[v0_, v1_, .bool r3]) ∧ Kd.R Kd.string 9 w' w.heap.size (fun _ => True) v0_ r1 ∧ Kd.R (Kd.int .i64) 3 w' w.heap.size (fun _ => True) v1_ r2 ∧ Below w.heap.size w w' := by
 have HR0 := Ak hr0
 have HC0 := Ak hc0
 clear hr0 hc0
 have HB := Ak (Below.refl w.heap.size w)
 have H : ((some (([] : List ByteArray) : List ByteArray)).bind fun y101 => ((some (([] : List Int) : List Int)).bind fun y104 => ((Fm.f k l0).bind fun t107 => (if t107 = true then (Fc.l0 k l0 y101 y104 0) else (some (y101, y104, false)))))) = some (r1, r2, r3) := h
 clear h
 obtain ⟨y101, hy101⟩ : ∃ y_ : List ByteArray, y_ = (([] : List ByteArray)) := ⟨_, rfl⟩
 replace H : ((some (([] : List Int) : List Int)).bind fun y104 => ((Fm.f k l0).bind fun t107 => (if t107 = true then (Fc.l0 k l0 y101 y104 0) else (some (y101, y104, false))))) = some (r1, r2, r3) := by first | (rw [hy101]; with_reducible exact H) | (have H2_ := (Option.bind_some _ _).symm.trans H; rw [hy101]; with_reducible exact H2_) | (have H2_ := (Option.bind_some _ _).symm.trans H; with_reducible exact H2_) | with_reducible exact H | (rw [hy101]; exact H) | exact H
 have Ny101 := Ak hy101
 clear hy101
 obtain ⟨y104, hy104⟩ : ∃ y_ : List Int, y_ = (([] : List Int)) := ⟨_, rfl⟩
 replace H : ((Fm.f k l0).bind fun t107 => (if t107 = true then (Fc.l0 k l0 y101 y104 0) else (some (y101, y104, false)))) = some (r1, r2, r3) := by first | (rw [hy104]; with_reducible exact H) | (have H2_ := (Option.bind_some _ _).symm.trans H; rw [hy104]; with_reducible exact H2_) | (have H2_ := (Option.bind_some _ _).symm.trans H; with_reducible exact H2_) | with_reducible exact H | (rw [hy104]; exact H) | exact H
 have Ny104 := Ak hy104
 clear hy104
 replace H := Option.bind_eq_some_iff.mp H
 obtain ⟨t107, A20, H⟩ := H
 (try dsimp only at H)
 have A2 := Ak A20
 clear A20
 by_cases c3 : t107 = true
 rotate_left
 ·replace c3 := Bool.eq_false_iff.mpr c3
  subst c3
  have H1 : (some (y101, y104, false)) = some (r1, r2, r3) := by rw [if_neg (show ¬ (false = true) by decide)] at H; exact H
  clear H
  have H := H1
  clear H1
  simp only [Option.some.injEq, Prod.mk.injEq] at H
  obtain ⟨rfl, rfl, rfl⟩ := H
  go_enter Tryz.func7, Tryz.ntmps7
  go_wp2_with (first | ((with_reducible refine gate_dst (N := 13) rfl ?_); refine Kd.R_lit Kd.string _ 9 ?hg (N := 13) ?hd (xs := ([] : List ByteArray)) (inner := []) (ok := fun _ => True) (okp := fun _ => True) ?hr ?hp (fun _ hk => hk) trivial (Below.refl _ _) (Nat.le_refl _) (by simp) ?_; (case hd => rfl); (case hg => rfl); (case hr => first | (go_simp; done) | (go_simp; rfl)); (case hp => exact (Reps.none _ _)); intro v102 w145 ho146 hb hg_ hnew_; clear hg_ hnew_; (first | rw [← Ny101.out] at ho146 | (simp only [Int.reduceToNat] at ho146; rw [← Ny101.out] at ho146)); have n0_ := Ak (Kd.R_lower ho146 (below_size (by exact eS HB.out))); have n1_ := Ak (below_step (by exact eS HB.out) hb); clear HB; have HO103 := n0_; have HB := n1_; clear n0_ n1_; clear hb ho146) | ((with_reducible refine gate_dst (N := 14) rfl ?_); refine Kd.R_lit (Kd.int .i64) _ 3 ?hg (N := 14) ?hd (xs := ([] : List Int)) (inner := []) (ok := fun _ => True) (okp := fun _ => True) ?hr ?hp (fun _ hk => hk) trivial (Below.refl _ _) (Nat.le_refl _) (by simp) ?_; (case hd => rfl); (case hg => rfl); (case hr => first | (go_simp; done) | (go_simp; rfl)); (case hp => exact (Reps.none _ _)); intro v105 w147 ho148 hb hg_ hnew_; clear hg_ hnew_; (first | rw [← Ny104.out] at ho148 | (simp only [Int.reduceToNat] at ho148; rw [← Ny104.out] at ho148)); have n0_ := Ak (Kd.R_below (by exact RS <| HO103.out) hb); have n1_ := Ak (Kd.R_lower ho148 (below_size (by exact eS HB.out))); have n2_ := Ak (below_step (by exact eS HB.out) hb); clear HO103; clear HB; have HO103 := n0_; have HO106 := n1_; have HB := n2_; clear n0_ n1_ n2_; clear hb ho148) | ((with_reducible refine gate_callee (f := 32) rfl ?_); refine goesL_ (some 16) rfl rfl Tryz.func32 (by kernel_rfl) rfl #[.slice A0 l0.length c0] rfl (by (try simp only [List.map_toArray, List.map_cons, List.map_nil]); first | done | rfl | (simp only [List.length_drop, List.length_take]; rfl)) ?_; (with_reducible refine (Fm.calls k _ _ l0 false _ ?side1 ?side2 A2.out).mono ?_); (case side1 => repeat (first | exact (Kd.C_below HR0.out HB.out) | (with_reducible refine Kd.C_alloc ?_ _) | (with_reducible refine Kd.C_drewN ?_ _) | (with_reducible refine Kd.C_drew ?_))); (case side2 => exact HC0.out); rintro e w149 ⟨rfl, hb⟩; refine ⟨_, rfl, ?_⟩; have n0_ := Ak (Kd.R_below (by exact RS <| HO103.out) hb); have n1_ := Ak (Kd.R_below (by exact RS <| HO106.out) hb); have n2_ := Ak (below_step (by exact eS HB.out) hb); clear HO103; clear HO106; clear HB; have HO103 := n0_; have HO106 := n1_; have HB := n2_; clear n0_ n1_ n2_; (try clear hb); (try clear hb2); (try clear hk); (try clear hi)))
  go_ret3
  exact ⟨_, _, by first | rfl | (simp [errW_none, errW_some] <;> rfl) | (simp [*, errW_none, errW_some] <;> rfl), by exact RS <| HO103.out, by exact RS <| HO106.out, by exact eS HB.out⟩
 subst c3
 have H1 : (Fc.l0 k l0 y101 y104 0) = some (r1, r2, r3) := by rw [if_pos rfl] at H; exact H
 clear H
 have H := H1
 clear H1
 have H' := Ak H
 clear H
 go_enter Tryz.func7, Tryz.ntmps7
 go_wp2_with (first | ((with_reducible refine gate_dst (N := 13) rfl ?_); refine Kd.R_lit Kd.string _ 9 ?hg (N := 13) ?hd (xs := ([] : List ByteArray)) (inner := []) (ok := fun _ => True) (okp := fun _ => True) ?hr ?hp (fun _ hk => hk) trivial (Below.refl _ _) (Nat.le_refl _) (by simp) ?_; (case hd => rfl); (case hg => rfl); (case hr => first | (go_simp; done) | (go_simp; rfl)); (case hp => exact (Reps.none _ _)); intro v102 w4 ho5 hb hg_ hnew_; clear hg_ hnew_; (first | rw [← Ny101.out] at ho5 | (simp only [Int.reduceToNat] at ho5; rw [← Ny101.out] at ho5)); have n0_ := Ak (Kd.R_lower ho5 (below_size (by exact eS HB.out))); have n1_ := Ak (below_step (by exact eS HB.out) hb); clear HB; have HO103 := n0_; have HB := n1_; clear n0_ n1_; clear hb ho5) | ((with_reducible refine gate_dst (N := 14) rfl ?_); refine Kd.R_lit (Kd.int .i64) _ 3 ?hg (N := 14) ?hd (xs := ([] : List Int)) (inner := []) (ok := fun _ => True) (okp := fun _ => True) ?hr ?hp (fun _ hk => hk) trivial (Below.refl _ _) (Nat.le_refl _) (by simp) ?_; (case hd => rfl); (case hg => rfl); (case hr => first | (go_simp; done) | (go_simp; rfl)); (case hp => exact (Reps.none _ _)); intro v105 w6 ho7 hb hg_ hnew_; clear hg_ hnew_; (first | rw [← Ny104.out] at ho7 | (simp only [Int.reduceToNat] at ho7; rw [← Ny104.out] at ho7)); have n0_ := Ak (Kd.R_below (by exact RS <| HO103.out) hb); have n1_ := Ak (Kd.R_lower ho7 (below_size (by exact eS HB.out))); have n2_ := Ak (below_step (by exact eS HB.out) hb); clear HO103; clear HB; have HO103 := n0_; have HO106 := n1_; have HB := n2_; clear n0_ n1_ n2_; clear hb ho7) | ((with_reducible refine gate_callee (f := 32) rfl ?_); refine goesL_ (some 16) rfl rfl Tryz.func32 (by kernel_rfl) rfl #[.slice A0 l0.length c0] rfl (by (try simp only [List.map_toArray, List.map_cons, List.map_nil]); first | done | rfl | (simp only [List.length_drop, List.length_take]; rfl)) ?_; (with_reducible refine (Fm.calls k _ _ l0 true _ ?side1 ?side2 A2.out).mono ?_); (case side1 => repeat (first | exact (Kd.C_below HR0.out HB.out) | (with_reducible refine Kd.C_alloc ?_ _) | (with_reducible refine Kd.C_drewN ?_ _) | (with_reducible refine Kd.C_drew ?_))); (case side2 => exact HC0.out); rintro e w8 ⟨rfl, hb⟩; refine ⟨_, rfl, ?_⟩; have n0_ := Ak (Kd.R_below (by exact RS <| HO103.out) hb); have n1_ := Ak (Kd.R_below (by exact RS <| HO106.out) hb); have n2_ := Ak (below_step (by exact eS HB.out) hb); clear HO103; clear HO106; clear HB; have HO103 := n0_; have HO106 := n1_; have HB := n2_; clear n0_ n1_ n2_; (try clear hb); (try clear hb2); (try clear hk); (try clear hi)))
 go_loopg [5, 6, 7] k (fun kq v5 v6 v7 w' => ∃ (x5_1 : List ByteArray) (x6_1 : List Int) (x7_1 : Int), v7 = .int .i64 x7_1 ∧ Aside0 (Fc.l0 kq l0 x5_1 x6_1 x7_1 = some (r1, r2, r3)) ∧ Aside0 (kq ≤ k) ∧ Aside0 (Kd.R Kd.string 9 w' w.heap.size (fun _ => True) v5 x5_1) ∧ Aside0 (Kd.R (Kd.int .i64) 3 w' w.heap.size (fun _ => True) v6 x6_1) ∧ Aside0 (Below w.heap.size w w'))
 case atStart => exact ⟨(y101), (y104), (0), (by first | rfl | (simp; done) | (simp [*]; done)), H', ⟨Nat.le_refl _⟩, ⟨by exact RS <| HO103.out⟩, ⟨by exact RS <| HO106.out⟩, ⟨by exact eS HB.out⟩⟩
 case round =>
  clear H'; (try clear p2); (try clear c3); (try clear c7)
  obtain ⟨x5_1, x6_1, x7_1, rfl, HA, HK1, HO_5, HO_6, HB⟩ := hrel
  cases gk with
  | zero => exact absurd HA.out (by simp [Fc.l0])
  | succ k1 =>
   have H := HA.out
   clear HA
   simp only [Fc.l0] at H
   by_cases c9 : x7_1 < (l0.length : Int)
   rotate_left
   ·rw [if_neg c9] at H
    have c9b0 : decide (x7_1 < (l0.length : Int)) = false := decide_eq_false c9
    clear c9
    simp only [Option.some.injEq, Prod.mk.injEq] at H
    obtain ⟨rfl, rfl, rfl⟩ := H
    go_wp2
    go_ret3
    exact ⟨_, _, by first | rfl | (simp [errW_none, errW_some] <;> rfl) | (simp [*, errW_none, errW_some] <;> rfl), by exact RS <| HO_5.out, by exact RS <| HO_6.out, by exact eS HB.out⟩
   rw [if_pos c9] at H
   have c9b0 : decide (x7_1 < (l0.length : Int)) = true := decide_eq_true c9
   clear c9
   by_cases c10 : 0 ≤ x7_1
   rotate_left
   ·rw [if_neg c10] at H
    exact absurd H (by simp)
   rw [if_pos c10] at H
   have c10b0 : decide (0 ≤ x7_1) = true := decide_eq_true c10
   clear c10
   have H' := Ak H
   clear H
   have p108 : 0 ≤ (x7_1 : Int) := Dz
   have q108 : x7_1 < (l0.length : Int) := Dz
   obtain ⟨ad108, e108, hx108_0, hx108_1, hx108_2, hx108_3, hx108_4, hx108_5, hx108_6, hx108_7⟩ := at_T34 HR0.out x7_1 p108 q108
   cases e108
   replace hx108_0 := Sq.cB HB.out hx108_0
   replace hx108_1 := Sq.cB HB.out hx108_1
   replace hx108_2 := Sq.cB HB.out hx108_2
   replace hx108_3 := Sq.cB HB.out hx108_3
   replace hx108_4 := Sq.cB HB.out hx108_4
   replace hx108_5 := Sq.cB HB.out hx108_5
   replace hx108_6 := Sq.cB HB.out hx108_6
   replace hx108_7 := Sq.cB HB.out hx108_7
   replace p108 := eq_true p108; replace q108 := eq_true q108
   go_wp2
   go_loopg [9, 10] k1 (fun kq v9 v10 w' => ∃ (x9_2 : Bool) (x10_2 : Int), v9 = .bool x9_2 ∧ v10 = .int .i64 x10_2 ∧ Aside0 (Fc.l1 kq l0 x5_1 x6_1 x7_1 ((rd_T34 l0 x7_1).f1) x9_2 x10_2 = some (r1, r2, r3)) ∧ Aside0 (kq ≤ k1) ∧ Aside0 (Kd.R Kd.string 9 w' w.heap.size (fun _ => True) u5 x5_1) ∧ Aside0 (Kd.R (Kd.int .i64) 3 w' w.heap.size (fun _ => True) u6 x6_1) ∧ Aside0 (Below w.heap.size w w'))
   case atStart => exact ⟨(false), (0), (by first | rfl | (simp; done) | (simp [*]; done)), (by first | rfl | (simp; done) | (simp [*]; done)), H', ⟨Nat.le_refl _⟩, ⟨by exact RS <| HO_5.out⟩, ⟨by exact RS <| HO_6.out⟩, ⟨by exact eS HB.out⟩⟩
   case round =>
    clear H'; (try clear c1); (try clear p1); (try clear q1); (try clear hx1); (try clear p2); (try clear c3); (try clear c7); (try clear c9); (try clear c9b0); (try clear c10); (try clear c10b0); (try clear p10); (try clear q10); (try clear hx10); (try clear hx108_0); (try clear hx108_1); (try clear hx108_2); (try clear hx108_3); (try clear hx108_4); (try clear hx108_5); (try clear hx108_6); (try clear hx108_7); (try clear p108); (try clear p2); (try clear q108)
    obtain ⟨x9_2, x10_2, rfl, rfl, HA, HK2, HO_5, HO_6, HB⟩ := hrel
    cases gk with
    | zero => exact absurd HA.out (by simp [Fc.l1])
    | succ k2 =>
     have H := HA.out
     clear HA
     simp only [Fc.l1] at H
     by_cases c11 : x10_2 < x7_1
     ·rw [if_pos c11] at H
      have c11b0 : decide (x10_2 < x7_1) = true := decide_eq_true c11
      clear c11
      by_cases c12 : x9_2 = true
      ·subst c12
       have H1 : (Fc.l1 k2 l0 x5_1 x6_1 x7_1 ((rd_T34 l0 x7_1).f1) true (wrap64 (x10_2 + 1))) = some (r1, r2, r3) := by rw [if_pos rfl] at H; exact H
       clear H
       have H := H1
       clear H1
       have H' := Ak H
       clear H
       go_wp2
       go_roundg k2
       case measure => have := HK1.out; have := HK2.out; omega
       case rel => exact ⟨(true), (wrap64 (x10_2 + 1)), (by first | rfl | (simp; done) | (simp [*]; done)), (by first | rfl | (simp; done) | (simp [*]; done)), H', ⟨by have := HK1.out; have := HK2.out; omega⟩, ⟨by exact RS <| HO_5.out⟩, ⟨by exact RS <| HO_6.out⟩, ⟨by exact eS HB.out⟩⟩
      replace c12 := Bool.eq_false_iff.mpr c12
      subst c12
      have H1 : (if 0 ≤ x10_2 then (if x10_2 < (l0.length : Int) then (Fc.l1 k2 l0 x5_1 x6_1 x7_1 ((rd_T34 l0 x7_1).f1) (((rd_T34 l0 x10_2).f1).toList == ((rd_T34 l0 x7_1).f1).toList) (wrap64 (x10_2 + 1))) else (none)) else (none)) = some (r1, r2, r3) := by rw [if_neg (show ¬ (false = true) by decide)] at H; exact H
      clear H
      have H := H1
      clear H1
      by_cases c13 : 0 ≤ x10_2
      rotate_left
      ·rw [if_neg c13] at H
       exact absurd H (by simp)
      rw [if_pos c13] at H
      have c13b0 : decide (0 ≤ x10_2) = true := decide_eq_true c13
      clear c13
      by_cases c14 : x10_2 < (l0.length : Int)
      rotate_left
      ·rw [if_neg c14] at H
       exact absurd H (by simp)
      rw [if_pos c14] at H
      have c14b0 : decide (x10_2 < (l0.length : Int)) = true := decide_eq_true c14
      clear c14
      have H' := Ak H
      clear H
      have p109 : 0 ≤ (x10_2 : Int) := Dz
      have q109 : x10_2 < (l0.length : Int) := Dz
      obtain ⟨ad109, e109, hx109_0, hx109_1, hx109_2, hx109_3, hx109_4, hx109_5, hx109_6, hx109_7⟩ := at_T34 HR0.out x10_2 p109 q109
      obtain rfl : ad108 = ad109 := (by injection e109)
      replace hx109_0 := Sq.cB HB.out hx109_0
      replace hx109_1 := Sq.cB HB.out hx109_1
      replace hx109_2 := Sq.cB HB.out hx109_2
      replace hx109_3 := Sq.cB HB.out hx109_3
      replace hx109_4 := Sq.cB HB.out hx109_4
      replace hx109_5 := Sq.cB HB.out hx109_5
      replace hx109_6 := Sq.cB HB.out hx109_6
      replace hx109_7 := Sq.cB HB.out hx109_7
      replace p109 := eq_true p109; replace q109 := eq_true q109
      go_wp2
      go_roundg k2
      case measure => have := HK1.out; have := HK2.out; omega
      case rel => exact ⟨((((rd_T34 l0 x10_2).f1).toList == ((rd_T34 l0 x7_1).f1).toList)), (wrap64 (x10_2 + 1)), (by first | rfl | (simp; done) | (simp [*]; done)), (by first | rfl | (simp; done) | (simp [*]; done)), H', ⟨by have := HK1.out; have := HK2.out; omega⟩, ⟨by exact RS <| HO_5.out⟩, ⟨by exact RS <| HO_6.out⟩, ⟨by exact eS HB.out⟩⟩
     rw [if_neg c11] at H
     have c11b0 : decide (x10_2 < x7_1) = false := decide_eq_false c11
     clear c11
     by_cases c15 : x9_2 = true
     ·subst c15
      have H1 : (Fc.l0 k2 l0 x5_1 x6_1 (wrap64 (x7_1 + 1))) = some (r1, r2, r3) := by rw [if_pos rfl] at H; exact H
      clear H
      have H := H1
      clear H1
      have H' := Ak H
      clear H
      go_wp2
      go_roundg k2
      case measure => have := HK1.out; have := HK2.out; omega
      case rel => exact ⟨(x5_1), (x6_1), (wrap64 (x7_1 + 1)), (by first | rfl | (simp; done) | (simp [*]; done)), H', ⟨by have := HK1.out; have := HK2.out; omega⟩, ⟨by exact RS <| HO_5.out⟩, ⟨by exact RS <| HO_6.out⟩, ⟨by exact eS HB.out⟩⟩
     replace c15 := Bool.eq_false_iff.mpr c15
     subst c15
     have H1 : ((Fah.f k2 l0 ((rd_T34 l0 x7_1).f1)).bind fun t110 => (Fc.l2 k2 l0 x5_1 x6_1 x7_1 ((rd_T34 l0 x7_1).f1) (x5_1.length : Int) t110)) = some (r1, r2, r3) := by rw [if_neg (show ¬ (false = true) by decide)] at H; exact H
     clear H
     have H := H1
     clear H1
     replace H := Option.bind_eq_some_iff.mp H
     obtain ⟨t110, A160, H⟩ := H
     (try dsimp only at H)
     have A16 := Ak A160
     clear A160
     have H' := Ak H
     clear H
     obtain ⟨Ao17, co17, eo17⟩ := Kd.R_slice HO_5.out
     subst eo17
     go_upto_block 4 with (first | ((with_reducible refine gate_callee (f := 33) rfl ?_); refine goesL_ (some 51) rfl rfl Tryz.func33 (by kernel_rfl) rfl #[.slice (some ad108) l0.length c0, .string ((rd_T34 l0 x7_1).f1)] rfl (by (try simp only [List.map_toArray, List.map_cons, List.map_nil]); first | done | rfl | (simp only [List.length_drop, List.length_take]; rfl)) ?_; (with_reducible refine (Fah.calls k2 _ _ l0 ((rd_T34 l0 x7_1).f1) t110 _ ?side1 ?side2 A16.out).mono ?_); (case side1 => repeat (first | exact (Kd.C_below HR0.out HB.out) | (with_reducible refine Kd.C_alloc ?_ _) | (with_reducible refine Kd.C_drewN ?_ _) | (with_reducible refine Kd.C_drew ?_))); (case side2 => exact HC0.out); rintro e w' ⟨rfl, ⟨nd, rfl⟩⟩; refine ⟨_, rfl, ?_⟩))
     (try simp only [Act.put, List.setIfInBounds_toArray, List.set_cons_zero, List.set_cons_succ])
     go_cut [11] (fun v11 wc => ∃ (kq : Nat) (x11_3 : Int), v11 = .int .i64 x11_3 ∧ Aside0 (Fc.e2 kq l0 x5_1 x6_1 x7_1 ((rd_T34 l0 x7_1).f1) x11_3 t110 = some (r1, r2, r3)) ∧ Aside0 (kq ≤ k2) ∧ Aside0 (Kd.R Kd.string 9 wc w.heap.size (fun _ => True) (.slice Ao17 x5_1.length co17) x5_1) ∧ Aside0 (Kd.R (Kd.int .i64) 3 wc w.heap.size (fun _ => True) u6 x6_1) ∧ Aside0 (Below w.heap.size w wc))
     case first =>
      go_wp2
      go_loopg [11] k2 (fun kq v11 w' => ∃ (x11_3 : Int), v11 = .int .i64 x11_3 ∧ Aside0 (Fc.l2 kq l0 x5_1 x6_1 x7_1 ((rd_T34 l0 x7_1).f1) x11_3 t110 = some (r1, r2, r3)) ∧ Aside0 (kq ≤ k2) ∧ Aside0 (Kd.R Kd.string 9 w' w.heap.size (fun _ => True) (.slice Ao17 x5_1.length co17) x5_1) ∧ Aside0 (Kd.R (Kd.int .i64) 3 w' w.heap.size (fun _ => True) u6 x6_1) ∧ Aside0 (Below w.heap.size w w'))
      case atStart => exact ⟨((x5_1.length : Int)), (by first | rfl | (simp; done) | (simp [*]; done)), H', ⟨Nat.le_refl _⟩, ⟨by exact RS <| HO_5.out⟩, ⟨by exact RS <| HO_6.out⟩, ⟨by exact eS HB.out⟩⟩
      case round =>
       clear H'; (try clear c1); (try clear p1); (try clear q1); (try clear hx1); (try clear p2); (try clear c3); (try clear p6); (try clear c7); (try clear c9); (try clear c9b0); (try clear c10); (try clear c10b0); (try clear p10); (try clear q10); (try clear hx10); (try clear c11); (try clear c11b0); (try clear c12); (try clear c13); (try clear c13b0); (try clear c14); (try clear c14b0); (try clear c15); (try clear hx108_0); (try clear hx108_1); (try clear hx108_2); (try clear hx108_3); (try clear hx108_4); (try clear hx108_5); (try clear hx108_6); (try clear hx108_7); (try clear hx109_0); (try clear hx109_1); (try clear hx109_2); (try clear hx109_3); (try clear hx109_4); (try clear hx109_5); (try clear hx109_6); (try clear hx109_7); (try clear p1); (try clear p10); (try clear p108); (try clear p109); (try clear p2); (try clear q1); (try clear q10); (try clear q108); (try clear q109)
       obtain ⟨x11_3, rfl, HA, HK3, HO_5, HO_6, HB⟩ := hrel
       cases gk with
       | zero => exact absurd HA.out (by simp [Fc.l2])
       | succ k3 =>
        have H := HA.out
        clear HA
        simp only [Fc.l2] at H
        by_cases c18 : x11_3 > 0
        rotate_left
        ·rw [if_neg c18] at H
         have c18b0 : decide (0 < x11_3) = false := decide_eq_false c18
         clear c18
         have H' := Ak (show Fc.e2 k3 l0 x5_1 x6_1 x7_1 ((rd_T34 l0 x7_1).f1) x11_3 t110 = some (r1, r2, r3) from H)
         clear H
         go_wp2
         go_meet
         case rel => exact ⟨k3, x11_3, rfl, H', ⟨by have := HK3.out; omega⟩, ⟨by exact RS <| HO_5.out⟩, ⟨by exact RS <| HO_6.out⟩, ⟨by exact eS HB.out⟩⟩
        rw [if_pos c18] at H
        have c18b0 : decide (0 < x11_3) = true := decide_eq_true c18
        clear c18
        obtain ⟨ji19, hji19⟩ : ∃ j_ : Int, (wrap64 (x11_3 - 1)) = j_ := ⟨_, rfl⟩
        replace H : (if 0 ≤ (ji19) then (if (ji19) < (x6_1.length : Int) then (if (rd x6_1 (ji19)) < t110 then (Fc.l2 k3 l0 x5_1 x6_1 x7_1 ((rd_T34 l0 x7_1).f1) ji19 t110) else (if (rd x6_1 (ji19)) = t110 then (if (ji19) < (x5_1.length : Int) then (if (Op.bytesLess ((rd_T34 l0 x7_1).f1).toList ((rdOf ByteArray.empty x5_1 (ji19)).toList)) = true then (Fc.l2 k3 l0 x5_1 x6_1 x7_1 ((rd_T34 l0 x7_1).f1) ji19 t110) else ((some (([] : List ByteArray) : List ByteArray)).bind fun y114 => (if 0 ≤ x11_3 then (if x11_3 ≤ (x5_1.length : Int) then ((some (x5_1.take (x11_3 : Int).toNat : List ByteArray)).bind fun y117 => (if y114.length + y117.length < 8796093022208 then ((some (y114 ++ y117 : List ByteArray)).bind fun y121 => ((some (([((rd_T34 l0 x7_1).f1)] : List ByteArray) : List ByteArray)).bind fun y124 => (if y121.length + y124.length < 8796093022208 then ((some (y121 ++ y124 : List ByteArray)).bind fun y127 => ((some (x5_1.drop (x11_3 : Int).toNat : List ByteArray)).bind fun y130 => (if y127.length + y130.length < 8796093022208 then ((some (([] : List Int) : List Int)).bind fun y137 => (if x11_3 ≤ (x6_1.length : Int) then ((some (x6_1.take (x11_3 : Int).toNat : List Int)).bind fun y140 => (if y137.length + y140.length < 17592186044416 then ((some (y137 ++ y140 : List Int)).bind fun y144 => ((some (([t110] : List Int) : List Int)).bind fun y147 => (if y144.length + y147.length < 17592186044416 then ((some (y144 ++ y147 : List Int)).bind fun y150 => ((some (x6_1.drop (x11_3 : Int).toNat : List Int)).bind fun y153 => (if y150.length + y153.length < 17592186044416 then (Fc.l0 k3 l0 (y127 ++ y130) (y150 ++ y153) (wrap64 (x7_1 + 1))) else (none)))) else (none)))) else (none))) else (none))) else (none)))) else (none)))) else (none))) else (none)) else (none)))) else (none)) else ((some (([] : List ByteArray) : List ByteArray)).bind fun y160 => (if 0 ≤ x11_3 then (if x11_3 ≤ (x5_1.length : Int) then ((some (x5_1.take (x11_3 : Int).toNat : List ByteArray)).bind fun y163 => (if y160.length + y163.length < 8796093022208 then ((some (y160 ++ y163 : List ByteArray)).bind fun y167 => ((some (([((rd_T34 l0 x7_1).f1)] : List ByteArray) : List ByteArray)).bind fun y170 => (if y167.length + y170.length < 8796093022208 then ((some (y167 ++ y170 : List ByteArray)).bind fun y173 => ((some (x5_1.drop (x11_3 : Int).toNat : List ByteArray)).bind fun y176 => (if y173.length + y176.length < 8796093022208 then ((some (([] : List Int) : List Int)).bind fun y183 => (if x11_3 ≤ (x6_1.length : Int) then ((some (x6_1.take (x11_3 : Int).toNat : List Int)).bind fun y186 => (if y183.length + y186.length < 17592186044416 then ((some (y183 ++ y186 : List Int)).bind fun y190 => ((some (([t110] : List Int) : List Int)).bind fun y193 => (if y190.length + y193.length < 17592186044416 then ((some (y190 ++ y193 : List Int)).bind fun y196 => ((some (x6_1.drop (x11_3 : Int).toNat : List Int)).bind fun y199 => (if y196.length + y199.length < 17592186044416 then (Fc.l0 k3 l0 (y173 ++ y176) (y196 ++ y199) (wrap64 (x7_1 + 1))) else (none)))) else (none)))) else (none))) else (none))) else (none)))) else (none)))) else (none))) else (none)) else (none))))) else (none)) else (none)) = some (r1, r2, r3) := by first | (rw [hji19] at H; exact H) | (simp only [hji19] at H ⊢; exact H)
        have hji19w : (IntKind.i64.wrap (x11_3 - 1)) = ji19 := (i64_w _).trans hji19
        by_cases c20 : 0 ≤ (ji19)
        rotate_left
        ·rw [if_neg c20] at H
         exact absurd H (by simp)
        rw [if_pos c20] at H
        have c20b0 : decide (0 ≤ (ji19)) = true := decide_eq_true c20
        clear c20
        by_cases c21 : (ji19) < (x6_1.length : Int)
        rotate_left
        ·rw [if_neg c21] at H
         exact absurd H (by simp)
        rw [if_pos c21] at H
        have c21b0 : decide ((ji19) < (x6_1.length : Int)) = true := decide_eq_true c21
        clear c21
        by_cases c22 : (rd x6_1 (ji19)) < t110
        ·rw [if_pos c22] at H
         have c22b0 : decide ((rd x6_1 (ji19)) < t110) = true := decide_eq_true c22
         clear c22
         have H' := Ak H
         clear H
         obtain ⟨Ao23, co23, eo23⟩ := Kd.R_slice HO_6.out
         subst eo23
         have p111 : 0 ≤ ((ji19) : Int) := Dz
         have q111 : (ji19) < (x6_1.length : Int) := Dz
         obtain ⟨ad111, e111, hx111_0⟩ := Kd.at_int (Kd.R_reads' HO_6.out).2.2 (ji19) p111 q111
         cases e111
         replace p111 := eq_true p111; replace q111 := eq_true q111
         go_wp2
         go_roundg k3
         case measure => have := HK1.out; have := HK2.out; have := HK3.out; omega
         case rel => exact ⟨(ji19), (by first | rfl | (simp; done) | (simp only [← hji19] <;> (first | rfl | simp)) | (simp [*]; done)), H', ⟨by have := HK1.out; have := HK2.out; have := HK3.out; omega⟩, ⟨by exact RS <| HO_5.out⟩, ⟨by exact RS <| HO_6.out⟩, ⟨by exact eS HB.out⟩⟩
        rw [if_neg c22] at H
        have c22b0 : decide ((rd x6_1 (ji19)) < t110) = false := decide_eq_false c22
        clear c22
        by_cases c24 : (rd x6_1 (ji19)) = t110
        rotate_left
        ·rw [if_neg c24] at H
         have c24b0 : ((rd x6_1 (ji19)) == t110) = false := beq_eq_false_iff_ne.mpr c24
         have c24b1 : ((rd x6_1 (ji19)) != t110) = true := bne_iff_ne.mpr c24
         have H' := Ak (show Fc.e2 k3 l0 x5_1 x6_1 x7_1 ((rd_T34 l0 x7_1).f1) x11_3 t110 = some (r1, r2, r3) from H)
         clear H
         obtain ⟨Ao81, co81, eo81⟩ := Kd.R_slice HO_6.out
         subst eo81
         have p111 : 0 ≤ ((ji19) : Int) := Dz
         have q111 : (ji19) < (x6_1.length : Int) := Dz
         obtain ⟨ad111, e111, hx111_0⟩ := Kd.at_int (Kd.R_reads' HO_6.out).2.2 (ji19) p111 q111
         cases e111
         replace p111 := eq_true p111; replace q111 := eq_true q111
         have p112 : 0 ≤ ((ji19) : Int) := Dz
         have q112 : (ji19) < (x6_1.length : Int) := Dz
         obtain ⟨ad112, e112, hx112_0⟩ := Kd.at_int (Kd.R_reads' HO_6.out).2.2 (ji19) p112 q112
         obtain rfl : ad111 = ad112 := (by injection e112)
         replace p112 := eq_true p112; replace q112 := eq_true q112
         go_wp2
         go_meet
         case rel => exact ⟨k3, x11_3, rfl, H', ⟨by have := HK3.out; omega⟩, ⟨by exact RS <| HO_5.out⟩, ⟨by exact RS <| HO_6.out⟩, ⟨by exact eS HB.out⟩⟩
        rw [if_pos c24] at H
        have c24b0 : ((rd x6_1 (ji19)) == t110) = true := beq_iff_eq.mpr c24
        have c24b1 : ((rd x6_1 (ji19)) != t110) = false := bne_eq_false_iff_eq.mpr c24
        clear c24
        by_cases c25 : (ji19) < (x5_1.length : Int)
        rotate_left
        ·rw [if_neg c25] at H
         exact absurd H (by simp)
        rw [if_pos c25] at H
        have c25b0 : decide ((ji19) < (x5_1.length : Int)) = true := decide_eq_true c25
        clear c25
        by_cases c26 : (Op.bytesLess ((rd_T34 l0 x7_1).f1).toList ((rdOf ByteArray.empty x5_1 (ji19)).toList)) = true
        ·rw [if_pos c26] at H
         have c26b0 : (Op.bytesLess ((rd_T34 l0 x7_1).f1).toList ((rdOf ByteArray.empty x5_1 (ji19)).toList)) = true := c26
         clear c26
         have H' := Ak H
         clear H
         obtain ⟨Ao27, co27, eo27⟩ := Kd.R_slice HO_6.out
         subst eo27
         have p111 : 0 ≤ ((ji19) : Int) := Dz
         have q111 : (ji19) < (x6_1.length : Int) := Dz
         obtain ⟨ad111, e111, hx111_0⟩ := Kd.at_int (Kd.R_reads' HO_6.out).2.2 (ji19) p111 q111
         cases e111
         replace p111 := eq_true p111; replace q111 := eq_true q111
         have p112 : 0 ≤ ((ji19) : Int) := Dz
         have q112 : (ji19) < (x6_1.length : Int) := Dz
         obtain ⟨ad112, e112, hx112_0⟩ := Kd.at_int (Kd.R_reads' HO_6.out).2.2 (ji19) p112 q112
         obtain rfl : ad111 = ad112 := (by injection e112)
         replace p112 := eq_true p112; replace q112 := eq_true q112
         have p113 : 0 ≤ ((ji19) : Int) := Dz
         have q113 : (ji19) < (x5_1.length : Int) := Dz
         obtain ⟨ad113, e113, hx113_0⟩ := Kd.at_string (Kd.R_reads' HO_5.out).2.2 (ji19) p113 q113
         cases e113
         replace p113 := eq_true p113; replace q113 := eq_true q113
         go_wp2
         go_roundg k3
         case measure => have := HK1.out; have := HK2.out; have := HK3.out; omega
         case rel => exact ⟨(ji19), (by first | rfl | (simp; done) | (simp only [← hji19] <;> (first | rfl | simp)) | (simp [*]; done)), H', ⟨by have := HK1.out; have := HK2.out; have := HK3.out; omega⟩, ⟨by exact RS <| HO_5.out⟩, ⟨by exact RS <| HO_6.out⟩, ⟨by exact eS HB.out⟩⟩
        rw [if_neg c26] at H
        have c26b0 : (Op.bytesLess ((rd_T34 l0 x7_1).f1).toList ((rdOf ByteArray.empty x5_1 (ji19)).toList)) = false := by simpa using c26
        clear c26
        have H' := Ak (show Fc.e2 k3 l0 x5_1 x6_1 x7_1 ((rd_T34 l0 x7_1).f1) x11_3 t110 = some (r1, r2, r3) from H)
        clear H
        obtain ⟨Ao42, co42, eo42⟩ := Kd.R_slice HO_6.out
        subst eo42
        have p111 : 0 ≤ ((ji19) : Int) := Dz
        have q111 : (ji19) < (x6_1.length : Int) := Dz
        obtain ⟨ad111, e111, hx111_0⟩ := Kd.at_int (Kd.R_reads' HO_6.out).2.2 (ji19) p111 q111
        cases e111
        replace p111 := eq_true p111; replace q111 := eq_true q111
        have p112 : 0 ≤ ((ji19) : Int) := Dz
        have q112 : (ji19) < (x6_1.length : Int) := Dz
        obtain ⟨ad112, e112, hx112_0⟩ := Kd.at_int (Kd.R_reads' HO_6.out).2.2 (ji19) p112 q112
        obtain rfl : ad111 = ad112 := (by injection e112)
        replace p112 := eq_true p112; replace q112 := eq_true q112
        have p113 : 0 ≤ ((ji19) : Int) := Dz
        have q113 : (ji19) < (x5_1.length : Int) := Dz
        obtain ⟨ad113, e113, hx113_0⟩ := Kd.at_string (Kd.R_reads' HO_5.out).2.2 (ji19) p113 q113
        cases e113
        replace p113 := eq_true p113; replace q113 := eq_true q113
        go_wp2
        go_meet
        case rel => exact ⟨k3, x11_3, rfl, H', ⟨by have := HK3.out; omega⟩, ⟨by exact RS <| HO_5.out⟩, ⟨by exact RS <| HO_6.out⟩, ⟨by exact eS HB.out⟩⟩
     case rest =>
      (try clear H'); (try clear c1); (try clear p1); (try clear q1); (try clear hx1); (try clear p2); (try clear c3); (try clear p6); (try clear c7); (try clear c9); (try clear c9b0); (try clear c10); (try clear c10b0); (try clear p10); (try clear q10); (try clear hx10); (try clear c11); (try clear c11b0); (try clear c12); (try clear c13); (try clear c13b0); (try clear c14); (try clear c14b0); (try clear c15); (try clear hx108_0); (try clear hx108_1); (try clear hx108_2); (try clear hx108_3); (try clear hx108_4); (try clear hx108_5); (try clear hx108_6); (try clear hx108_7); (try clear hx109_0); (try clear hx109_1); (try clear hx109_2); (try clear hx109_3); (try clear hx109_4); (try clear hx109_5); (try clear hx109_6); (try clear hx109_7); (try clear p1); (try clear p10); (try clear p108); (try clear p109); (try clear p2); (try clear q1); (try clear q10); (try clear q108); (try clear q109)
      obtain ⟨kq, x11_3, rfl, HA, HK3, HO_5, HO_6, HB⟩ := hcut
      have H := HA.out
      clear HA
      unfold Fc.e2 at H
      obtain ⟨y206, hy206⟩ : ∃ y_ : List ByteArray, y_ = (([] : List ByteArray)) := ⟨_, rfl⟩
      replace H : (if 0 ≤ x11_3 then (if x11_3 ≤ (x5_1.length : Int) then ((some (x5_1.take (x11_3 : Int).toNat : List ByteArray)).bind fun y209 => (if y206.length + y209.length < 8796093022208 then ((some (y206 ++ y209 : List ByteArray)).bind fun y213 => ((some (([((rd_T34 l0 x7_1).f1)] : List ByteArray) : List ByteArray)).bind fun y216 => (if y213.length + y216.length < 8796093022208 then ((some (y213 ++ y216 : List ByteArray)).bind fun y219 => ((some (x5_1.drop (x11_3 : Int).toNat : List ByteArray)).bind fun y222 => (if y219.length + y222.length < 8796093022208 then ((some (([] : List Int) : List Int)).bind fun y229 => (if x11_3 ≤ (x6_1.length : Int) then ((some (x6_1.take (x11_3 : Int).toNat : List Int)).bind fun y232 => (if y229.length + y232.length < 17592186044416 then ((some (y229 ++ y232 : List Int)).bind fun y236 => ((some (([t110] : List Int) : List Int)).bind fun y239 => (if y236.length + y239.length < 17592186044416 then ((some (y236 ++ y239 : List Int)).bind fun y242 => ((some (x6_1.drop (x11_3 : Int).toNat : List Int)).bind fun y245 => (if y242.length + y245.length < 17592186044416 then (Fc.l0 kq l0 (y219 ++ y222) (y242 ++ y245) (wrap64 (x7_1 + 1))) else (none)))) else (none)))) else (none))) else (none))) else (none)))) else (none)))) else (none))) else (none)) else (none)) = some (r1, r2, r3) := by first | (rw [hy206]; with_reducible exact H) | (have H2_ := (Option.bind_some _ _).symm.trans H; rw [hy206]; with_reducible exact H2_) | (have H2_ := (Option.bind_some _ _).symm.trans H; with_reducible exact H2_) | with_reducible exact H | (rw [hy206]; exact H) | exact H
      have Ny206 := Ak hy206
      clear hy206
      by_cases c106 : 0 ≤ x11_3
      rotate_left
      ·rw [if_neg c106] at H
       exact absurd H (by simp)
      rw [if_pos c106] at H
      have c106b0 := eq_true c106
      have c106b1 : decide (0 ≤ x11_3) = true := decide_eq_true c106
      clear c106
      by_cases c107 : x11_3 ≤ (x5_1.length : Int)
      rotate_left
      ·rw [if_neg c107] at H
       exact absurd H (by simp)
      rw [if_pos c107] at H
      have c107b0 := eq_true c107
      have c107b1 : decide (x11_3 ≤ (x5_1.length : Int)) = true := decide_eq_true c107
      clear c107
      obtain ⟨y209, hy209⟩ : ∃ y_ : List ByteArray, y_ = (x5_1.take (x11_3 : Int).toNat) := ⟨_, rfl⟩
      replace H : (if y206.length + y209.length < 8796093022208 then ((some (y206 ++ y209 : List ByteArray)).bind fun y213 => ((some (([((rd_T34 l0 x7_1).f1)] : List ByteArray) : List ByteArray)).bind fun y216 => (if y213.length + y216.length < 8796093022208 then ((some (y213 ++ y216 : List ByteArray)).bind fun y219 => ((some (x5_1.drop (x11_3 : Int).toNat : List ByteArray)).bind fun y222 => (if y219.length + y222.length < 8796093022208 then ((some (([] : List Int) : List Int)).bind fun y229 => (if x11_3 ≤ (x6_1.length : Int) then ((some (x6_1.take (x11_3 : Int).toNat : List Int)).bind fun y232 => (if y229.length + y232.length < 17592186044416 then ((some (y229 ++ y232 : List Int)).bind fun y236 => ((some (([t110] : List Int) : List Int)).bind fun y239 => (if y236.length + y239.length < 17592186044416 then ((some (y236 ++ y239 : List Int)).bind fun y242 => ((some (x6_1.drop (x11_3 : Int).toNat : List Int)).bind fun y245 => (if y242.length + y245.length < 17592186044416 then (Fc.l0 kq l0 (y219 ++ y222) (y242 ++ y245) (wrap64 (x7_1 + 1))) else (none)))) else (none)))) else (none))) else (none))) else (none)))) else (none)))) else (none)) = some (r1, r2, r3) := by first | (rw [hy209]; with_reducible exact H) | (have H2_ := (Option.bind_some _ _).symm.trans H; rw [hy209]; with_reducible exact H2_) | (have H2_ := (Option.bind_some _ _).symm.trans H; with_reducible exact H2_) | with_reducible exact H | (rw [hy209]; exact H) | exact H
      have Ny209 := Ak hy209
      clear hy209
      by_cases c108 : y206.length + y209.length < 8796093022208
      rotate_left
      ·rw [if_neg c108] at H
       exact absurd H (by simp)
      rw [if_pos c108] at H
      have LMc108 := Ak c108
      clear c108
      obtain ⟨y213, hy213⟩ : ∃ y_ : List ByteArray, y_ = (y206 ++ y209) := ⟨_, rfl⟩
      replace H : ((some (([((rd_T34 l0 x7_1).f1)] : List ByteArray) : List ByteArray)).bind fun y216 => (if y213.length + y216.length < 8796093022208 then ((some (y213 ++ y216 : List ByteArray)).bind fun y219 => ((some (x5_1.drop (x11_3 : Int).toNat : List ByteArray)).bind fun y222 => (if y219.length + y222.length < 8796093022208 then ((some (([] : List Int) : List Int)).bind fun y229 => (if x11_3 ≤ (x6_1.length : Int) then ((some (x6_1.take (x11_3 : Int).toNat : List Int)).bind fun y232 => (if y229.length + y232.length < 17592186044416 then ((some (y229 ++ y232 : List Int)).bind fun y236 => ((some (([t110] : List Int) : List Int)).bind fun y239 => (if y236.length + y239.length < 17592186044416 then ((some (y236 ++ y239 : List Int)).bind fun y242 => ((some (x6_1.drop (x11_3 : Int).toNat : List Int)).bind fun y245 => (if y242.length + y245.length < 17592186044416 then (Fc.l0 kq l0 (y219 ++ y222) (y242 ++ y245) (wrap64 (x7_1 + 1))) else (none)))) else (none)))) else (none))) else (none))) else (none)))) else (none))) = some (r1, r2, r3) := by first | (rw [hy213]; with_reducible exact H) | (have H2_ := (Option.bind_some _ _).symm.trans H; rw [hy213]; with_reducible exact H2_) | (have H2_ := (Option.bind_some _ _).symm.trans H; with_reducible exact H2_) | with_reducible exact H | (rw [hy213]; exact H) | exact H
      have Ny213 := Ak hy213
      clear hy213
      obtain ⟨y216, hy216⟩ : ∃ y_ : List ByteArray, y_ = (([((rd_T34 l0 x7_1).f1)] : List ByteArray)) := ⟨_, rfl⟩
      replace H : (if y213.length + y216.length < 8796093022208 then ((some (y213 ++ y216 : List ByteArray)).bind fun y219 => ((some (x5_1.drop (x11_3 : Int).toNat : List ByteArray)).bind fun y222 => (if y219.length + y222.length < 8796093022208 then ((some (([] : List Int) : List Int)).bind fun y229 => (if x11_3 ≤ (x6_1.length : Int) then ((some (x6_1.take (x11_3 : Int).toNat : List Int)).bind fun y232 => (if y229.length + y232.length < 17592186044416 then ((some (y229 ++ y232 : List Int)).bind fun y236 => ((some (([t110] : List Int) : List Int)).bind fun y239 => (if y236.length + y239.length < 17592186044416 then ((some (y236 ++ y239 : List Int)).bind fun y242 => ((some (x6_1.drop (x11_3 : Int).toNat : List Int)).bind fun y245 => (if y242.length + y245.length < 17592186044416 then (Fc.l0 kq l0 (y219 ++ y222) (y242 ++ y245) (wrap64 (x7_1 + 1))) else (none)))) else (none)))) else (none))) else (none))) else (none)))) else (none)) = some (r1, r2, r3) := by first | (rw [hy216]; with_reducible exact H) | (have H2_ := (Option.bind_some _ _).symm.trans H; rw [hy216]; with_reducible exact H2_) | (have H2_ := (Option.bind_some _ _).symm.trans H; with_reducible exact H2_) | with_reducible exact H | (rw [hy216]; exact H) | exact H
      have Ny216 := Ak hy216
      clear hy216
      by_cases c109 : y213.length + y216.length < 8796093022208
      rotate_left
      ·rw [if_neg c109] at H
       exact absurd H (by simp)
      rw [if_pos c109] at H
      have LMc109 := Ak c109
      clear c109
      obtain ⟨y219, hy219⟩ : ∃ y_ : List ByteArray, y_ = (y213 ++ y216) := ⟨_, rfl⟩
      replace H : ((some (x5_1.drop (x11_3 : Int).toNat : List ByteArray)).bind fun y222 => (if y219.length + y222.length < 8796093022208 then ((some (([] : List Int) : List Int)).bind fun y229 => (if x11_3 ≤ (x6_1.length : Int) then ((some (x6_1.take (x11_3 : Int).toNat : List Int)).bind fun y232 => (if y229.length + y232.length < 17592186044416 then ((some (y229 ++ y232 : List Int)).bind fun y236 => ((some (([t110] : List Int) : List Int)).bind fun y239 => (if y236.length + y239.length < 17592186044416 then ((some (y236 ++ y239 : List Int)).bind fun y242 => ((some (x6_1.drop (x11_3 : Int).toNat : List Int)).bind fun y245 => (if y242.length + y245.length < 17592186044416 then (Fc.l0 kq l0 (y219 ++ y222) (y242 ++ y245) (wrap64 (x7_1 + 1))) else (none)))) else (none)))) else (none))) else (none))) else (none))) = some (r1, r2, r3) := by first | (rw [hy219]; with_reducible exact H) | (have H2_ := (Option.bind_some _ _).symm.trans H; rw [hy219]; with_reducible exact H2_) | (have H2_ := (Option.bind_some _ _).symm.trans H; with_reducible exact H2_) | with_reducible exact H | (rw [hy219]; exact H) | exact H
      have Ny219 := Ak hy219
      clear hy219
      have c110b0 := eq_true (Dz : 0 ≤ x11_3)
      have c111b0 := eq_true (Dz : x11_3 ≤ (x5_1.length : Int))
      obtain ⟨y222, hy222⟩ : ∃ y_ : List ByteArray, y_ = (x5_1.drop (x11_3 : Int).toNat) := ⟨_, rfl⟩
      replace H : (if y219.length + y222.length < 8796093022208 then ((some (([] : List Int) : List Int)).bind fun y229 => (if x11_3 ≤ (x6_1.length : Int) then ((some (x6_1.take (x11_3 : Int).toNat : List Int)).bind fun y232 => (if y229.length + y232.length < 17592186044416 then ((some (y229 ++ y232 : List Int)).bind fun y236 => ((some (([t110] : List Int) : List Int)).bind fun y239 => (if y236.length + y239.length < 17592186044416 then ((some (y236 ++ y239 : List Int)).bind fun y242 => ((some (x6_1.drop (x11_3 : Int).toNat : List Int)).bind fun y245 => (if y242.length + y245.length < 17592186044416 then (Fc.l0 kq l0 (y219 ++ y222) (y242 ++ y245) (wrap64 (x7_1 + 1))) else (none)))) else (none)))) else (none))) else (none))) else (none)) = some (r1, r2, r3) := by first | (rw [hy222]; with_reducible exact H) | (have H2_ := (Option.bind_some _ _).symm.trans H; rw [hy222]; with_reducible exact H2_) | (have H2_ := (Option.bind_some _ _).symm.trans H; with_reducible exact H2_) | with_reducible exact H | (rw [hy222]; exact H) | exact H
      have Ny222 := Ak hy222
      clear hy222
      by_cases c112 : y219.length + y222.length < 8796093022208
      rotate_left
      ·rw [if_neg c112] at H
       exact absurd H (by simp)
      rw [if_pos c112] at H
      have LMc112 := Ak c112
      clear c112
      obtain ⟨y226, hy226⟩ : ∃ y_ : List ByteArray, y_ = (y219 ++ y222) := ⟨_, rfl⟩
      replace H : ((some (([] : List Int) : List Int)).bind fun y229 => (if x11_3 ≤ (x6_1.length : Int) then ((some (x6_1.take (x11_3 : Int).toNat : List Int)).bind fun y232 => (if y229.length + y232.length < 17592186044416 then ((some (y229 ++ y232 : List Int)).bind fun y236 => ((some (([t110] : List Int) : List Int)).bind fun y239 => (if y236.length + y239.length < 17592186044416 then ((some (y236 ++ y239 : List Int)).bind fun y242 => ((some (x6_1.drop (x11_3 : Int).toNat : List Int)).bind fun y245 => (if y242.length + y245.length < 17592186044416 then (Fc.l0 kq l0 y226 (y242 ++ y245) (wrap64 (x7_1 + 1))) else (none)))) else (none)))) else (none))) else (none))) = some (r1, r2, r3) := by first | (rw [hy226]; with_reducible exact H) | (have H2_ := (Option.bind_some _ _).symm.trans H; rw [hy226]; with_reducible exact H2_) | (have H2_ := (Option.bind_some _ _).symm.trans H; with_reducible exact H2_) | with_reducible exact H | (rw [hy226]; exact H) | exact H
      have Ny226 := Ak hy226
      clear hy226
      obtain ⟨y229, hy229⟩ : ∃ y_ : List Int, y_ = (([] : List Int)) := ⟨_, rfl⟩
      replace H : (if x11_3 ≤ (x6_1.length : Int) then ((some (x6_1.take (x11_3 : Int).toNat : List Int)).bind fun y232 => (if y229.length + y232.length < 17592186044416 then ((some (y229 ++ y232 : List Int)).bind fun y236 => ((some (([t110] : List Int) : List Int)).bind fun y239 => (if y236.length + y239.length < 17592186044416 then ((some (y236 ++ y239 : List Int)).bind fun y242 => ((some (x6_1.drop (x11_3 : Int).toNat : List Int)).bind fun y245 => (if y242.length + y245.length < 17592186044416 then (Fc.l0 kq l0 y226 (y242 ++ y245) (wrap64 (x7_1 + 1))) else (none)))) else (none)))) else (none))) else (none)) = some (r1, r2, r3) := by first | (rw [hy229]; with_reducible exact H) | (have H2_ := (Option.bind_some _ _).symm.trans H; rw [hy229]; with_reducible exact H2_) | (have H2_ := (Option.bind_some _ _).symm.trans H; with_reducible exact H2_) | with_reducible exact H | (rw [hy229]; exact H) | exact H
      have Ny229 := Ak hy229
      clear hy229
      have c113b0 := eq_true (Dz : 0 ≤ x11_3)
      by_cases c114 : x11_3 ≤ (x6_1.length : Int)
      rotate_left
      ·rw [if_neg c114] at H
       exact absurd H (by simp)
      rw [if_pos c114] at H
      have c114b0 := eq_true c114
      have c114b1 : decide (x11_3 ≤ (x6_1.length : Int)) = true := decide_eq_true c114
      clear c114
      obtain ⟨y232, hy232⟩ : ∃ y_ : List Int, y_ = (x6_1.take (x11_3 : Int).toNat) := ⟨_, rfl⟩
      replace H : (if y229.length + y232.length < 17592186044416 then ((some (y229 ++ y232 : List Int)).bind fun y236 => ((some (([t110] : List Int) : List Int)).bind fun y239 => (if y236.length + y239.length < 17592186044416 then ((some (y236 ++ y239 : List Int)).bind fun y242 => ((some (x6_1.drop (x11_3 : Int).toNat : List Int)).bind fun y245 => (if y242.length + y245.length < 17592186044416 then (Fc.l0 kq l0 y226 (y242 ++ y245) (wrap64 (x7_1 + 1))) else (none)))) else (none)))) else (none)) = some (r1, r2, r3) := by first | (rw [hy232]; with_reducible exact H) | (have H2_ := (Option.bind_some _ _).symm.trans H; rw [hy232]; with_reducible exact H2_) | (have H2_ := (Option.bind_some _ _).symm.trans H; with_reducible exact H2_) | with_reducible exact H | (rw [hy232]; exact H) | exact H
      have Ny232 := Ak hy232
      clear hy232
      by_cases c115 : y229.length + y232.length < 17592186044416
      rotate_left
      ·rw [if_neg c115] at H
       exact absurd H (by simp)
      rw [if_pos c115] at H
      have LMc115 := Ak c115
      clear c115
      obtain ⟨y236, hy236⟩ : ∃ y_ : List Int, y_ = (y229 ++ y232) := ⟨_, rfl⟩
      replace H : ((some (([t110] : List Int) : List Int)).bind fun y239 => (if y236.length + y239.length < 17592186044416 then ((some (y236 ++ y239 : List Int)).bind fun y242 => ((some (x6_1.drop (x11_3 : Int).toNat : List Int)).bind fun y245 => (if y242.length + y245.length < 17592186044416 then (Fc.l0 kq l0 y226 (y242 ++ y245) (wrap64 (x7_1 + 1))) else (none)))) else (none))) = some (r1, r2, r3) := by first | (rw [hy236]; with_reducible exact H) | (have H2_ := (Option.bind_some _ _).symm.trans H; rw [hy236]; with_reducible exact H2_) | (have H2_ := (Option.bind_some _ _).symm.trans H; with_reducible exact H2_) | with_reducible exact H | (rw [hy236]; exact H) | exact H
      have Ny236 := Ak hy236
      clear hy236
      obtain ⟨y239, hy239⟩ : ∃ y_ : List Int, y_ = (([t110] : List Int)) := ⟨_, rfl⟩
      replace H : (if y236.length + y239.length < 17592186044416 then ((some (y236 ++ y239 : List Int)).bind fun y242 => ((some (x6_1.drop (x11_3 : Int).toNat : List Int)).bind fun y245 => (if y242.length + y245.length < 17592186044416 then (Fc.l0 kq l0 y226 (y242 ++ y245) (wrap64 (x7_1 + 1))) else (none)))) else (none)) = some (r1, r2, r3) := by first | (rw [hy239]; with_reducible exact H) | (have H2_ := (Option.bind_some _ _).symm.trans H; rw [hy239]; with_reducible exact H2_) | (have H2_ := (Option.bind_some _ _).symm.trans H; with_reducible exact H2_) | with_reducible exact H | (rw [hy239]; exact H) | exact H
      have Ny239 := Ak hy239
      clear hy239
      by_cases c116 : y236.length + y239.length < 17592186044416
      rotate_left
      ·rw [if_neg c116] at H
       exact absurd H (by simp)
      rw [if_pos c116] at H
      have LMc116 := Ak c116
      clear c116
      obtain ⟨y242, hy242⟩ : ∃ y_ : List Int, y_ = (y236 ++ y239) := ⟨_, rfl⟩
      replace H : ((some (x6_1.drop (x11_3 : Int).toNat : List Int)).bind fun y245 => (if y242.length + y245.length < 17592186044416 then (Fc.l0 kq l0 y226 (y242 ++ y245) (wrap64 (x7_1 + 1))) else (none))) = some (r1, r2, r3) := by first | (rw [hy242]; with_reducible exact H) | (have H2_ := (Option.bind_some _ _).symm.trans H; rw [hy242]; with_reducible exact H2_) | (have H2_ := (Option.bind_some _ _).symm.trans H; with_reducible exact H2_) | with_reducible exact H | (rw [hy242]; exact H) | exact H
      have Ny242 := Ak hy242
      clear hy242
      have c117b0 := eq_true (Dz : 0 ≤ x11_3)
      have c118b0 := eq_true (Dz : x11_3 ≤ (x6_1.length : Int))
      obtain ⟨y245, hy245⟩ : ∃ y_ : List Int, y_ = (x6_1.drop (x11_3 : Int).toNat) := ⟨_, rfl⟩
      replace H : (if y242.length + y245.length < 17592186044416 then (Fc.l0 kq l0 y226 (y242 ++ y245) (wrap64 (x7_1 + 1))) else (none)) = some (r1, r2, r3) := by first | (rw [hy245]; with_reducible exact H) | (have H2_ := (Option.bind_some _ _).symm.trans H; rw [hy245]; with_reducible exact H2_) | (have H2_ := (Option.bind_some _ _).symm.trans H; with_reducible exact H2_) | with_reducible exact H | (rw [hy245]; exact H) | exact H
      have Ny245 := Ak hy245
      clear hy245
      by_cases c119 : y242.length + y245.length < 17592186044416
      rotate_left
      ·rw [if_neg c119] at H
       exact absurd H (by simp)
      rw [if_pos c119] at H
      have LMc119 := Ak c119
      clear c119
      obtain ⟨y249, hy249⟩ : ∃ y_ : List Int, y_ = (y242 ++ y245) := ⟨_, rfl⟩
      replace H : (Fc.l0 kq l0 y226 y249 (wrap64 (x7_1 + 1))) = some (r1, r2, r3) := by first | (rw [hy249]; with_reducible exact H) | (have H2_ := (Option.bind_some _ _).symm.trans H; rw [hy249]; with_reducible exact H2_) | (have H2_ := (Option.bind_some _ _).symm.trans H; with_reducible exact H2_) | with_reducible exact H | (rw [hy249]; exact H) | exact H
      have Ny249 := Ak hy249
      clear hy249
      have H' := Ak H
      clear H
      try go_wp2
      have n0_ := Ak (Kd.R_drew HO_5.out)
      have n1_ := Ak (Kd.R_drew HO_6.out)
      have n2_ := Ak (below_drew1 HB.out)
      clear HO_5 HO_6 HB; have HO_5 := n0_; have HO_6 := n1_; have HB := n2_; clear n0_ n1_ n2_
      have q121 : (x11_3 : Int) ≤ ((x5_1.length : Int) : Int) := Dz
      obtain ⟨i0121, hi0121, _, hsz121, _⟩ := info_parts info9
      have hroom121 : x5_1.length ≤ co17 := (Kd.R_reads' HO_5.out).2.1
      have hC121 : Kd.C Kd.string _ Ao17 x5_1.length x5_1 := (Kd.R_reads' HO_5.out).2.2
      have hcut121 := cut_to (P := Tryz.prog) 26 9 .i64 Tryz.underlying26 hi0121 Ao17 x5_1.length co17 x11_3 Dz q121 hroom121
      have hr121 := Kd.C_take (m := (x11_3 : Int).toNat) hC121 (by omega)
      have hy121 : y209.length = (x11_3 : Int).toNat := (by rw [Ny209.out, List.length_take]; omega)
      rw [← Ny209.out] at hr121
      rw [← hy121] at hcut121
      have HR212 := Ak hr121
      have HC212 := Ak (show y209.length ≤ co17 from by omega)
      clear hr121 hC121 hroom121 hi0121 hsz121
      have KY121 := Ak hy121
      clear hy121
      have KL121 := Ak (show (x11_3 : Int).toNat ≤ x5_1.length from by omega)
      replace q121 := eq_true q121
      have q122 : (x11_3 : Int) ≤ ((x5_1.length : Int) : Int) := Dz
      obtain ⟨i0122, hi0122, _, hsz122, _⟩ := info_parts info9
      have hroom122 : x5_1.length ≤ co17 := (Kd.R_reads' HO_5.out).2.1
      have hC122 : Kd.C Kd.string _ Ao17 x5_1.length x5_1 := (Kd.R_reads' HO_5.out).2.2
      have q0122 : (0 : Int) ≤ (x11_3 : Int) := Dz
      have hcut122 := cut_from (P := Tryz.prog) 26 9 .i64 Tryz.underlying26 hi0122 1 hsz122 Ao17 x5_1.length co17 x11_3 q0122 q122
      have hr122 := Kd.C_drop (m := (x11_3 : Int).toNat) (c := co17) hC122 (by omega) hroom122
      obtain ⟨A122, hA122⟩ : ∃ A1, A1 = (if co17 = (x11_3 : Int).toNat then Ao17 else (Ao17 : Option Addr).map (·.add ((x11_3 : Int).toNat * 1))) := ⟨_, rfl⟩
      obtain ⟨c122, hc122⟩ : ∃ c1, c1 = co17 - (x11_3 : Int).toNat := ⟨_, rfl⟩
      have hy122 : y222.length = x5_1.length - (x11_3 : Int).toNat := (by rw [Ny222.out, List.length_drop] <;> omega)
      rw [show (x5_1).drop (x11_3 : Int).toNat = y222 from Ny222.out.symm] at hr122
      replace hr122 : Kd.C Kd.string _ A122 y222.length y222 := (by rw [hA122]; exact hr122)
      rw [← hy122, ← hA122, ← hc122] at hcut122
      have HR225 := Ak hr122
      have HC225 := Ak (show y222.length ≤ c122 from by rw [hy122, hc122]; exact Nat.sub_le_sub_right hroom122 _)
      clear hr122 hC122 hroom122 hi0122 hsz122 hc122
      have KY122 := Ak hy122
      have KA122 := Ak hA122
      clear hy122 hA122
      have KL122 := Ak (show (x11_3 : Int).toNat ≤ x5_1.length from by omega)
      replace q122 := eq_true q122
      refine start_ (n := 13) (S := fun w' => True) (ds := []) #[O,O,O,O,O,O,O,O,O,O,O,O,O] (by kernel_rfl) rfl rfl trivial (fun hHeld => ?_); refine with_tabW Fc.tab16 Fc.bits16 (fun HT_ HW_ => ?_)
      generalize wc.drew = w120 at HO_5 HO_6 HB HR212 HR225 hHeld ⊢
      refine pure_ (i := 1) (N := some 84) (v := ?_) (a' := ?_) #[O,I,O,O,O,O,O,O,O,O,O,O,O] rfl rfl (any_of HT_.out (by kernel_rfl)) (fun _ _ _ h => h) (Or.inl ⟨by rfl, ?_⟩) ?_ ?_
      rotate_left; (intro w'; go_simp; with_reducible rfl); rotate_left; (simp only [Z]; rfl)
      refine pure_ (i := 2) (N := some 85) (v := ?_) (a' := ?_) #[O,I,I,O,O,O,O,O,O,O,O,O,O] rfl rfl (any_of HT_.out (by kernel_rfl)) (fun _ _ _ h => h) (Or.inl ⟨by rfl, ?_⟩) ?_ ?_
      rotate_left; (intro w'; go_simp; with_reducible rfl); rotate_left; (simp only [Z]; rfl)
      refine pure_ (i := 3) (N := some 86) (v := ?_) (a' := ?_) #[O,I,I,I,O,O,O,O,O,O,O,O,O] rfl rfl (any_of HT_.out (by kernel_rfl)) (fun _ _ _ h => h) (Or.inl ⟨by rfl, ?_⟩) ?_ ?_
      rotate_left; (intro w'; go_simp; with_reducible rfl); rotate_left; (simp only [Z]; rfl)
      refine pure_ (i := 5) (N := some 88) (v := ?_) (a' := ?_) #[O,I,I,I,O,I,O,O,O,O,O,O,O] rfl rfl (any_of HT_.out (by kernel_rfl)) (fun _ _ _ h => h) (Or.inl ⟨by rfl, ?_⟩) ?_ ?_
      rotate_left; (intro w'; go_simp; with_reducible rfl); rotate_left; (simp only [Z]; rfl)
      refine pure_ (i := 8) (N := some 91) (v := ?_) (a' := ?_) #[O,I,I,I,O,I,O,O,I,O,O,O,O] rfl rfl (any_of HT_.out (by kernel_rfl)) (fun _ _ _ h => h) (Or.inl ⟨by rfl, ?_⟩) ?_ ?_
      rotate_left; (intro w'; go_simp; with_reducible rfl); rotate_left; (simp only [Z]; rfl)
      refine pure_ (i := 9) (N := some 92) (v := ?_) (a' := ?_) #[O,I,I,I,O,I,O,O,I,I,O,O,O] rfl rfl (any_of HT_.out (by kernel_rfl)) (fun _ _ _ h => h) (Or.inl ⟨by rfl, ?_⟩) ?_ ?_
      rotate_left; (intro w'; go_simp; with_reducible rfl); rotate_left; (simp only [Z]; rfl)
      refine pure_ (i := 10) (N := some 93) (v := ?_) (a' := ?_) #[O,I,I,I,O,I,O,O,I,I,I,O,O] rfl rfl (any_of HT_.out (by kernel_rfl)) (fun _ _ _ h => h) (Or.inl ⟨by rfl, ?_⟩) ?_ ?_
      rotate_left; (intro w'; go_simp; with_reducible rfl); rotate_left; (simp only [Z]; rfl)
      refine join_ (σ := Value × Value × Value) 3 #[I,I,I,I,I,I,I,O,I,I,I,O,O] (fun s_ => [(83, s_.1), (87, s_.2.1), (89, s_.2.2)]) (fun s_ w' => (Kd.R Kd.string 9 w' w.heap.size (fun k_ => some k_ ≠ (s_.2.2 : Value).ownBlock ∧ some k_ ≠ (.slice Ao17 x5_1.length co17 : Value).ownBlock) s_.2.1 y213) ∧ (Kd.R Kd.string 9 w' w.heap.size (fun k_ => some k_ ≠ (s_.2.1 : Value).ownBlock ∧ some k_ ≠ (.slice Ao17 x5_1.length co17 : Value).ownBlock) s_.2.2 y216) ∧ (Kd.R Kd.string 9 w' w.heap.size (fun k_ => some k_ ≠ (s_.2.1 : Value).ownBlock ∧ some k_ ≠ (s_.2.2 : Value).ownBlock) (.slice Ao17 x5_1.length co17) x5_1) ∧ (Kd.R (Kd.int .i64) 3 w' w.heap.size (fun _ => True) u6 x6_1) ∧ (Below w.heap.size w w')) ?_ ?_
      rotate_left
      ·intro hCont
       refine two_ (i := 0) (j := 6) (Ni := some 83) (Nj := some 89) #[I,I,I,I,O,I,O,O,I,I,I,O,O] #[O,I,I,I,O,I,I,O,I,I,I,O,O] rfl rfl rfl rfl (two_of HT_.out (by kernel_rfl)) (by decide) (by decide) (fun K hK => ?_) (fun K hK => ?_)
       ·skip
        refine Kd.R_lit_step Kd.string _ 9 ?hg (N := 83) ?hd (xs := ([] : List ByteArray)) (inner := []) (ok := fun _ => True) (okp := fun _ => True) ?hr ?hp (fun _ hk => hk) trivial (Below.refl _ _) (Nat.le_refl _) (by simp) ?_; (case hd => rfl); (case hg => rfl); (case hr => first | (go_simp; done) | (go_simp; rfl)); (case hp => exact (Reps.none _ _))
        intro v207 w123 ho124 hb hg_ hnew_
        clear hg_ hnew_
        (first | rw [← Ny206.out] at ho124 | (simp only [Int.reduceToNat] at ho124; rw [← Ny206.out] at ho124))
        have n0_ := Ak (Kd.R_elder' (by exact RS <| HO_5.out) (Kd.R_base ho124) hb)
        have n1_ := Ak (Kd.R_below (by exact RS <| HO_6.out) hb)
        have n2_ := Ak (Kd.R_lower (Kd.R_new' ho124 (Kd.R_lt (by exact RS <| HO_5.out))) (below_size (by exact eS HB.out)))
        have n3_ := Ak (Kd.C_below (by exact Cs HR212.out) hb)
        have n4_ := Ak (Kd.C_below (by exact Cs HR225.out) hb)
        have n5_ := Ak (below_step (by exact eS HB.out) hb)
        clear HO_5 HO_6 HR212 HR225 HB; have HO_5 := n0_; have HO_6 := n1_; have HO208 := n2_; have HR212 := n3_; have HR225 := n4_; have HB := n5_; clear n0_ n1_ n2_ n3_ n4_ n5_ hb ho124
        refine hK.out _ _ trivial (fun hHeld => ?_); clear hK K
        refine norm_ (a' := ?_) ?_ ?_; rotate_left; (show Act.put _ (some 83) _ = _; simp only [Z]; rfl)
        refine two_ (i := 4) (j := 6) (Ni := some 87) (Nj := some 89) #[I,I,I,I,I,I,O,O,I,I,I,O,O] #[I,I,I,I,O,I,I,O,I,I,I,O,O] rfl rfl rfl rfl (two_of HT_.out (by kernel_rfl)) (by decide) (by decide) (fun K hK => ?_) (fun K hK => ?_)
        ·skip
         refine Kd.R_append_rows_step Kd.string (w0 := w) w.heap.size (by rfl) (.tmp 83) (.tmp 86) 26 9 (.string ⟨#[]⟩) 16 rfl Tryz.underlying26 info9 rfl (by decide) (by omega) v207 y206 y209 _ _ _ (fun k_ => some k_ ≠ (.slice Ao17 x5_1.length co17 : Value).ownBlock) (fun _ => False) rfl rfl ?aO ?aR (fun _ _ h => h) (fun _ h => h.elim) ?aF ?aB ?aS ?aL ?_
         (case aR => exact Cs HR212.out)
         (case aB => exact (by exact eS HB.out))
         (case aF => exact (fun k_ hk => Kd.fresh' (Kd.R_lt (by exact RS <| HO_5.out)) k_ hk))
         (case aO => exact (by exact RS <| Kd.R_mono HO208.out (fun _ hk => hk.2)))
         (case aS => exact (below_size (by exact eS HB.out)))
         (case aL => have := LMc108.out; omega)
         intro v214 w125 ho hb hg hat
         rw [← Ny213.out] at ho
         have n0_ := Ak (Kd.R_after (ok := (fun _ => True)) (by exact RS <| HO_5.out) hg hat)
         have n1_ := Ak (Kd.R_over' (by exact RS <| HO_6.out) (Kd.R_typed (by exact RS <| HO208.out)) (by decide) hg)
         have n2_ := Ak (hb)
         have n3_ := Ak ((Ct Kd.string Ny209.out (Kd.R_after (ok := (fun _ => True)) (by exact RS <| HO_5.out) hg hat) KL121.out))
         have n4_ := Ak ((Cd Kd.string Ny222.out KA122.out (Kd.R_after (ok := (fun _ => True)) (by exact RS <| HO_5.out) hg hat) KL122.out))
         have n5_ := Ak (ho)
         clear HO_5 HO_6 HB HR212 HR225 HO208; have HO_5 := n0_; have HO_6 := n1_; have HB := n2_; have HR212 := n3_; have HR225 := n4_; have HO215 := n5_; clear n0_ n1_ n2_ n3_ n4_ n5_ ho hb hg hat
         refine hK.out _ _ trivial (fun hHeld => ?_); clear hK K
         refine norm_ (a' := ?_) ?_ ?_; rotate_left; (show Act.put _ (some 87) _ = _; simp only [Z]; rfl)
         refine one_ (i := 6) (N := some 89) #[I,I,I,I,I,I,I,O,I,I,I,O,O] rfl rfl (one_of HT_.out (by kernel_rfl)) (by decide) (fun K hK => ?_)
         refine Kd.R_lit_step Kd.string _ 9 ?hg (N := 89) ?hd (xs := ([((rd_T34 l0 x7_1).f1)] : List ByteArray)) (inner := [.string ((rd_T34 l0 x7_1).f1)]) (ok := fun _ => True) (okp := fun _ => True) ?hr ?hp (fun _ hk => hk) trivial (Below.refl _ _) (Nat.le_refl _) (by simp) ?_; (case hd => rfl); (case hg => rfl); (case hr => first | (go_simp; done) | (go_simp; rfl)); (case hp => exact (Reps.one (show Kd.M Kd.string _ _ _ ((rd_T34 l0 x7_1).f1) [.string ((rd_T34 l0 x7_1).f1)] from rfl) (Reps.none _ _)))
         intro v217 w126 ho127 hb hg_ hnew_
         clear hg_ hnew_
         (first | rw [← Ny216.out] at ho127 | (simp only [Int.reduceToNat] at ho127; rw [← Ny216.out] at ho127))
         have n0_ := Ak (Kd.R_elder' (by exact RS <| HO_5.out) (Kd.R_base ho127) hb)
         have n1_ := Ak (Kd.R_below (by exact RS <| HO_6.out) hb)
         have n2_ := Ak (Kd.R_elder' (by exact RS <| HO215.out) (Kd.R_base ho127) hb)
         have n3_ := Ak (Kd.R_lower (Kd.R_new' (Kd.R_new' ho127 (Kd.R_lt (by exact RS <| HO_5.out))) (Kd.R_lt (by exact RS <| HO215.out))) (below_size (by exact eS HB.out)))
         have n4_ := Ak (Kd.C_below (by exact Cs HR212.out) hb)
         have n5_ := Ak (Kd.C_below (by exact Cs HR225.out) hb)
         have n6_ := Ak (below_step (by exact eS HB.out) hb)
         clear HO_5 HO_6 HO215 HR212 HR225 HB; have HO_5 := n0_; have HO_6 := n1_; have HO215 := n2_; have HO218 := n3_; have HR212 := n4_; have HR225 := n5_; have HB := n6_; clear n0_ n1_ n2_ n3_ n4_ n5_ n6_ hb ho127
         refine hK.out _ _ trivial (fun hHeld => ?_); clear hK K
         refine norm_ (a' := ?_) ?_ ?_; rotate_left; (show Act.put _ (some 89) _ = _; simp only [Z]; rfl)
         exact norm_ (by simp only [putAll, Act.put, List.setIfInBounds_toArray, List.set_cons_zero, List.set_cons_succ]) (hCont (v207, v214, v217) _ ⟨(by exact RS <| Kd.R_mono HO215.out (fun _ hk => ⟨hk.2, hk.1⟩)), (by exact RS <| Kd.R_mono HO218.out (fun _ hk => ⟨hk.2, hk.1.2⟩)), (by exact RS <| Kd.R_mono HO_5.out (fun _ hk => ⟨hk.1.2, hk.2⟩)), (by exact RS <| HO_6.out), (by exact eS HB.out)⟩)
        ·skip
         refine Kd.R_lit_step Kd.string _ 9 ?hg (N := 89) ?hd (xs := ([((rd_T34 l0 x7_1).f1)] : List ByteArray)) (inner := [.string ((rd_T34 l0 x7_1).f1)]) (ok := fun _ => True) (okp := fun _ => True) ?hr ?hp (fun _ hk => hk) trivial (Below.refl _ _) (Nat.le_refl _) (by simp) ?_; (case hd => rfl); (case hg => rfl); (case hr => first | (go_simp; done) | (go_simp; rfl)); (case hp => exact (Reps.one (show Kd.M Kd.string _ _ _ ((rd_T34 l0 x7_1).f1) [.string ((rd_T34 l0 x7_1).f1)] from rfl) (Reps.none _ _)))
         intro v217 w125 ho126 hb hg_ hnew_
         clear hg_ hnew_
         (first | rw [← Ny216.out] at ho126 | (simp only [Int.reduceToNat] at ho126; rw [← Ny216.out] at ho126))
         have n0_ := Ak (Kd.R_elder' (by exact RS <| HO_5.out) (Kd.R_base ho126) hb)
         have n1_ := Ak (Kd.R_below (by exact RS <| HO_6.out) hb)
         have n2_ := Ak (Kd.R_elder' (by exact RS <| HO208.out) (Kd.R_base ho126) hb)
         have n3_ := Ak (Kd.R_lower (Kd.R_new' (Kd.R_new' ho126 (Kd.R_lt (by exact RS <| HO_5.out))) (Kd.R_lt (by exact RS <| HO208.out))) (below_size (by exact eS HB.out)))
         have n4_ := Ak (Kd.C_below (by exact Cs HR212.out) hb)
         have n5_ := Ak (Kd.C_below (by exact Cs HR225.out) hb)
         have n6_ := Ak (below_step (by exact eS HB.out) hb)
         clear HO_5 HO_6 HO208 HR212 HR225 HB; have HO_5 := n0_; have HO_6 := n1_; have HO208 := n2_; have HO218 := n3_; have HR212 := n4_; have HR225 := n5_; have HB := n6_; clear n0_ n1_ n2_ n3_ n4_ n5_ n6_ hb ho126
         refine hK.out _ _ trivial (fun hHeld => ?_); clear hK K
         refine norm_ (a' := ?_) ?_ ?_; rotate_left; (show Act.put _ (some 89) _ = _; simp only [Z]; rfl)
         refine one_ (i := 4) (N := some 87) #[I,I,I,I,I,I,I,O,I,I,I,O,O] rfl rfl (one_of HT_.out (by kernel_rfl)) (by decide) (fun K hK => ?_)
         refine Kd.R_append_rows_step Kd.string (w0 := w) w.heap.size (by rfl) (.tmp 83) (.tmp 86) 26 9 (.string ⟨#[]⟩) 16 rfl Tryz.underlying26 info9 rfl (by decide) (by omega) v207 y206 y209 _ _ _ (fun k_ => some k_ ≠ (.slice Ao17 x5_1.length co17 : Value).ownBlock ∧ some k_ ≠ (v217 : Value).ownBlock) (fun _ => False) rfl rfl ?aO ?aR (fun _ _ h => h) (fun _ h => h.elim) ?aF ?aB ?aS ?aL ?_
         (case aR => exact Cs HR212.out)
         (case aB => exact (by exact eS HB.out))
         (case aF => exact (fun k_ hk => ⟨Kd.fresh' (Kd.R_lt (by exact RS <| HO_5.out)) k_ hk, Kd.fresh' (Kd.R_lt (by exact RS <| HO218.out)) k_ hk⟩))
         (case aO => exact (by exact RS <| Kd.R_mono HO208.out (fun _ hk => ⟨hk.1.2, hk.2⟩)))
         (case aS => exact (below_size (by exact eS HB.out)))
         (case aL => have := LMc108.out; omega)
         intro v214 w127 ho hb hg hat
         rw [← Ny213.out] at ho
         have n0_ := Ak (Kd.R_after (ok := (fun k_ => some k_ ≠ (v217 : Value).ownBlock)) (by exact RS <| Kd.R_mono HO_5.out (fun _ hk => ⟨hk.2, hk.1.2⟩)) hg hat)
         have n1_ := Ak (Kd.R_over' (by exact RS <| HO_6.out) (Kd.R_typed (by exact RS <| HO208.out)) (by decide) hg)
         have n2_ := Ak (Kd.R_after (ok := (fun k_ => some k_ ≠ (.slice Ao17 x5_1.length co17 : Value).ownBlock)) (by exact RS <| Kd.R_mono HO218.out (fun _ hk => ⟨hk.1.2, hk.2⟩)) hg hat)
         have n3_ := Ak (hb)
         have n4_ := Ak ((Ct Kd.string Ny209.out (Kd.R_after (ok := (fun k_ => some k_ ≠ (v217 : Value).ownBlock)) (by exact RS <| Kd.R_mono HO_5.out (fun _ hk => ⟨hk.2, hk.1.2⟩)) hg hat) KL121.out))
         have n5_ := Ak ((Cd Kd.string Ny222.out KA122.out (Kd.R_after (ok := (fun k_ => some k_ ≠ (v217 : Value).ownBlock)) (by exact RS <| Kd.R_mono HO_5.out (fun _ hk => ⟨hk.2, hk.1.2⟩)) hg hat) KL122.out))
         have n6_ := Ak (ho)
         clear HO_5 HO_6 HO218 HB HR212 HR225 HO208; have HO_5 := n0_; have HO_6 := n1_; have HO218 := n2_; have HB := n3_; have HR212 := n4_; have HR225 := n5_; have HO215 := n6_; clear n0_ n1_ n2_ n3_ n4_ n5_ n6_ ho hb hg hat
         refine hK.out _ _ trivial (fun hHeld => ?_); clear hK K
         refine norm_ (a' := ?_) ?_ ?_; rotate_left; (show Act.put _ (some 87) _ = _; simp only [Z]; rfl)
         exact norm_ (by simp only [putAll, Act.put, List.setIfInBounds_toArray, List.set_cons_zero, List.set_cons_succ]) (hCont (v207, v214, v217) _ ⟨(by exact RS <| Kd.R_mono HO215.out (fun _ hk => ⟨hk.2, hk.1⟩)), (by exact RS <| Kd.R_mono HO218.out (fun _ hk => ⟨hk.2, hk.1⟩)), (by exact RS <| Kd.R_mono HO_5.out (fun _ hk => ⟨hk.2, hk.1⟩)), (by exact RS <| HO_6.out), (by exact eS HB.out)⟩)
       ·skip
        refine Kd.R_lit_step Kd.string _ 9 ?hg (N := 89) ?hd (xs := ([((rd_T34 l0 x7_1).f1)] : List ByteArray)) (inner := [.string ((rd_T34 l0 x7_1).f1)]) (ok := fun _ => True) (okp := fun _ => True) ?hr ?hp (fun _ hk => hk) trivial (Below.refl _ _) (Nat.le_refl _) (by simp) ?_; (case hd => rfl); (case hg => rfl); (case hr => first | (go_simp; done) | (go_simp; rfl)); (case hp => exact (Reps.one (show Kd.M Kd.string _ _ _ ((rd_T34 l0 x7_1).f1) [.string ((rd_T34 l0 x7_1).f1)] from rfl) (Reps.none _ _)))
        intro v217 w123 ho124 hb hg_ hnew_
        clear hg_ hnew_
        (first | rw [← Ny216.out] at ho124 | (simp only [Int.reduceToNat] at ho124; rw [← Ny216.out] at ho124))
        have n0_ := Ak (Kd.R_elder' (by exact RS <| HO_5.out) (Kd.R_base ho124) hb)
        have n1_ := Ak (Kd.R_below (by exact RS <| HO_6.out) hb)
        have n2_ := Ak (Kd.R_lower (Kd.R_new' ho124 (Kd.R_lt (by exact RS <| HO_5.out))) (below_size (by exact eS HB.out)))
        have n3_ := Ak (Kd.C_below (by exact Cs HR212.out) hb)
        have n4_ := Ak (Kd.C_below (by exact Cs HR225.out) hb)
        have n5_ := Ak (below_step (by exact eS HB.out) hb)
        clear HO_5 HO_6 HR212 HR225 HB; have HO_5 := n0_; have HO_6 := n1_; have HO218 := n2_; have HR212 := n3_; have HR225 := n4_; have HB := n5_; clear n0_ n1_ n2_ n3_ n4_ n5_ hb ho124
        refine hK.out _ _ trivial (fun hHeld => ?_); clear hK K
        refine norm_ (a' := ?_) ?_ ?_; rotate_left; (show Act.put _ (some 89) _ = _; simp only [Z]; rfl)
        refine one_ (i := 0) (N := some 83) #[I,I,I,I,O,I,I,O,I,I,I,O,O] rfl rfl (one_of HT_.out (by kernel_rfl)) (by decide) (fun K hK => ?_)
        refine Kd.R_lit_step Kd.string _ 9 ?hg (N := 83) ?hd (xs := ([] : List ByteArray)) (inner := []) (ok := fun _ => True) (okp := fun _ => True) ?hr ?hp (fun _ hk => hk) trivial (Below.refl _ _) (Nat.le_refl _) (by simp) ?_; (case hd => rfl); (case hg => rfl); (case hr => first | (go_simp; done) | (go_simp; rfl)); (case hp => exact (Reps.none _ _))
        intro v207 w125 ho126 hb hg_ hnew_
        clear hg_ hnew_
        (first | rw [← Ny206.out] at ho126 | (simp only [Int.reduceToNat] at ho126; rw [← Ny206.out] at ho126))
        have n0_ := Ak (Kd.R_elder' (by exact RS <| HO_5.out) (Kd.R_base ho126) hb)
        have n1_ := Ak (Kd.R_below (by exact RS <| HO_6.out) hb)
        have n2_ := Ak (Kd.R_elder' (by exact RS <| HO218.out) (Kd.R_base ho126) hb)
        have n3_ := Ak (Kd.R_lower (Kd.R_new' (Kd.R_new' ho126 (Kd.R_lt (by exact RS <| HO_5.out))) (Kd.R_lt (by exact RS <| HO218.out))) (below_size (by exact eS HB.out)))
        have n4_ := Ak (Kd.C_below (by exact Cs HR212.out) hb)
        have n5_ := Ak (Kd.C_below (by exact Cs HR225.out) hb)
        have n6_ := Ak (below_step (by exact eS HB.out) hb)
        clear HO_5 HO_6 HO218 HR212 HR225 HB; have HO_5 := n0_; have HO_6 := n1_; have HO218 := n2_; have HO208 := n3_; have HR212 := n4_; have HR225 := n5_; have HB := n6_; clear n0_ n1_ n2_ n3_ n4_ n5_ n6_ hb ho126
        refine hK.out _ _ trivial (fun hHeld => ?_); clear hK K
        refine norm_ (a' := ?_) ?_ ?_; rotate_left; (show Act.put _ (some 83) _ = _; simp only [Z]; rfl)
        refine one_ (i := 4) (N := some 87) #[I,I,I,I,I,I,I,O,I,I,I,O,O] rfl rfl (one_of HT_.out (by kernel_rfl)) (by decide) (fun K hK => ?_)
        refine Kd.R_append_rows_step Kd.string (w0 := w) w.heap.size (by rfl) (.tmp 83) (.tmp 86) 26 9 (.string ⟨#[]⟩) 16 rfl Tryz.underlying26 info9 rfl (by decide) (by omega) v207 y206 y209 _ _ _ (fun k_ => some k_ ≠ (.slice Ao17 x5_1.length co17 : Value).ownBlock ∧ some k_ ≠ (v217 : Value).ownBlock) (fun _ => False) rfl rfl ?aO ?aR (fun _ _ h => h) (fun _ h => h.elim) ?aF ?aB ?aS ?aL ?_
        (case aR => exact Cs HR212.out)
        (case aB => exact (by exact eS HB.out))
        (case aF => exact (fun k_ hk => ⟨Kd.fresh' (Kd.R_lt (by exact RS <| HO_5.out)) k_ hk, Kd.fresh' (Kd.R_lt (by exact RS <| HO218.out)) k_ hk⟩))
        (case aO => exact (by exact RS <| Kd.R_mono HO208.out (fun _ hk => ⟨hk.1.2, hk.2⟩)))
        (case aS => exact (below_size (by exact eS HB.out)))
        (case aL => have := LMc108.out; omega)
        intro v214 w127 ho hb hg hat
        rw [← Ny213.out] at ho
        have n0_ := Ak (Kd.R_after (ok := (fun k_ => some k_ ≠ (v217 : Value).ownBlock)) (by exact RS <| Kd.R_mono HO_5.out (fun _ hk => ⟨hk.1.2, hk.2⟩)) hg hat)
        have n1_ := Ak (Kd.R_over' (by exact RS <| HO_6.out) (Kd.R_typed (by exact RS <| HO208.out)) (by decide) hg)
        have n2_ := Ak (Kd.R_after (ok := (fun k_ => some k_ ≠ (.slice Ao17 x5_1.length co17 : Value).ownBlock)) (by exact RS <| Kd.R_mono HO218.out (fun _ hk => ⟨hk.1.2, hk.2⟩)) hg hat)
        have n3_ := Ak (hb)
        have n4_ := Ak ((Ct Kd.string Ny209.out (Kd.R_after (ok := (fun k_ => some k_ ≠ (v217 : Value).ownBlock)) (by exact RS <| Kd.R_mono HO_5.out (fun _ hk => ⟨hk.1.2, hk.2⟩)) hg hat) KL121.out))
        have n5_ := Ak ((Cd Kd.string Ny222.out KA122.out (Kd.R_after (ok := (fun k_ => some k_ ≠ (v217 : Value).ownBlock)) (by exact RS <| Kd.R_mono HO_5.out (fun _ hk => ⟨hk.1.2, hk.2⟩)) hg hat) KL122.out))
        have n6_ := Ak (ho)
        clear HO_5 HO_6 HO218 HB HR212 HR225 HO208; have HO_5 := n0_; have HO_6 := n1_; have HO218 := n2_; have HB := n3_; have HR212 := n4_; have HR225 := n5_; have HO215 := n6_; clear n0_ n1_ n2_ n3_ n4_ n5_ n6_ ho hb hg hat
        refine hK.out _ _ trivial (fun hHeld => ?_); clear hK K
        refine norm_ (a' := ?_) ?_ ?_; rotate_left; (show Act.put _ (some 87) _ = _; simp only [Z]; rfl)
        exact norm_ (by simp only [putAll, Act.put, List.setIfInBounds_toArray, List.set_cons_zero, List.set_cons_succ]) (hCont (v207, v214, v217) _ ⟨(by exact RS <| Kd.R_mono HO215.out (fun _ hk => ⟨hk.2, hk.1⟩)), (by exact RS <| Kd.R_mono HO218.out (fun _ hk => ⟨hk.2, hk.1⟩)), (by exact RS <| Kd.R_mono HO_5.out (fun _ hk => ⟨hk.2, hk.1⟩)), (by exact RS <| HO_6.out), (by exact eS HB.out)⟩)
      rintro ⟨v207, v214, v217⟩ w128 ⟨h0_, h1_, h2_, h3_, h4_⟩
      have n0_ : Aside0 (Kd.R Kd.string 9 w128 w.heap.size (fun k_ => some k_ ≠ (v217 : Value).ownBlock ∧ some k_ ≠ (.slice Ao17 x5_1.length co17 : Value).ownBlock) v214 y213) := ⟨h0_⟩
      have n1_ : Aside0 (Kd.R Kd.string 9 w128 w.heap.size (fun k_ => some k_ ≠ (v214 : Value).ownBlock ∧ some k_ ≠ (.slice Ao17 x5_1.length co17 : Value).ownBlock) v217 y216) := ⟨h1_⟩
      have n2_ : Aside0 (Kd.R Kd.string 9 w128 w.heap.size (fun k_ => some k_ ≠ (v214 : Value).ownBlock ∧ some k_ ≠ (v217 : Value).ownBlock) (.slice Ao17 x5_1.length co17) x5_1) := ⟨h2_⟩
      have n3_ : Aside0 (Kd.R (Kd.int .i64) 3 w128 w.heap.size (fun _ => True) u6 x6_1) := ⟨h3_⟩
      have n4_ : Aside0 (Below w.heap.size w w128) := ⟨h4_⟩
      clear HO_5 HO_6 HB h0_ h1_ h2_ h3_ h4_; have HO215 := n0_; have HO218 := n1_; have HO_5 := n2_; have HO_6 := n3_; have HB := n4_; clear n0_ n1_ n2_ n3_ n4_
      have hHeld := trivial
      have HR212 := Ak (Ct Kd.string Ny209.out (HO_5.out) KL121.out)
      have HR225 := Ak (Cd Kd.string Ny222.out KA122.out (HO_5.out) KL122.out)
      obtain ⟨Ao130, co130, eo130⟩ := Kd.R_slice HO218.out
      (first | subst eo130 | (injection eo130 with f1_ f2_ f3_; have f4_ := f1_.symm; have f5_ := f3_.symm; clear f1_ f2_ f3_; subst f4_; subst f5_))
      refine norm_ (a' := ?_) ?_ ?_
      rotate_left
      ·simp only [putAll, Act.put, List.setIfInBounds_toArray, List.set_cons_zero, List.set_cons_succ]
       rfl
      refine one_ (i := 7) (N := some 90) #[I,I,I,I,I,I,I,I,I,I,I,O,O] rfl rfl (one_of HT_.out (by kernel_rfl)) (by decide) (fun K hK => ?_)
      refine Kd.R_append_rows_step Kd.string (w0 := w) w.heap.size (by rfl) (.tmp 87) (.tmp 89) 26 9 (.string ⟨#[]⟩) 16 rfl Tryz.underlying26 info9 rfl (by decide) (by omega) v214 y213 y216 _ _ _ (fun k_ => some k_ ≠ (.slice Ao17 x5_1.length co17 : Value).ownBlock ∧ some k_ ≠ (.slice Ao130 y216.length co130 : Value).ownBlock) (fun _ => False) rfl rfl ?aO ?aR (fun _ _ h => h) (fun _ h => h.elim) ?aF ?aB ?aS ?aL ?_
      (case aR => repeat (first | exact (Kd.R_reads' HO218.out).2.2 | (with_reducible refine Kd.C_alloc ?_ _) | (with_reducible refine Kd.C_drewN ?_ _) | (with_reducible refine Kd.C_drew ?_)))
      (case aB => exact (by exact eS HB.out))
      (case aF => exact (fun k_ hk => ⟨Kd.fresh' (Kd.R_lt (by exact RS <| HO_5.out)) k_ hk, Kd.fresh' (Kd.R_lt (by exact RS <| HO218.out)) k_ hk⟩))
      (case aO => exact (by exact RS <| Kd.R_mono HO215.out (fun _ hk => ⟨hk.2, hk.1⟩)))
      (case aS => exact (below_size (by exact eS HB.out)))
      (case aL => have := LMc109.out; omega)
      intro v220 w129 ho hb hg hat
      rw [← Ny219.out] at ho
      have n0_ := Ak (Kd.R_after (ok := (fun k_ => some k_ ≠ (.slice Ao130 y216.length co130 : Value).ownBlock)) (by exact RS <| Kd.R_mono HO_5.out (fun _ hk => ⟨hk.2, hk.1⟩)) hg hat)
      have n1_ := Ak (Kd.R_over' (by exact RS <| HO_6.out) (Kd.R_typed (by exact RS <| HO215.out)) (by decide) hg)
      have n2_ := Ak (Kd.R_after (ok := (fun k_ => some k_ ≠ (.slice Ao17 x5_1.length co17 : Value).ownBlock)) (by exact RS <| Kd.R_mono HO218.out (fun _ hk => ⟨hk.2, hk.1⟩)) hg hat)
      have n3_ := Ak (hb)
      have n4_ := Ak ((Ct Kd.string Ny209.out (Kd.R_after (ok := (fun k_ => some k_ ≠ (.slice Ao130 y216.length co130 : Value).ownBlock)) (by exact RS <| Kd.R_mono HO_5.out (fun _ hk => ⟨hk.2, hk.1⟩)) hg hat) KL121.out))
      have n5_ := Ak ((Cd Kd.string Ny222.out KA122.out (Kd.R_after (ok := (fun k_ => some k_ ≠ (.slice Ao130 y216.length co130 : Value).ownBlock)) (by exact RS <| Kd.R_mono HO_5.out (fun _ hk => ⟨hk.2, hk.1⟩)) hg hat) KL122.out))
      have n6_ := Ak (ho)
      clear HO_5 HO_6 HO218 HB HR212 HR225 HO215; have HO_5 := n0_; have HO_6 := n1_; have HO218 := n2_; have HB := n3_; have HR212 := n4_; have HR225 := n5_; have HO221 := n6_; clear n0_ n1_ n2_ n3_ n4_ n5_ n6_ ho hb hg hat
      refine hK.out _ _ trivial (fun hHeld => ?_); clear hK K
      refine norm_ (a' := ?_) ?_ ?_; rotate_left; (show Act.put _ (some 90) _ = _; simp only [Z]; rfl)
      refine one_ (i := 11) (N := some 94) #[I,I,I,I,I,I,I,I,I,I,I,I,O] rfl rfl (one_of HT_.out (by kernel_rfl)) (by decide) (fun K hK => ?_)
      refine Kd.R_append_rows_step Kd.string (w0 := w) w.heap.size (by rfl) (.tmp 90) (.tmp 93) 26 9 (.string ⟨#[]⟩) 16 rfl Tryz.underlying26 info9 rfl (by decide) (by omega) v220 y219 y222 _ _ _ (fun k_ => some k_ ≠ (.slice Ao17 x5_1.length co17 : Value).ownBlock ∧ some k_ ≠ (.slice Ao130 y216.length co130 : Value).ownBlock) (fun _ => False) rfl rfl ?aO ?aR (fun _ _ h => h) (fun _ h => h.elim) ?aF ?aB ?aS ?aL ?_
      (case aR => exact Cs HR225.out)
      (case aB => exact (by exact eS HB.out))
      (case aF => exact (fun k_ hk => ⟨Kd.fresh' (Kd.R_lt (by exact RS <| HO_5.out)) k_ hk, Kd.fresh' (Kd.R_lt (by exact RS <| HO218.out)) k_ hk⟩))
      (case aO => exact (by exact RS <| HO221.out))
      (case aS => exact (below_size (by exact eS HB.out)))
      (case aL => have := LMc112.out; omega)
      intro v227 w131 ho hb hg hat
      rw [← Ny226.out] at ho
      have n0_ := Ak (Kd.R_after (ok := (fun k_ => some k_ ≠ (.slice Ao130 y216.length co130 : Value).ownBlock)) (by exact RS <| HO_5.out) hg hat)
      have n1_ := Ak (Kd.R_over' (by exact RS <| HO_6.out) (Kd.R_typed (by exact RS <| HO221.out)) (by decide) hg)
      have n2_ := Ak (Kd.R_after (ok := (fun k_ => some k_ ≠ (.slice Ao17 x5_1.length co17 : Value).ownBlock)) (by exact RS <| HO218.out) hg hat)
      have n3_ := Ak (hb)
      have n4_ := Ak ((Ct Kd.string Ny209.out (Kd.R_after (ok := (fun k_ => some k_ ≠ (.slice Ao130 y216.length co130 : Value).ownBlock)) (by exact RS <| HO_5.out) hg hat) KL121.out))
      have n5_ := Ak ((Cd Kd.string Ny222.out KA122.out (Kd.R_after (ok := (fun k_ => some k_ ≠ (.slice Ao130 y216.length co130 : Value).ownBlock)) (by exact RS <| HO_5.out) hg hat) KL122.out))
      have n6_ := Ak (ho)
      clear HO_5 HO_6 HO218 HB HR212 HR225 HO221; have HO_5 := n0_; have HO_6 := n1_; have HO218 := n2_; have HB := n3_; have HR212 := n4_; have HR225 := n5_; have HO228 := n6_; clear n0_ n1_ n2_ n3_ n4_ n5_ n6_ ho hb hg hat
      refine hK.out _ _ trivial (fun hHeld => ?_); clear hK K
      refine norm_ (a' := ?_) ?_ ?_; rotate_left; (show Act.put _ (some 94) _ = _; simp only [Z]; rfl)
      refine pure_ (i := 12) (N := some 5) (v := ?_) (a' := ?_) #[I,I,I,I,I,I,I,I,I,I,I,I,I] rfl rfl (any_of HT_.out (by kernel_rfl)) (fun _ _ _ h => h) (Or.inl ⟨by rfl, ?_⟩) ?_ ?_
      rotate_left; (intro w'; go_simp; with_reducible rfl); rotate_left; (simp only [Z]; rfl)
      refine done_ (done_of HT_.out (by kernel_rfl)) ?_
      try go_wp2
      have n0_ := Ak (Kd.R_drew HO_5.out)
      have n1_ := Ak (Kd.R_drew HO_6.out)
      have n2_ := Ak (Kd.R_drew HO218.out)
      have n3_ := Ak (Kd.R_drew HO228.out)
      have n4_ := Ak (Kd.C_drew HR212.out)
      have n5_ := Ak (Kd.C_drew HR225.out)
      have n6_ := Ak (below_drew1 HB.out)
      clear HO_5 HO_6 HO218 HO228 HR212 HR225 HB; have HO_5 := n0_; have HO_6 := n1_; have HO218 := n2_; have HO228 := n3_; have HR212 := n4_; have HR225 := n5_; have HB := n6_; clear n0_ n1_ n2_ n3_ n4_ n5_ n6_
      obtain ⟨Ao134, co134, eo134⟩ := Kd.R_slice HO_6.out
      (first | subst eo134 | (injection eo134 with f1_ f2_ f3_; have f4_ := f1_.symm; have f5_ := f3_.symm; clear f1_ f2_ f3_; subst f4_; subst f5_))
      have q133 : (x11_3 : Int) ≤ ((x6_1.length : Int) : Int) := Dz
      obtain ⟨i0133, hi0133, _, hsz133, _⟩ := info_parts info3
      have hroom133 : x6_1.length ≤ co134 := (Kd.R_reads' HO_6.out).2.1
      have hC133 : Kd.C (Kd.int .i64) _ Ao134 x6_1.length x6_1 := (Kd.R_reads' HO_6.out).2.2
      have hcut133 := cut_to (P := Tryz.prog) 27 3 .i64 Tryz.underlying27 hi0133 Ao134 x6_1.length co134 x11_3 Dz q133 hroom133
      have hr133 := Kd.C_take (m := (x11_3 : Int).toNat) hC133 (by omega)
      have hy133 : y232.length = (x11_3 : Int).toNat := (by rw [Ny232.out, List.length_take]; omega)
      rw [← Ny232.out] at hr133
      rw [← hy133] at hcut133
      have HR235 := Ak hr133
      have HC235 := Ak (show y232.length ≤ co134 from by omega)
      clear hr133 hC133 hroom133 hi0133 hsz133
      have KY133 := Ak hy133
      clear hy133
      have KL133 := Ak (show (x11_3 : Int).toNat ≤ x6_1.length from by omega)
      replace q133 := eq_true q133
      have q135 : (x11_3 : Int) ≤ ((x6_1.length : Int) : Int) := Dz
      obtain ⟨i0135, hi0135, _, hsz135, _⟩ := info_parts info3
      have hroom135 : x6_1.length ≤ co134 := (Kd.R_reads' HO_6.out).2.1
      have hC135 : Kd.C (Kd.int .i64) _ Ao134 x6_1.length x6_1 := (Kd.R_reads' HO_6.out).2.2
      have q0135 : (0 : Int) ≤ (x11_3 : Int) := Dz
      have hcut135 := cut_from (P := Tryz.prog) 27 3 .i64 Tryz.underlying27 hi0135 1 hsz135 Ao134 x6_1.length co134 x11_3 q0135 q135
      have hr135 := Kd.C_drop (m := (x11_3 : Int).toNat) (c := co134) hC135 (by omega) hroom135
      obtain ⟨A135, hA135⟩ : ∃ A1, A1 = (if co134 = (x11_3 : Int).toNat then Ao134 else (Ao134 : Option Addr).map (·.add ((x11_3 : Int).toNat * 1))) := ⟨_, rfl⟩
      obtain ⟨c135, hc135⟩ : ∃ c1, c1 = co134 - (x11_3 : Int).toNat := ⟨_, rfl⟩
      have hy135 : y245.length = x6_1.length - (x11_3 : Int).toNat := (by rw [Ny245.out, List.length_drop] <;> omega)
      rw [show (x6_1).drop (x11_3 : Int).toNat = y245 from Ny245.out.symm] at hr135
      replace hr135 : Kd.C (Kd.int .i64) _ A135 y245.length y245 := (by rw [hA135]; exact hr135)
      rw [← hy135, ← hA135, ← hc135] at hcut135
      have HR248 := Ak hr135
      have HC248 := Ak (show y245.length ≤ c135 from by rw [hy135, hc135]; exact Nat.sub_le_sub_right hroom135 _)
      clear hr135 hC135 hroom135 hi0135 hsz135 hc135
      have KY135 := Ak hy135
      have KA135 := Ak hA135
      clear hy135 hA135
      have KL135 := Ak (show (x11_3 : Int).toNat ≤ x6_1.length from by omega)
      replace q135 := eq_true q135
      refine start_ (n := 13) (S := fun w' => True) (ds := []) #[O,O,O,O,O,O,O,O,O,O,O,O,O] (by kernel_rfl) rfl rfl trivial (fun hHeld => ?_); refine with_tabW Fc.tab17 Fc.bits17 (fun HT_ HW_ => ?_)
      generalize w131.drew = w132 at HO_5 HO_6 HO218 HO228 HR212 HR225 HB HR235 HR248 hHeld ⊢
      refine pure_ (i := 1) (N := some 96) (v := ?_) (a' := ?_) #[O,I,O,O,O,O,O,O,O,O,O,O,O] rfl rfl (any_of HT_.out (by kernel_rfl)) (fun _ _ _ h => h) (Or.inl ⟨by rfl, ?_⟩) ?_ ?_
      rotate_left; (intro w'; go_simp; with_reducible rfl); rotate_left; (simp only [Z]; rfl)
      refine pure_ (i := 2) (N := some 97) (v := ?_) (a' := ?_) #[O,I,I,O,O,O,O,O,O,O,O,O,O] rfl rfl (any_of HT_.out (by kernel_rfl)) (fun _ _ _ h => h) (Or.inl ⟨by rfl, ?_⟩) ?_ ?_
      rotate_left; (intro w'; go_simp; with_reducible rfl); rotate_left; (simp only [Z]; rfl)
      refine pure_ (i := 3) (N := some 98) (v := ?_) (a' := ?_) #[O,I,I,I,O,O,O,O,O,O,O,O,O] rfl rfl (any_of HT_.out (by kernel_rfl)) (fun _ _ _ h => h) (Or.inl ⟨by rfl, ?_⟩) ?_ ?_
      rotate_left; (intro w'; go_simp; with_reducible rfl); rotate_left; (simp only [Z]; rfl)
      refine pure_ (i := 5) (N := some 100) (v := ?_) (a' := ?_) #[O,I,I,I,O,I,O,O,O,O,O,O,O] rfl rfl (any_of HT_.out (by kernel_rfl)) (fun _ _ _ h => h) (Or.inl ⟨by rfl, ?_⟩) ?_ ?_
      rotate_left; (intro w'; go_simp; with_reducible rfl); rotate_left; (simp only [Z]; rfl)
      refine pure_ (i := 8) (N := some 103) (v := ?_) (a' := ?_) #[O,I,I,I,O,I,O,O,I,O,O,O,O] rfl rfl (any_of HT_.out (by kernel_rfl)) (fun _ _ _ h => h) (Or.inl ⟨by rfl, ?_⟩) ?_ ?_
      rotate_left; (intro w'; go_simp; with_reducible rfl); rotate_left; (simp only [Z]; rfl)
      refine pure_ (i := 9) (N := some 104) (v := ?_) (a' := ?_) #[O,I,I,I,O,I,O,O,I,I,O,O,O] rfl rfl (any_of HT_.out (by kernel_rfl)) (fun _ _ _ h => h) (Or.inl ⟨by rfl, ?_⟩) ?_ ?_
      rotate_left; (intro w'; go_simp; with_reducible rfl); rotate_left; (simp only [Z]; rfl)
      refine pure_ (i := 10) (N := some 105) (v := ?_) (a' := ?_) #[O,I,I,I,O,I,O,O,I,I,I,O,O] rfl rfl (any_of HT_.out (by kernel_rfl)) (fun _ _ _ h => h) (Or.inl ⟨by rfl, ?_⟩) ?_ ?_
      rotate_left; (intro w'; go_simp; with_reducible rfl); rotate_left; (simp only [Z]; rfl)
      refine join_ (σ := Value × Value × Value) 3 #[I,I,I,I,I,I,I,O,I,I,I,O,O] (fun s_ => [(95, s_.1), (99, s_.2.1), (101, s_.2.2)]) (fun s_ w' => (Kd.R Kd.string 9 w' w.heap.size (fun k_ => some k_ ≠ (v227 : Value).ownBlock ∧ some k_ ≠ (.slice Ao17 x5_1.length co17 : Value).ownBlock) (.slice Ao130 y216.length co130) y216) ∧ (Kd.R Kd.string 9 w' w.heap.size (fun k_ => some k_ ≠ (.slice Ao130 y216.length co130 : Value).ownBlock ∧ some k_ ≠ (.slice Ao17 x5_1.length co17 : Value).ownBlock) v227 y226) ∧ (Kd.R (Kd.int .i64) 3 w' w.heap.size (fun k_ => some k_ ≠ (s_.2.2 : Value).ownBlock ∧ some k_ ≠ (.slice Ao134 x6_1.length co134 : Value).ownBlock) s_.2.1 y236) ∧ (Kd.R (Kd.int .i64) 3 w' w.heap.size (fun k_ => some k_ ≠ (s_.2.1 : Value).ownBlock ∧ some k_ ≠ (.slice Ao134 x6_1.length co134 : Value).ownBlock) s_.2.2 y239) ∧ (Kd.R Kd.string 9 w' w.heap.size (fun k_ => some k_ ≠ (.slice Ao130 y216.length co130 : Value).ownBlock ∧ some k_ ≠ (v227 : Value).ownBlock) (.slice Ao17 x5_1.length co17) x5_1) ∧ (Kd.R (Kd.int .i64) 3 w' w.heap.size (fun k_ => some k_ ≠ (s_.2.1 : Value).ownBlock ∧ some k_ ≠ (s_.2.2 : Value).ownBlock) (.slice Ao134 x6_1.length co134) x6_1) ∧ (Below w.heap.size w w')) ?_ ?_
      rotate_left
      ·intro hCont
       refine two_ (i := 0) (j := 6) (Ni := some 95) (Nj := some 101) #[I,I,I,I,O,I,O,O,I,I,I,O,O] #[O,I,I,I,O,I,I,O,I,I,I,O,O] rfl rfl rfl rfl (two_of HT_.out (by kernel_rfl)) (by decide) (by decide) (fun K hK => ?_) (fun K hK => ?_)
       ·skip
        refine Kd.R_lit_step (Kd.int .i64) _ 3 ?hg (N := 95) ?hd (xs := ([] : List Int)) (inner := []) (ok := fun _ => True) (okp := fun _ => True) ?hr ?hp (fun _ hk => hk) trivial (Below.refl _ _) (Nat.le_refl _) (by simp) ?_; (case hd => rfl); (case hg => rfl); (case hr => first | (go_simp; done) | (go_simp; rfl)); (case hp => exact (Reps.none _ _))
        intro v230 w136 ho137 hb hg_ hnew_
        clear hg_ hnew_
        (first | rw [← Ny229.out] at ho137 | (simp only [Int.reduceToNat] at ho137; rw [← Ny229.out] at ho137))
        have n0_ := Ak (Kd.R_below (by exact RS <| HO_5.out) hb)
        have n1_ := Ak (Kd.R_elder' (by exact RS <| HO_6.out) (Kd.R_base ho137) hb)
        have n2_ := Ak (Kd.R_below (by exact RS <| HO218.out) hb)
        have n3_ := Ak (Kd.R_below (by exact RS <| HO228.out) hb)
        have n4_ := Ak (Kd.R_lower (Kd.R_new' ho137 (Kd.R_lt (by exact RS <| HO_6.out))) (below_size (by exact eS HB.out)))
        have n5_ := Ak (Kd.C_below (by exact Cs HR212.out) hb)
        have n6_ := Ak (Kd.C_below (by exact Cs HR225.out) hb)
        have n7_ := Ak (Kd.C_below (by exact Cs HR235.out) hb)
        have n8_ := Ak (Kd.C_below (by exact Cs HR248.out) hb)
        have n9_ := Ak (below_step (by exact eS HB.out) hb)
        clear HO_5 HO_6 HO218 HO228 HR212 HR225 HR235 HR248 HB; have HO_5 := n0_; have HO_6 := n1_; have HO218 := n2_; have HO228 := n3_; have HO231 := n4_; have HR212 := n5_; have HR225 := n6_; have HR235 := n7_; have HR248 := n8_; have HB := n9_; clear n0_ n1_ n2_ n3_ n4_ n5_ n6_ n7_ n8_ n9_ hb ho137
        refine hK.out _ _ trivial (fun hHeld => ?_); clear hK K
        refine norm_ (a' := ?_) ?_ ?_; rotate_left; (show Act.put _ (some 95) _ = _; simp only [Z]; rfl)
        refine two_ (i := 4) (j := 6) (Ni := some 99) (Nj := some 101) #[I,I,I,I,I,I,O,O,I,I,I,O,O] #[I,I,I,I,O,I,I,O,I,I,I,O,O] rfl rfl rfl rfl (two_of HT_.out (by kernel_rfl)) (by decide) (by decide) (fun K hK => ?_) (fun K hK => ?_)
        ·skip
         refine Kd.R_append_rows_step (Kd.int .i64) (w0 := w) w.heap.size (by rfl) (.tmp 95) (.tmp 98) 27 3 (.int .i64 0) 8 rfl Tryz.underlying27 info3 rfl (by decide) (by omega) v230 y229 y232 _ _ _ (fun k_ => some k_ ≠ (.slice Ao134 x6_1.length co134 : Value).ownBlock) (fun _ => False) rfl rfl ?aO ?aR (fun _ _ h => h) (fun _ h => h.elim) ?aF ?aB ?aS ?aL ?_
         (case aR => exact Cs HR235.out)
         (case aB => exact (by exact eS HB.out))
         (case aF => exact (fun k_ hk => Kd.fresh' (Kd.R_lt (by exact RS <| HO_6.out)) k_ hk))
         (case aO => exact (by exact RS <| Kd.R_mono HO231.out (fun _ hk => hk.2)))
         (case aS => exact (below_size (by exact eS HB.out)))
         (case aL => have := LMc115.out; omega)
         intro v237 w138 ho hb hg hat
         rw [← Ny236.out] at ho
         have n0_ := Ak (Kd.R_over' (by exact RS <| HO_5.out) (Kd.R_typed (by exact RS <| HO231.out)) (by decide) hg)
         have n1_ := Ak (Kd.R_after (ok := (fun _ => True)) (by exact RS <| HO_6.out) hg hat)
         have n2_ := Ak (Kd.R_over' (by exact RS <| HO218.out) (Kd.R_typed (by exact RS <| HO231.out)) (by decide) hg)
         have n3_ := Ak (Kd.R_over' (by exact RS <| HO228.out) (Kd.R_typed (by exact RS <| HO231.out)) (by decide) hg)
         have n4_ := Ak (hb)
         have n5_ := Ak ((Ct Kd.string Ny209.out (Kd.R_over' (by exact RS <| HO_5.out) (Kd.R_typed (by exact RS <| HO231.out)) (by decide) hg) KL121.out))
         have n6_ := Ak ((Cd Kd.string Ny222.out KA122.out (Kd.R_over' (by exact RS <| HO_5.out) (Kd.R_typed (by exact RS <| HO231.out)) (by decide) hg) KL122.out))
         have n7_ := Ak ((Ct (Kd.int .i64) Ny232.out (Kd.R_after (ok := (fun _ => True)) (by exact RS <| HO_6.out) hg hat) KL133.out))
         have n8_ := Ak ((Cd (Kd.int .i64) Ny245.out KA135.out (Kd.R_after (ok := (fun _ => True)) (by exact RS <| HO_6.out) hg hat) KL135.out))
         have n9_ := Ak (ho)
         clear HO_5 HO_6 HO218 HO228 HB HR212 HR225 HR235 HR248 HO231; have HO_5 := n0_; have HO_6 := n1_; have HO218 := n2_; have HO228 := n3_; have HB := n4_; have HR212 := n5_; have HR225 := n6_; have HR235 := n7_; have HR248 := n8_; have HO238 := n9_; clear n0_ n1_ n2_ n3_ n4_ n5_ n6_ n7_ n8_ n9_ ho hb hg hat
         refine hK.out _ _ trivial (fun hHeld => ?_); clear hK K
         refine norm_ (a' := ?_) ?_ ?_; rotate_left; (show Act.put _ (some 99) _ = _; simp only [Z]; rfl)
         refine one_ (i := 6) (N := some 101) #[I,I,I,I,I,I,I,O,I,I,I,O,O] rfl rfl (one_of HT_.out (by kernel_rfl)) (by decide) (fun K hK => ?_)
         refine Kd.R_lit_step (Kd.int .i64) _ 3 ?hg (N := 101) ?hd (xs := ([t110] : List Int)) (inner := [.int .i64 t110]) (ok := fun _ => True) (okp := fun _ => True) ?hr ?hp (fun _ hk => hk) trivial (Below.refl _ _) (Nat.le_refl _) (by simp) ?_; (case hd => rfl); (case hg => rfl); (case hr => first | (go_simp; done) | (go_simp; rfl)); (case hp => exact (Reps.one (show Kd.M (Kd.int .i64) _ _ _ t110 [.int .i64 t110] from rfl) (Reps.none _ _)))
         intro v240 w139 ho140 hb hg_ hnew_
         clear hg_ hnew_
         (first | rw [← Ny239.out] at ho140 | (simp only [Int.reduceToNat] at ho140; rw [← Ny239.out] at ho140))
         have n0_ := Ak (Kd.R_below (by exact RS <| HO_5.out) hb)
         have n1_ := Ak (Kd.R_elder' (by exact RS <| HO_6.out) (Kd.R_base ho140) hb)
         have n2_ := Ak (Kd.R_below (by exact RS <| HO218.out) hb)
         have n3_ := Ak (Kd.R_below (by exact RS <| HO228.out) hb)
         have n4_ := Ak (Kd.R_elder' (by exact RS <| HO238.out) (Kd.R_base ho140) hb)
         have n5_ := Ak (Kd.R_lower (Kd.R_new' (Kd.R_new' ho140 (Kd.R_lt (by exact RS <| HO_6.out))) (Kd.R_lt (by exact RS <| HO238.out))) (below_size (by exact eS HB.out)))
         have n6_ := Ak (Kd.C_below (by exact Cs HR212.out) hb)
         have n7_ := Ak (Kd.C_below (by exact Cs HR225.out) hb)
         have n8_ := Ak (Kd.C_below (by exact Cs HR235.out) hb)
         have n9_ := Ak (Kd.C_below (by exact Cs HR248.out) hb)
         have n10_ := Ak (below_step (by exact eS HB.out) hb)
         clear HO_5 HO_6 HO218 HO228 HO238 HR212 HR225 HR235 HR248 HB; have HO_5 := n0_; have HO_6 := n1_; have HO218 := n2_; have HO228 := n3_; have HO238 := n4_; have HO241 := n5_; have HR212 := n6_; have HR225 := n7_; have HR235 := n8_; have HR248 := n9_; have HB := n10_; clear n0_ n1_ n2_ n3_ n4_ n5_ n6_ n7_ n8_ n9_ n10_ hb ho140
         refine hK.out _ _ trivial (fun hHeld => ?_); clear hK K
         refine norm_ (a' := ?_) ?_ ?_; rotate_left; (show Act.put _ (some 101) _ = _; simp only [Z]; rfl)
         exact norm_ (by simp only [putAll, Act.put, List.setIfInBounds_toArray, List.set_cons_zero, List.set_cons_succ]) (hCont (v230, v237, v240) _ ⟨(by exact RS <| Kd.R_mono HO218.out (fun _ hk => ⟨hk.2, hk.1⟩)), (by exact RS <| Kd.R_mono HO228.out (fun _ hk => ⟨hk.2, hk.1⟩)), (by exact RS <| Kd.R_mono HO238.out (fun _ hk => ⟨hk.2, hk.1⟩)), (by exact RS <| Kd.R_mono HO241.out (fun _ hk => ⟨hk.2, hk.1.2⟩)), (by exact RS <| HO_5.out), (by exact RS <| Kd.R_mono HO_6.out (fun _ hk => ⟨hk.1.2, hk.2⟩)), (by exact eS HB.out)⟩)
        ·skip
         refine Kd.R_lit_step (Kd.int .i64) _ 3 ?hg (N := 101) ?hd (xs := ([t110] : List Int)) (inner := [.int .i64 t110]) (ok := fun _ => True) (okp := fun _ => True) ?hr ?hp (fun _ hk => hk) trivial (Below.refl _ _) (Nat.le_refl _) (by simp) ?_; (case hd => rfl); (case hg => rfl); (case hr => first | (go_simp; done) | (go_simp; rfl)); (case hp => exact (Reps.one (show Kd.M (Kd.int .i64) _ _ _ t110 [.int .i64 t110] from rfl) (Reps.none _ _)))
         intro v240 w138 ho139 hb hg_ hnew_
         clear hg_ hnew_
         (first | rw [← Ny239.out] at ho139 | (simp only [Int.reduceToNat] at ho139; rw [← Ny239.out] at ho139))
         have n0_ := Ak (Kd.R_below (by exact RS <| HO_5.out) hb)
         have n1_ := Ak (Kd.R_elder' (by exact RS <| HO_6.out) (Kd.R_base ho139) hb)
         have n2_ := Ak (Kd.R_below (by exact RS <| HO218.out) hb)
         have n3_ := Ak (Kd.R_below (by exact RS <| HO228.out) hb)
         have n4_ := Ak (Kd.R_elder' (by exact RS <| HO231.out) (Kd.R_base ho139) hb)
         have n5_ := Ak (Kd.R_lower (Kd.R_new' (Kd.R_new' ho139 (Kd.R_lt (by exact RS <| HO_6.out))) (Kd.R_lt (by exact RS <| HO231.out))) (below_size (by exact eS HB.out)))
         have n6_ := Ak (Kd.C_below (by exact Cs HR212.out) hb)
         have n7_ := Ak (Kd.C_below (by exact Cs HR225.out) hb)
         have n8_ := Ak (Kd.C_below (by exact Cs HR235.out) hb)
         have n9_ := Ak (Kd.C_below (by exact Cs HR248.out) hb)
         have n10_ := Ak (below_step (by exact eS HB.out) hb)
         clear HO_5 HO_6 HO218 HO228 HO231 HR212 HR225 HR235 HR248 HB; have HO_5 := n0_; have HO_6 := n1_; have HO218 := n2_; have HO228 := n3_; have HO231 := n4_; have HO241 := n5_; have HR212 := n6_; have HR225 := n7_; have HR235 := n8_; have HR248 := n9_; have HB := n10_; clear n0_ n1_ n2_ n3_ n4_ n5_ n6_ n7_ n8_ n9_ n10_ hb ho139
         refine hK.out _ _ trivial (fun hHeld => ?_); clear hK K
         refine norm_ (a' := ?_) ?_ ?_; rotate_left; (show Act.put _ (some 101) _ = _; simp only [Z]; rfl)
         refine one_ (i := 4) (N := some 99) #[I,I,I,I,I,I,I,O,I,I,I,O,O] rfl rfl (one_of HT_.out (by kernel_rfl)) (by decide) (fun K hK => ?_)
         refine Kd.R_append_rows_step (Kd.int .i64) (w0 := w) w.heap.size (by rfl) (.tmp 95) (.tmp 98) 27 3 (.int .i64 0) 8 rfl Tryz.underlying27 info3 rfl (by decide) (by omega) v230 y229 y232 _ _ _ (fun k_ => some k_ ≠ (.slice Ao134 x6_1.length co134 : Value).ownBlock ∧ some k_ ≠ (v240 : Value).ownBlock) (fun _ => False) rfl rfl ?aO ?aR (fun _ _ h => h) (fun _ h => h.elim) ?aF ?aB ?aS ?aL ?_
         (case aR => exact Cs HR235.out)
         (case aB => exact (by exact eS HB.out))
         (case aF => exact (fun k_ hk => ⟨Kd.fresh' (Kd.R_lt (by exact RS <| HO_6.out)) k_ hk, Kd.fresh' (Kd.R_lt (by exact RS <| HO241.out)) k_ hk⟩))
         (case aO => exact (by exact RS <| Kd.R_mono HO231.out (fun _ hk => ⟨hk.1.2, hk.2⟩)))
         (case aS => exact (below_size (by exact eS HB.out)))
         (case aL => have := LMc115.out; omega)
         intro v237 w140 ho hb hg hat
         rw [← Ny236.out] at ho
         have n0_ := Ak (Kd.R_over' (by exact RS <| HO_5.out) (Kd.R_typed (by exact RS <| HO231.out)) (by decide) hg)
         have n1_ := Ak (Kd.R_after (ok := (fun k_ => some k_ ≠ (v240 : Value).ownBlock)) (by exact RS <| Kd.R_mono HO_6.out (fun _ hk => ⟨hk.2, hk.1.2⟩)) hg hat)
         have n2_ := Ak (Kd.R_over' (by exact RS <| HO218.out) (Kd.R_typed (by exact RS <| HO231.out)) (by decide) hg)
         have n3_ := Ak (Kd.R_over' (by exact RS <| HO228.out) (Kd.R_typed (by exact RS <| HO231.out)) (by decide) hg)
         have n4_ := Ak (Kd.R_after (ok := (fun k_ => some k_ ≠ (.slice Ao134 x6_1.length co134 : Value).ownBlock)) (by exact RS <| Kd.R_mono HO241.out (fun _ hk => ⟨hk.1.2, hk.2⟩)) hg hat)
         have n5_ := Ak (hb)
         have n6_ := Ak ((Ct Kd.string Ny209.out (Kd.R_over' (by exact RS <| HO_5.out) (Kd.R_typed (by exact RS <| HO231.out)) (by decide) hg) KL121.out))
         have n7_ := Ak ((Cd Kd.string Ny222.out KA122.out (Kd.R_over' (by exact RS <| HO_5.out) (Kd.R_typed (by exact RS <| HO231.out)) (by decide) hg) KL122.out))
         have n8_ := Ak ((Ct (Kd.int .i64) Ny232.out (Kd.R_after (ok := (fun k_ => some k_ ≠ (v240 : Value).ownBlock)) (by exact RS <| Kd.R_mono HO_6.out (fun _ hk => ⟨hk.2, hk.1.2⟩)) hg hat) KL133.out))
         have n9_ := Ak ((Cd (Kd.int .i64) Ny245.out KA135.out (Kd.R_after (ok := (fun k_ => some k_ ≠ (v240 : Value).ownBlock)) (by exact RS <| Kd.R_mono HO_6.out (fun _ hk => ⟨hk.2, hk.1.2⟩)) hg hat) KL135.out))
         have n10_ := Ak (ho)
         clear HO_5 HO_6 HO218 HO228 HO241 HB HR212 HR225 HR235 HR248 HO231; have HO_5 := n0_; have HO_6 := n1_; have HO218 := n2_; have HO228 := n3_; have HO241 := n4_; have HB := n5_; have HR212 := n6_; have HR225 := n7_; have HR235 := n8_; have HR248 := n9_; have HO238 := n10_; clear n0_ n1_ n2_ n3_ n4_ n5_ n6_ n7_ n8_ n9_ n10_ ho hb hg hat
         refine hK.out _ _ trivial (fun hHeld => ?_); clear hK K
         refine norm_ (a' := ?_) ?_ ?_; rotate_left; (show Act.put _ (some 99) _ = _; simp only [Z]; rfl)
         exact norm_ (by simp only [putAll, Act.put, List.setIfInBounds_toArray, List.set_cons_zero, List.set_cons_succ]) (hCont (v230, v237, v240) _ ⟨(by exact RS <| Kd.R_mono HO218.out (fun _ hk => ⟨hk.2, hk.1⟩)), (by exact RS <| Kd.R_mono HO228.out (fun _ hk => ⟨hk.2, hk.1⟩)), (by exact RS <| Kd.R_mono HO238.out (fun _ hk => ⟨hk.2, hk.1⟩)), (by exact RS <| Kd.R_mono HO241.out (fun _ hk => ⟨hk.2, hk.1⟩)), (by exact RS <| HO_5.out), (by exact RS <| Kd.R_mono HO_6.out (fun _ hk => ⟨hk.2, hk.1⟩)), (by exact eS HB.out)⟩)
       ·skip
        refine Kd.R_lit_step (Kd.int .i64) _ 3 ?hg (N := 101) ?hd (xs := ([t110] : List Int)) (inner := [.int .i64 t110]) (ok := fun _ => True) (okp := fun _ => True) ?hr ?hp (fun _ hk => hk) trivial (Below.refl _ _) (Nat.le_refl _) (by simp) ?_; (case hd => rfl); (case hg => rfl); (case hr => first | (go_simp; done) | (go_simp; rfl)); (case hp => exact (Reps.one (show Kd.M (Kd.int .i64) _ _ _ t110 [.int .i64 t110] from rfl) (Reps.none _ _)))
        intro v240 w136 ho137 hb hg_ hnew_
        clear hg_ hnew_
        (first | rw [← Ny239.out] at ho137 | (simp only [Int.reduceToNat] at ho137; rw [← Ny239.out] at ho137))
        have n0_ := Ak (Kd.R_below (by exact RS <| HO_5.out) hb)
        have n1_ := Ak (Kd.R_elder' (by exact RS <| HO_6.out) (Kd.R_base ho137) hb)
        have n2_ := Ak (Kd.R_below (by exact RS <| HO218.out) hb)
        have n3_ := Ak (Kd.R_below (by exact RS <| HO228.out) hb)
        have n4_ := Ak (Kd.R_lower (Kd.R_new' ho137 (Kd.R_lt (by exact RS <| HO_6.out))) (below_size (by exact eS HB.out)))
        have n5_ := Ak (Kd.C_below (by exact Cs HR212.out) hb)
        have n6_ := Ak (Kd.C_below (by exact Cs HR225.out) hb)
        have n7_ := Ak (Kd.C_below (by exact Cs HR235.out) hb)
        have n8_ := Ak (Kd.C_below (by exact Cs HR248.out) hb)
        have n9_ := Ak (below_step (by exact eS HB.out) hb)
        clear HO_5 HO_6 HO218 HO228 HR212 HR225 HR235 HR248 HB; have HO_5 := n0_; have HO_6 := n1_; have HO218 := n2_; have HO228 := n3_; have HO241 := n4_; have HR212 := n5_; have HR225 := n6_; have HR235 := n7_; have HR248 := n8_; have HB := n9_; clear n0_ n1_ n2_ n3_ n4_ n5_ n6_ n7_ n8_ n9_ hb ho137
        refine hK.out _ _ trivial (fun hHeld => ?_); clear hK K
        refine norm_ (a' := ?_) ?_ ?_; rotate_left; (show Act.put _ (some 101) _ = _; simp only [Z]; rfl)
        refine one_ (i := 0) (N := some 95) #[I,I,I,I,O,I,I,O,I,I,I,O,O] rfl rfl (one_of HT_.out (by kernel_rfl)) (by decide) (fun K hK => ?_)
        refine Kd.R_lit_step (Kd.int .i64) _ 3 ?hg (N := 95) ?hd (xs := ([] : List Int)) (inner := []) (ok := fun _ => True) (okp := fun _ => True) ?hr ?hp (fun _ hk => hk) trivial (Below.refl _ _) (Nat.le_refl _) (by simp) ?_; (case hd => rfl); (case hg => rfl); (case hr => first | (go_simp; done) | (go_simp; rfl)); (case hp => exact (Reps.none _ _))
        intro v230 w138 ho139 hb hg_ hnew_
        clear hg_ hnew_
        (first | rw [← Ny229.out] at ho139 | (simp only [Int.reduceToNat] at ho139; rw [← Ny229.out] at ho139))
        have n0_ := Ak (Kd.R_below (by exact RS <| HO_5.out) hb)
        have n1_ := Ak (Kd.R_elder' (by exact RS <| HO_6.out) (Kd.R_base ho139) hb)
        have n2_ := Ak (Kd.R_below (by exact RS <| HO218.out) hb)
        have n3_ := Ak (Kd.R_below (by exact RS <| HO228.out) hb)
        have n4_ := Ak (Kd.R_elder' (by exact RS <| HO241.out) (Kd.R_base ho139) hb)
        have n5_ := Ak (Kd.R_lower (Kd.R_new' (Kd.R_new' ho139 (Kd.R_lt (by exact RS <| HO_6.out))) (Kd.R_lt (by exact RS <| HO241.out))) (below_size (by exact eS HB.out)))
        have n6_ := Ak (Kd.C_below (by exact Cs HR212.out) hb)
        have n7_ := Ak (Kd.C_below (by exact Cs HR225.out) hb)
        have n8_ := Ak (Kd.C_below (by exact Cs HR235.out) hb)
        have n9_ := Ak (Kd.C_below (by exact Cs HR248.out) hb)
        have n10_ := Ak (below_step (by exact eS HB.out) hb)
        clear HO_5 HO_6 HO218 HO228 HO241 HR212 HR225 HR235 HR248 HB; have HO_5 := n0_; have HO_6 := n1_; have HO218 := n2_; have HO228 := n3_; have HO241 := n4_; have HO231 := n5_; have HR212 := n6_; have HR225 := n7_; have HR235 := n8_; have HR248 := n9_; have HB := n10_; clear n0_ n1_ n2_ n3_ n4_ n5_ n6_ n7_ n8_ n9_ n10_ hb ho139
        refine hK.out _ _ trivial (fun hHeld => ?_); clear hK K
        refine norm_ (a' := ?_) ?_ ?_; rotate_left; (show Act.put _ (some 95) _ = _; simp only [Z]; rfl)
        refine one_ (i := 4) (N := some 99) #[I,I,I,I,I,I,I,O,I,I,I,O,O] rfl rfl (one_of HT_.out (by kernel_rfl)) (by decide) (fun K hK => ?_)
        refine Kd.R_append_rows_step (Kd.int .i64) (w0 := w) w.heap.size (by rfl) (.tmp 95) (.tmp 98) 27 3 (.int .i64 0) 8 rfl Tryz.underlying27 info3 rfl (by decide) (by omega) v230 y229 y232 _ _ _ (fun k_ => some k_ ≠ (.slice Ao134 x6_1.length co134 : Value).ownBlock ∧ some k_ ≠ (v240 : Value).ownBlock) (fun _ => False) rfl rfl ?aO ?aR (fun _ _ h => h) (fun _ h => h.elim) ?aF ?aB ?aS ?aL ?_
        (case aR => exact Cs HR235.out)
        (case aB => exact (by exact eS HB.out))
        (case aF => exact (fun k_ hk => ⟨Kd.fresh' (Kd.R_lt (by exact RS <| HO_6.out)) k_ hk, Kd.fresh' (Kd.R_lt (by exact RS <| HO241.out)) k_ hk⟩))
        (case aO => exact (by exact RS <| Kd.R_mono HO231.out (fun _ hk => ⟨hk.1.2, hk.2⟩)))
        (case aS => exact (below_size (by exact eS HB.out)))
        (case aL => have := LMc115.out; omega)
        intro v237 w140 ho hb hg hat
        rw [← Ny236.out] at ho
        have n0_ := Ak (Kd.R_over' (by exact RS <| HO_5.out) (Kd.R_typed (by exact RS <| HO231.out)) (by decide) hg)
        have n1_ := Ak (Kd.R_after (ok := (fun k_ => some k_ ≠ (v240 : Value).ownBlock)) (by exact RS <| Kd.R_mono HO_6.out (fun _ hk => ⟨hk.1.2, hk.2⟩)) hg hat)
        have n2_ := Ak (Kd.R_over' (by exact RS <| HO218.out) (Kd.R_typed (by exact RS <| HO231.out)) (by decide) hg)
        have n3_ := Ak (Kd.R_over' (by exact RS <| HO228.out) (Kd.R_typed (by exact RS <| HO231.out)) (by decide) hg)
        have n4_ := Ak (Kd.R_after (ok := (fun k_ => some k_ ≠ (.slice Ao134 x6_1.length co134 : Value).ownBlock)) (by exact RS <| Kd.R_mono HO241.out (fun _ hk => ⟨hk.1.2, hk.2⟩)) hg hat)
        have n5_ := Ak (hb)
        have n6_ := Ak ((Ct Kd.string Ny209.out (Kd.R_over' (by exact RS <| HO_5.out) (Kd.R_typed (by exact RS <| HO231.out)) (by decide) hg) KL121.out))
        have n7_ := Ak ((Cd Kd.string Ny222.out KA122.out (Kd.R_over' (by exact RS <| HO_5.out) (Kd.R_typed (by exact RS <| HO231.out)) (by decide) hg) KL122.out))
        have n8_ := Ak ((Ct (Kd.int .i64) Ny232.out (Kd.R_after (ok := (fun k_ => some k_ ≠ (v240 : Value).ownBlock)) (by exact RS <| Kd.R_mono HO_6.out (fun _ hk => ⟨hk.1.2, hk.2⟩)) hg hat) KL133.out))
        have n9_ := Ak ((Cd (Kd.int .i64) Ny245.out KA135.out (Kd.R_after (ok := (fun k_ => some k_ ≠ (v240 : Value).ownBlock)) (by exact RS <| Kd.R_mono HO_6.out (fun _ hk => ⟨hk.1.2, hk.2⟩)) hg hat) KL135.out))
        have n10_ := Ak (ho)
        clear HO_5 HO_6 HO218 HO228 HO241 HB HR212 HR225 HR235 HR248 HO231; have HO_5 := n0_; have HO_6 := n1_; have HO218 := n2_; have HO228 := n3_; have HO241 := n4_; have HB := n5_; have HR212 := n6_; have HR225 := n7_; have HR235 := n8_; have HR248 := n9_; have HO238 := n10_; clear n0_ n1_ n2_ n3_ n4_ n5_ n6_ n7_ n8_ n9_ n10_ ho hb hg hat
        refine hK.out _ _ trivial (fun hHeld => ?_); clear hK K
        refine norm_ (a' := ?_) ?_ ?_; rotate_left; (show Act.put _ (some 99) _ = _; simp only [Z]; rfl)
        exact norm_ (by simp only [putAll, Act.put, List.setIfInBounds_toArray, List.set_cons_zero, List.set_cons_succ]) (hCont (v230, v237, v240) _ ⟨(by exact RS <| Kd.R_mono HO218.out (fun _ hk => ⟨hk.2, hk.1⟩)), (by exact RS <| Kd.R_mono HO228.out (fun _ hk => ⟨hk.2, hk.1⟩)), (by exact RS <| Kd.R_mono HO238.out (fun _ hk => ⟨hk.2, hk.1⟩)), (by exact RS <| Kd.R_mono HO241.out (fun _ hk => ⟨hk.2, hk.1⟩)), (by exact RS <| HO_5.out), (by exact RS <| Kd.R_mono HO_6.out (fun _ hk => ⟨hk.2, hk.1⟩)), (by exact eS HB.out)⟩)
      rintro ⟨v230, v237, v240⟩ w141 ⟨h0_, h1_, h2_, h3_, h4_, h5_, h6_⟩
      have n0_ : Aside0 (Kd.R Kd.string 9 w141 w.heap.size (fun k_ => some k_ ≠ (v227 : Value).ownBlock ∧ some k_ ≠ (.slice Ao17 x5_1.length co17 : Value).ownBlock) (.slice Ao130 y216.length co130) y216) := ⟨h0_⟩
      have n1_ : Aside0 (Kd.R Kd.string 9 w141 w.heap.size (fun k_ => some k_ ≠ (.slice Ao130 y216.length co130 : Value).ownBlock ∧ some k_ ≠ (.slice Ao17 x5_1.length co17 : Value).ownBlock) v227 y226) := ⟨h1_⟩
      have n2_ : Aside0 (Kd.R (Kd.int .i64) 3 w141 w.heap.size (fun k_ => some k_ ≠ (v240 : Value).ownBlock ∧ some k_ ≠ (.slice Ao134 x6_1.length co134 : Value).ownBlock) v237 y236) := ⟨h2_⟩
      have n3_ : Aside0 (Kd.R (Kd.int .i64) 3 w141 w.heap.size (fun k_ => some k_ ≠ (v237 : Value).ownBlock ∧ some k_ ≠ (.slice Ao134 x6_1.length co134 : Value).ownBlock) v240 y239) := ⟨h3_⟩
      have n4_ : Aside0 (Kd.R Kd.string 9 w141 w.heap.size (fun k_ => some k_ ≠ (.slice Ao130 y216.length co130 : Value).ownBlock ∧ some k_ ≠ (v227 : Value).ownBlock) (.slice Ao17 x5_1.length co17) x5_1) := ⟨h4_⟩
      have n5_ : Aside0 (Kd.R (Kd.int .i64) 3 w141 w.heap.size (fun k_ => some k_ ≠ (v237 : Value).ownBlock ∧ some k_ ≠ (v240 : Value).ownBlock) (.slice Ao134 x6_1.length co134) x6_1) := ⟨h5_⟩
      have n6_ : Aside0 (Below w.heap.size w w141) := ⟨h6_⟩
      clear HO_5 HO_6 HO218 HO228 HR212 HR225 HB h0_ h1_ h2_ h3_ h4_ h5_ h6_; have HO218 := n0_; have HO228 := n1_; have HO238 := n2_; have HO241 := n3_; have HO_5 := n4_; have HO_6 := n5_; have HB := n6_; clear n0_ n1_ n2_ n3_ n4_ n5_ n6_
      have hHeld := trivial
      have HR212 := Ak (Ct Kd.string Ny209.out (HO_5.out) KL121.out)
      have HR225 := Ak (Cd Kd.string Ny222.out KA122.out (HO_5.out) KL122.out)
      have HR235 := Ak (Ct (Kd.int .i64) Ny232.out (HO_6.out) KL133.out)
      have HR248 := Ak (Cd (Kd.int .i64) Ny245.out KA135.out (HO_6.out) KL135.out)
      obtain ⟨Ao143, co143, eo143⟩ := Kd.R_slice HO241.out
      (first | subst eo143 | (injection eo143 with f1_ f2_ f3_; have f4_ := f1_.symm; have f5_ := f3_.symm; clear f1_ f2_ f3_; subst f4_; subst f5_))
      refine norm_ (a' := ?_) ?_ ?_
      rotate_left
      ·simp only [putAll, Act.put, List.setIfInBounds_toArray, List.set_cons_zero, List.set_cons_succ]
       rfl
      refine one_ (i := 7) (N := some 102) #[I,I,I,I,I,I,I,I,I,I,I,O,O] rfl rfl (one_of HT_.out (by kernel_rfl)) (by decide) (fun K hK => ?_)
      refine Kd.R_append_rows_step (Kd.int .i64) (w0 := w) w.heap.size (by rfl) (.tmp 99) (.tmp 101) 27 3 (.int .i64 0) 8 rfl Tryz.underlying27 info3 rfl (by decide) (by omega) v237 y236 y239 _ _ _ (fun k_ => some k_ ≠ (.slice Ao134 x6_1.length co134 : Value).ownBlock ∧ some k_ ≠ (.slice Ao143 y239.length co143 : Value).ownBlock) (fun _ => False) rfl rfl ?aO ?aR (fun _ _ h => h) (fun _ h => h.elim) ?aF ?aB ?aS ?aL ?_
      (case aR => repeat (first | exact (Kd.R_reads' HO241.out).2.2 | (with_reducible refine Kd.C_alloc ?_ _) | (with_reducible refine Kd.C_drewN ?_ _) | (with_reducible refine Kd.C_drew ?_)))
      (case aB => exact (by exact eS HB.out))
      (case aF => exact (fun k_ hk => ⟨Kd.fresh' (Kd.R_lt (by exact RS <| HO_6.out)) k_ hk, Kd.fresh' (Kd.R_lt (by exact RS <| HO241.out)) k_ hk⟩))
      (case aO => exact (by exact RS <| Kd.R_mono HO238.out (fun _ hk => ⟨hk.2, hk.1⟩)))
      (case aS => exact (below_size (by exact eS HB.out)))
      (case aL => have := LMc116.out; omega)
      intro v243 w142 ho hb hg hat
      rw [← Ny242.out] at ho
      have n0_ := Ak (Kd.R_over' (by exact RS <| HO_5.out) (Kd.R_typed (by exact RS <| HO238.out)) (by decide) hg)
      have n1_ := Ak (Kd.R_after (ok := (fun k_ => some k_ ≠ (.slice Ao143 y239.length co143 : Value).ownBlock)) (by exact RS <| Kd.R_mono HO_6.out (fun _ hk => ⟨hk.2, hk.1⟩)) hg hat)
      have n2_ := Ak (Kd.R_over' (by exact RS <| HO218.out) (Kd.R_typed (by exact RS <| HO238.out)) (by decide) hg)
      have n3_ := Ak (Kd.R_over' (by exact RS <| HO228.out) (Kd.R_typed (by exact RS <| HO238.out)) (by decide) hg)
      have n4_ := Ak (Kd.R_after (ok := (fun k_ => some k_ ≠ (.slice Ao134 x6_1.length co134 : Value).ownBlock)) (by exact RS <| Kd.R_mono HO241.out (fun _ hk => ⟨hk.2, hk.1⟩)) hg hat)
      have n5_ := Ak (hb)
      have n6_ := Ak ((Ct Kd.string Ny209.out (Kd.R_over' (by exact RS <| HO_5.out) (Kd.R_typed (by exact RS <| HO238.out)) (by decide) hg) KL121.out))
      have n7_ := Ak ((Cd Kd.string Ny222.out KA122.out (Kd.R_over' (by exact RS <| HO_5.out) (Kd.R_typed (by exact RS <| HO238.out)) (by decide) hg) KL122.out))
      have n8_ := Ak ((Ct (Kd.int .i64) Ny232.out (Kd.R_after (ok := (fun k_ => some k_ ≠ (.slice Ao143 y239.length co143 : Value).ownBlock)) (by exact RS <| Kd.R_mono HO_6.out (fun _ hk => ⟨hk.2, hk.1⟩)) hg hat) KL133.out))
      have n9_ := Ak ((Cd (Kd.int .i64) Ny245.out KA135.out (Kd.R_after (ok := (fun k_ => some k_ ≠ (.slice Ao143 y239.length co143 : Value).ownBlock)) (by exact RS <| Kd.R_mono HO_6.out (fun _ hk => ⟨hk.2, hk.1⟩)) hg hat) KL135.out))
      have n10_ := Ak (ho)
      clear HO_5 HO_6 HO218 HO228 HO241 HB HR212 HR225 HR235 HR248 HO238; have HO_5 := n0_; have HO_6 := n1_; have HO218 := n2_; have HO228 := n3_; have HO241 := n4_; have HB := n5_; have HR212 := n6_; have HR225 := n7_; have HR235 := n8_; have HR248 := n9_; have HO244 := n10_; clear n0_ n1_ n2_ n3_ n4_ n5_ n6_ n7_ n8_ n9_ n10_ ho hb hg hat
      refine hK.out _ _ trivial (fun hHeld => ?_); clear hK K
      refine norm_ (a' := ?_) ?_ ?_; rotate_left; (show Act.put _ (some 102) _ = _; simp only [Z]; rfl)
      refine one_ (i := 11) (N := some 106) #[I,I,I,I,I,I,I,I,I,I,I,I,O] rfl rfl (one_of HT_.out (by kernel_rfl)) (by decide) (fun K hK => ?_)
      refine Kd.R_append_rows_step (Kd.int .i64) (w0 := w) w.heap.size (by rfl) (.tmp 102) (.tmp 105) 27 3 (.int .i64 0) 8 rfl Tryz.underlying27 info3 rfl (by decide) (by omega) v243 y242 y245 _ _ _ (fun k_ => some k_ ≠ (.slice Ao134 x6_1.length co134 : Value).ownBlock ∧ some k_ ≠ (.slice Ao143 y239.length co143 : Value).ownBlock) (fun _ => False) rfl rfl ?aO ?aR (fun _ _ h => h) (fun _ h => h.elim) ?aF ?aB ?aS ?aL ?_
      (case aR => exact Cs HR248.out)
      (case aB => exact (by exact eS HB.out))
      (case aF => exact (fun k_ hk => ⟨Kd.fresh' (Kd.R_lt (by exact RS <| HO_6.out)) k_ hk, Kd.fresh' (Kd.R_lt (by exact RS <| HO241.out)) k_ hk⟩))
      (case aO => exact (by exact RS <| HO244.out))
      (case aS => exact (below_size (by exact eS HB.out)))
      (case aL => have := LMc119.out; omega)
      intro v250 w144 ho hb hg hat
      rw [← Ny249.out] at ho
      have n0_ := Ak (Kd.R_over' (by exact RS <| HO_5.out) (Kd.R_typed (by exact RS <| HO244.out)) (by decide) hg)
      have n1_ := Ak (Kd.R_after (ok := (fun k_ => some k_ ≠ (.slice Ao143 y239.length co143 : Value).ownBlock)) (by exact RS <| HO_6.out) hg hat)
      have n2_ := Ak (Kd.R_over' (by exact RS <| HO218.out) (Kd.R_typed (by exact RS <| HO244.out)) (by decide) hg)
      have n3_ := Ak (Kd.R_over' (by exact RS <| HO228.out) (Kd.R_typed (by exact RS <| HO244.out)) (by decide) hg)
      have n4_ := Ak (Kd.R_after (ok := (fun k_ => some k_ ≠ (.slice Ao134 x6_1.length co134 : Value).ownBlock)) (by exact RS <| HO241.out) hg hat)
      have n5_ := Ak (hb)
      have n6_ := Ak ((Ct Kd.string Ny209.out (Kd.R_over' (by exact RS <| HO_5.out) (Kd.R_typed (by exact RS <| HO244.out)) (by decide) hg) KL121.out))
      have n7_ := Ak ((Cd Kd.string Ny222.out KA122.out (Kd.R_over' (by exact RS <| HO_5.out) (Kd.R_typed (by exact RS <| HO244.out)) (by decide) hg) KL122.out))
      have n8_ := Ak ((Ct (Kd.int .i64) Ny232.out (Kd.R_after (ok := (fun k_ => some k_ ≠ (.slice Ao143 y239.length co143 : Value).ownBlock)) (by exact RS <| HO_6.out) hg hat) KL133.out))
      have n9_ := Ak ((Cd (Kd.int .i64) Ny245.out KA135.out (Kd.R_after (ok := (fun k_ => some k_ ≠ (.slice Ao143 y239.length co143 : Value).ownBlock)) (by exact RS <| HO_6.out) hg hat) KL135.out))
      have n10_ := Ak (ho)
      clear HO_5 HO_6 HO218 HO228 HO241 HB HR212 HR225 HR235 HR248 HO244; have HO_5 := n0_; have HO_6 := n1_; have HO218 := n2_; have HO228 := n3_; have HO241 := n4_; have HB := n5_; have HR212 := n6_; have HR225 := n7_; have HR235 := n8_; have HR248 := n9_; have HO251 := n10_; clear n0_ n1_ n2_ n3_ n4_ n5_ n6_ n7_ n8_ n9_ n10_ ho hb hg hat
      refine hK.out _ _ trivial (fun hHeld => ?_); clear hK K
      refine norm_ (a' := ?_) ?_ ?_; rotate_left; (show Act.put _ (some 106) _ = _; simp only [Z]; rfl)
      refine pure_ (i := 12) (N := some 6) (v := ?_) (a' := ?_) #[I,I,I,I,I,I,I,I,I,I,I,I,I] rfl rfl (any_of HT_.out (by kernel_rfl)) (fun _ _ _ h => h) (Or.inl ⟨by rfl, ?_⟩) ?_ ?_
      rotate_left; (intro w'; go_simp; with_reducible rfl); rotate_left; (simp only [Z]; rfl)
      refine done_ (done_of HT_.out (by kernel_rfl)) ?_
      try go_wp2
      go_roundg kq
      case measure => have := HK1.out; have := HK2.out; have := HK3.out; omega
      case rel => exact ⟨(y226), (y249), (wrap64 (x7_1 + 1)), (by first | rfl | (simp; done) | (simp [*]; done)), H', ⟨by have := HK1.out; have := HK2.out; have := HK3.out; omega⟩, ⟨by exact RS <| Kd.R_mono HO228.out (fun _ hk => trivial)⟩, ⟨by exact RS <| Kd.R_mono HO251.out (fun _ hk => trivial)⟩, ⟨by exact eS HB.out⟩⟩
/-- A state of type 67 at block g of W; what its slices lead to came in by w0. -/
def IsS67 (w0 W : World) (g : Nat) (f0 : List Int) (f1 : Int) (f2 : Int) : Prop := ∃ A0 c0, W.heap[g]? = some (.cells #[.slice A0 f0.length c0, .int .i64 f1, .int .u64 f2] 67 (0, 0)) ∧ w0.heap.size ≤ g ∧ Kd.C (Kd.int .u8) w0 A0 f0.length f0
theorem IsS67.grown {w0 W : World} {g : Nat} {f0 : List Int} {f1 : Int} {f2 : Int} {W1 : World} {row : Option Nat} (h : IsS67 w0 W g f0 f1 f2) (hw : W.grownBy W1 row) (hne : some g ≠ row) : IsS67 w0 W1 g f0 f1 f2 := by
  obtain ⟨A0, c0, hb, hg, hr0⟩ := h
  exact ⟨A0, c0, blk_grown hb hw hne, hg, hr0⟩
theorem IsS67.own_neN {w0 W : World} {g : Nat} {f0 : List Int} {f1 : Int} {f2 : Int} {α : Type} {d : Kd α} {e : Nat} {base : Nat} {ok : Nat → Prop} {v : Value} {xs : List α} (h : IsS67 w0 W g f0 f1 f2) (ho : Kd.N d e W base ok v xs) (ht : e ≠ 67) : some g ≠ v.ownBlock := by
  obtain ⟨A0, c0, hb, hg, hr0⟩ := h
  exact Kd.N_ne ho hb ht
theorem IsS67.fresh {w0 W : World} {g : Nat} {f0 : List Int} {f1 : Int} {f2 : Int} (h : IsS67 w0 W g f0 f1 f2) : ∀ k, W.heap.size ≤ k → k ≠ g := by
  obtain ⟨A0, c0, hb, hg, hr0⟩ := h
  exact Kd.freshB hb
theorem IsS67.kept {w0 W : World} {g : Nat} {f0 : List Int} {f1 : Int} {f2 : Int} {W1 : World} {S : Nat → Prop} (h : IsS67 w0 W g f0 f1 f2) (hk : Kept W W1 S) (hne : ¬ S g) : IsS67 w0 W1 g f0 f1 f2 := by
  obtain ⟨A0, c0, hb, hg, hr0⟩ := h
  exact ⟨A0, c0, blk_kept hb hk hne, hg, hr0⟩
theorem IsS67.below {w0 W : World} {g : Nat} {f0 : List Int} {f1 : Int} {f2 : Int} {W1 : World} (h : IsS67 w0 W g f0 f1 f2) (hw : Below W.heap.size W W1) : IsS67 w0 W1 g f0 f1 f2 := h.grown (grown_of_below hw none) (by simp)
theorem IsS67.alloc {w0 W : World} {g : Nat} {f0 : List Int} {f1 : Int} {f2 : Int} (h : IsS67 w0 W g f0 f1 f2) (o : Obj) : IsS67 w0 (W.alloc o) g f0 f1 f2 := h.below (below_alloc (Below.refl _ _) o)
theorem IsS67.drewN {w0 W : World} {g : Nat} {f0 : List Int} {f1 : Int} {f2 : Int} (h : IsS67 w0 W g f0 f1 f2) (m : Nat) : IsS67 w0 (W.drewN m) g f0 f1 f2 := h
theorem IsS67.drew {w0 W : World} {g : Nat} {f0 : List Int} {f1 : Int} {f2 : Int} (h : IsS67 w0 W g f0 f1 f2) : IsS67 w0 W.drew g f0 f1 f2 := h
theorem IsS67.at_ {w0 W : World} {g : Nat} {f0 : List Int} {f1 : Int} {f2 : Int} {w' : World} {m : Nat} (hq : W.drewN m = w') (h : IsS67 w0 W g f0 f1 f2) : IsS67 w0 w' g f0 f1 f2 := by subst hq; exact IsS67.drewN h m
theorem IsS67.apart {w0 W : World} {g : Nat} {f0 : List Int} {f1 : Int} {f2 : Int} {α : Type} {d : Kd α} {e : Nat} {base : Nat} {ok : Nat → Prop} {v : Value} {xs : List α} (h : IsS67 w0 W g f0 f1 f2) (ho : d.R e W base ok v xs) (ht : ∀ q, q ∈ e :: d.E → q ≠ 67) : d.R e W base (fun k => ok k ∧ k ≠ g) v xs := by
  obtain ⟨A0, c0, hb, hg, hr0⟩ := h
  exact Kd.R_types ho hb ht
theorem IsS67.own_ne {w0 W : World} {g : Nat} {f0 : List Int} {f1 : Int} {f2 : Int} {α : Type} {d : Kd α} {e : Nat} {base : Nat} {ok : Nat → Prop} {v : Value} {xs : List α} (h : IsS67 w0 W g f0 f1 f2) (ho : d.R e W base ok v xs) (ht : e ≠ 67) : some g ≠ v.ownBlock := by
  obtain ⟨A0, c0, hb, hg, hr0⟩ := h
  exact Kd.R_ne ho hb ht
theorem IsS67.apartQ {w0 W : World} {g : Nat} {f0 : List Int} {f1 : Int} {f2 : Int} {α : Type} {d : Kd α} {e : Nat} {base : Nat} {ok : Nat → Prop} {v : Value} {xs : List α} (h : IsS67 w0 W g f0 f1 f2) (ho : d.Q e W base ok v xs) (ht : ∀ q, q ∈ e :: d.E → q ≠ 67) : d.Q e W base (fun k => ok k ∧ k ≠ g) v xs := by
  obtain ⟨A0, c0, hb, hg, hr0⟩ := h
  exact Kd.Q_types ho hb ht
theorem IsS67.own_neQ {w0 W : World} {g : Nat} {f0 : List Int} {f1 : Int} {f2 : Int} {α : Type} {d : Kd α} {e : Nat} {base : Nat} {ok : Nat → Prop} {v : Value} {xs : List α} (h : IsS67 w0 W g f0 f1 f2) (ho : d.Q e W base ok v xs) (ht : e ≠ 67) : some g ≠ v.ownBlock := by
  obtain ⟨A0, c0, hb, hg, hr0⟩ := h
  exact Kd.Q_ne ho hb ht
theorem IsS67.apartS {w0 W : World} {g : Nat} {f0 : List Int} {f1 : Int} {f2 : Int} {α : Type} {d : Kd α} {e : Nat} {base : Nat} {ok : Nat → Prop} {v : Value} {xs : List α} (h : IsS67 w0 W g f0 f1 f2) (ho : d.S e W base ok v xs) (ht : ∀ q, q ∈ e :: d.E → q ≠ 67) : d.S e W base (fun k => ok k ∧ k ≠ g) v xs := by
  obtain ⟨A0, c0, hb, hg, hr0⟩ := h
  exact Kd.S_types ho hb ht
theorem IsS67.own_neS {w0 W : World} {g : Nat} {f0 : List Int} {f1 : Int} {f2 : Int} {α : Type} {d : Kd α} {e : Nat} {base : Nat} {ok : Nat → Prop} {v : Value} {xs : List α} (h : IsS67 w0 W g f0 f1 f2) (ho : d.S e W base ok v xs) (ht : e ≠ 67) : some g ≠ v.ownBlock := by
  obtain ⟨A0, c0, hb, hg, hr0⟩ := h
  exact Kd.S_ne ho hb ht
theorem IsS67.lt {w0 W : World} {g : Nat} {f0 : List Int} {f1 : Int} {f2 : Int} (h : IsS67 w0 W g f0 f1 f2) : g < W.heap.size := by
  obtain ⟨A0, c0, hb, hg, hr0⟩ := h
  exact blk_lt hb
theorem IsS67.ge {w0 W : World} {g : Nat} {f0 : List Int} {f1 : Int} {f2 : Int} (h : IsS67 w0 W g f0 f1 f2) : w0.heap.size ≤ g := by
  obtain ⟨A0, c0, hb, hg, hr0⟩ := h
  exact hg
theorem IsS67.ne_blk {w0 W : World} {g : Nat} {f0 : List Int} {f1 : Int} {f2 : Int} {a : Nat} {cs : Array Value} {t : TypeId} {fr : Nat × Nat} (h : IsS67 w0 W g f0 f1 f2) (hb2 : W.heap[a]? = some (.cells cs t fr)) (ht : t ≠ 67) : g ≠ a := by
  obtain ⟨A0, c0, hb, hg, hr0⟩ := h
  rintro rfl
  rw [hb] at hb2
  injection hb2 with hb2
  injection hb2 with _ ht2
  exact ht ht2.symm
theorem IsS67.far {w0 W : World} {g : Nat} {f0 : List Int} {f1 : Int} {f2 : Int} {p : Addr} (h : IsS67 w0 W g f0 f1 f2) (hne : g ≠ p.block) (u : Value) : IsS67 w0 (W.setCell p u) g f0 f1 f2 := by
  obtain ⟨A0, c0, hb, hg, hr0⟩ := h
  exact ⟨A0, c0, blk_far hb hne u, hg, hr0⟩
theorem cellS67_0 {W : World} {g : Nat} {A0 : Option Addr} {c0 : Nat} {f0 : List Int} {f1 : Int} {f2 : Int} (h : W.heap[g]? = some (.cells #[.slice A0 f0.length c0, .int .i64 f1, .int .u64 f2] 67 (0, 0))) : W.cell? ⟨g, 0, none⟩ = some (.slice A0 f0.length c0) := (blk_cell h 0).trans rfl
theorem cellS67_1 {W : World} {g : Nat} {A0 : Option Addr} {c0 : Nat} {f0 : List Int} {f1 : Int} {f2 : Int} (h : W.heap[g]? = some (.cells #[.slice A0 f0.length c0, .int .i64 f1, .int .u64 f2] 67 (0, 0))) : W.cell? ⟨g, 1, none⟩ = some (.int .i64 f1) := (blk_cell h 1).trans rfl
theorem IsS67.set_1 {w0 W : World} {g : Nat} {f0 : List Int} {f1 : Int} {f2 : Int} (h : IsS67 w0 W g f0 f1 f2) (x : Int) : IsS67 w0 (W.setCell ⟨g, 1, none⟩ (.int .i64 x)) g f0 x f2 := by
  obtain ⟨A0, c0, hb, hg, hr0⟩ := h
  exact ⟨A0, c0, by simpa using blk_set hb 1 (.int .i64 x), hg, hr0⟩
theorem cellS67_2 {W : World} {g : Nat} {A0 : Option Addr} {c0 : Nat} {f0 : List Int} {f1 : Int} {f2 : Int} (h : W.heap[g]? = some (.cells #[.slice A0 f0.length c0, .int .i64 f1, .int .u64 f2] 67 (0, 0))) : W.cell? ⟨g, 2, none⟩ = some (.int .u64 f2) := (blk_cell h 2).trans rfl
theorem IsS67.set_2 {w0 W : World} {g : Nat} {f0 : List Int} {f1 : Int} {f2 : Int} (h : IsS67 w0 W g f0 f1 f2) (x : Int) : IsS67 w0 (W.setCell ⟨g, 2, none⟩ (.int .u64 x)) g f0 f1 x := by
  obtain ⟨A0, c0, hb, hg, hr0⟩ := h
  exact ⟨A0, c0, by simpa using blk_set hb 2 (.int .u64 x), hg, hr0⟩
theorem IsS67.new (w0 W : World) (A0 : Option Addr) (c0 : Nat) (f0 : List Int) (f1 : Int) (f2 : Int) (hB : Below w0.heap.size w0 W) (hr0 : Kd.C (Kd.int .u8) w0 A0 f0.length f0) : IsS67 w0 (W.alloc (.cells #[.slice A0 f0.length c0, .int .i64 f1, .int .u64 f2] 67)) W.heap.size f0 f1 f2 := ⟨A0, c0, by simpa using heap_alloc_new W _, hB.size, hr0⟩

/-! ### Faz: function 70 -/
def Faz.f (s0_0 : List Int) (s0_1 : Int) (s0_2 : Int) : Option (Int × Int × Int) := if s0_1 < (s0_0.length : Int) then (if 0 ≤ s0_1 then (if (wrap64 (s0_1 + 1)) ≤ (s0_0.length : Int) then (some (wrap64 (rd s0_0 s0_1), wrap64 (s0_1 + 1), IntKind.u64.wrap ((IntKind.u64.wrap ((IntKind.u64.wrap (s0_2 * 6364136223846793005)) + (IntKind.u64.wrap (wrap64 (rd s0_0 s0_1))))) + 102323))) else (some (wrap64 (Go.bits .and .u64 ((IntKind.u64.wrap ((IntKind.u64.wrap ((IntKind.u64.wrap (s0_2 * 6364136223846793005)) + (IntKind.u64.wrap (wrap64 (rd s0_0 s0_1))))) + 102323)) / 1099511627776) 255), wrap64 (s0_1 + 1), IntKind.u64.wrap ((IntKind.u64.wrap ((IntKind.u64.wrap (s0_2 * 6364136223846793005)) + (IntKind.u64.wrap (wrap64 (rd s0_0 s0_1))))) + 102323)))) else (none)) else (if (wrap64 (s0_1 + 1)) ≤ (s0_0.length : Int) then (some (0, wrap64 (s0_1 + 1), IntKind.u64.wrap ((IntKind.u64.wrap ((IntKind.u64.wrap (s0_2 * 6364136223846793005)))) + 102323))) else (some (wrap64 (Go.bits .and .u64 ((IntKind.u64.wrap ((IntKind.u64.wrap ((IntKind.u64.wrap (s0_2 * 6364136223846793005)))) + 102323)) / 1099511627776) 255), wrap64 (s0_1 + 1), IntKind.u64.wrap ((IntKind.u64.wrap ((IntKind.u64.wrap (s0_2 * 6364136223846793005)))) + 102323))))
set_option maxHeartbeats 8000000 in
set_option maxRecDepth 100000 in
theorem Faz.calls (g : Nat) (s0_0 : List Int) (s0_1 : Int) (s0_2 : Int) (r1 : Int) (r2 : Int) (r3 : Int) (w0 w : World) (hI : IsS67 w0 w g s0_0 s0_1 s0_2) (hB : Below w0.heap.size w0 w) (h : Faz.f s0_0 s0_1 s0_2 = some (r1, r2, r3)) :
  Calls Tryz.prog 70 #[.pointer (some ⟨g, 0, none⟩)] w fun e w' => e = .returned (.int .i64 r1) ∧ IsS67 w0 w' g s0_0 r2 r3 ∧ Below w0.heap.size w0 w' ∧ KeepBut w w' g none := by
 have HI0 := Ak hI
 have HK := Ak (KeepBut.refl w g none)
 have HL := Ak hB.size
 clear hI
 have HW0 := Ak hB.size
 have HB := Ak hB
 clear hB
 have H : (if s0_1 < (s0_0.length : Int) then (if 0 ≤ s0_1 then (if (wrap64 (s0_1 + 1)) ≤ (s0_0.length : Int) then (some (wrap64 (rd s0_0 s0_1), wrap64 (s0_1 + 1), IntKind.u64.wrap ((IntKind.u64.wrap ((IntKind.u64.wrap (s0_2 * 6364136223846793005)) + (IntKind.u64.wrap (wrap64 (rd s0_0 s0_1))))) + 102323))) else (some (wrap64 (Go.bits .and .u64 ((IntKind.u64.wrap ((IntKind.u64.wrap ((IntKind.u64.wrap (s0_2 * 6364136223846793005)) + (IntKind.u64.wrap (wrap64 (rd s0_0 s0_1))))) + 102323)) / 1099511627776) 255), wrap64 (s0_1 + 1), IntKind.u64.wrap ((IntKind.u64.wrap ((IntKind.u64.wrap (s0_2 * 6364136223846793005)) + (IntKind.u64.wrap (wrap64 (rd s0_0 s0_1))))) + 102323)))) else (none)) else (if (wrap64 (s0_1 + 1)) ≤ (s0_0.length : Int) then (some (0, wrap64 (s0_1 + 1), IntKind.u64.wrap ((IntKind.u64.wrap ((IntKind.u64.wrap (s0_2 * 6364136223846793005)))) + 102323))) else (some (wrap64 (Go.bits .and .u64 ((IntKind.u64.wrap ((IntKind.u64.wrap ((IntKind.u64.wrap (s0_2 * 6364136223846793005)))) + 102323)) / 1099511627776) 255), wrap64 (s0_1 + 1), IntKind.u64.wrap ((IntKind.u64.wrap ((IntKind.u64.wrap (s0_2 * 6364136223846793005)))) + 102323))))) = some (r1, r2, r3) := h
 clear h
 by_cases c2 : s0_1 < (s0_0.length : Int)
 rotate_left
 ·rw [if_neg c2] at H
  have c2b0 : decide (s0_1 < (s0_0.length : Int)) = false := decide_eq_false c2
  clear c2
  by_cases c7 : (wrap64 (s0_1 + 1)) ≤ (s0_0.length : Int)
  ·rw [if_pos c7] at H
   have c7b0 : decide ((wrap64 (s0_1 + 1)) ≤ (s0_0.length : Int)) = true := decide_eq_true c7
   clear c7
   simp only [Option.some.injEq, Prod.mk.injEq] at H
   obtain ⟨rfl, rfl, rfl⟩ := H
   obtain ⟨ASz8_0, cSz8_0, HGz8, hgz8, HSz8_0⟩ := HI0.out
   have hcz8_0 := cellS67_0 HGz8
   have hcz8_1 := cellS67_1 HGz8
   have hcz8_2 := cellS67_2 HGz8
   have hfz8_1 := blk_frozen HGz8 1
   have hfz8_2 := blk_frozen HGz8 2
   clear HGz8 hgz8
   go_enter Tryz.func70, Tryz.ntmps70
   go_wp2
   repeat (go_quiet (fail); try go_wp2)
   go_ret
   exact ⟨by first | rfl | (simp [errW_none, errW_some] <;> rfl) | (simp [*, errW_none, errW_some] <;> rfl), by repeat (first | (with_reducible first | exact HI0.out | apply IsS67.alloc | apply IsS67.drewN | apply IsS67.drew | apply IsS67.set_1 | apply IsS67.set_2) | exact HI0.out), by repeat (first | (with_reducible first | exact HB.out | apply below_alloc | apply pw_below_drewN | apply below_drew1 | refine below_set ?_ (IsS67.ge HI0.out)) | exact HB.out), by repeat (first | (with_reducible first | exact HK.out | apply KeepBut.set_ | apply keep_drewN | apply keep_drew | apply keep_alloc) | exact HK.out)⟩
  rw [if_neg c7] at H
  have c7b0 : decide ((wrap64 (s0_1 + 1)) ≤ (s0_0.length : Int)) = false := decide_eq_false c7
  clear c7
  simp only [Option.some.injEq, Prod.mk.injEq] at H
  obtain ⟨rfl, rfl, rfl⟩ := H
  obtain ⟨ASz9_0, cSz9_0, HGz9, hgz9, HSz9_0⟩ := HI0.out
  have hcz9_0 := cellS67_0 HGz9
  have hcz9_1 := cellS67_1 HGz9
  have hcz9_2 := cellS67_2 HGz9
  have hfz9_1 := blk_frozen HGz9 1
  have hfz9_2 := blk_frozen HGz9 2
  clear HGz9 hgz9
  go_enter Tryz.func70, Tryz.ntmps70
  go_wp2
  repeat (go_quiet (fail); try go_wp2)
  go_ret
  exact ⟨by first | rfl | (simp [errW_none, errW_some] <;> rfl) | (simp [*, errW_none, errW_some] <;> rfl), by repeat (first | (with_reducible first | exact HI0.out | apply IsS67.alloc | apply IsS67.drewN | apply IsS67.drew | apply IsS67.set_1 | apply IsS67.set_2) | exact HI0.out), by repeat (first | (with_reducible first | exact HB.out | apply below_alloc | apply pw_below_drewN | apply below_drew1 | refine below_set ?_ (IsS67.ge HI0.out)) | exact HB.out), by repeat (first | (with_reducible first | exact HK.out | apply KeepBut.set_ | apply keep_drewN | apply keep_drew | apply keep_alloc) | exact HK.out)⟩
 rw [if_pos c2] at H
 have c2b0 : decide (s0_1 < (s0_0.length : Int)) = true := decide_eq_true c2
 clear c2
 by_cases c3 : 0 ≤ s0_1
 rotate_left
 ·rw [if_neg c3] at H
  exact absurd H (by simp)
 rw [if_pos c3] at H
 have c3b0 : decide (0 ≤ s0_1) = true := decide_eq_true c3
 clear c3
 by_cases c4 : (wrap64 (s0_1 + 1)) ≤ (s0_0.length : Int)
 ·rw [if_pos c4] at H
  have c4b0 : decide ((wrap64 (s0_1 + 1)) ≤ (s0_0.length : Int)) = true := decide_eq_true c4
  clear c4
  simp only [Option.some.injEq, Prod.mk.injEq] at H
  obtain ⟨rfl, rfl, rfl⟩ := H
  obtain ⟨ASz5_0, cSz5_0, HGz5, hgz5, HSz5_0⟩ := HI0.out
  have hcz5_0 := cellS67_0 HGz5
  have hcz5_1 := cellS67_1 HGz5
  have hcz5_2 := cellS67_2 HGz5
  have hfz5_1 := blk_frozen HGz5 1
  have hfz5_2 := blk_frozen HGz5 2
  clear HGz5 hgz5
  have p101 : 0 ≤ (s0_1 : Int) := of_decide_eq_true (by first | (with_reducible assumption) | assumption)
  have q101 : s0_1 < (s0_0.length : Int) := of_decide_eq_true (by first | (with_reducible assumption) | assumption)
  obtain ⟨ad101, e101, hx101_0⟩ := Kd.at_int HSz5_0 s0_1 p101 q101
  cases e101
  replace hx101_0 := pw_cell_below HB.out hx101_0
  replace p101 := eq_true p101; replace q101 := eq_true q101
  go_enter Tryz.func70, Tryz.ntmps70
  go_wp2
  repeat (go_quiet (fail); try go_wp2)
  go_ret
  exact ⟨by first | rfl | (simp [errW_none, errW_some] <;> rfl) | (simp [*, errW_none, errW_some] <;> rfl), by repeat (first | (with_reducible first | exact HI0.out | apply IsS67.alloc | apply IsS67.drewN | apply IsS67.drew | apply IsS67.set_1 | apply IsS67.set_2) | exact HI0.out), by repeat (first | (with_reducible first | exact HB.out | apply below_alloc | apply pw_below_drewN | apply below_drew1 | refine below_set ?_ (IsS67.ge HI0.out)) | exact HB.out), by repeat (first | (with_reducible first | exact HK.out | apply KeepBut.set_ | apply keep_drewN | apply keep_drew | apply keep_alloc) | exact HK.out)⟩
 rw [if_neg c4] at H
 have c4b0 : decide ((wrap64 (s0_1 + 1)) ≤ (s0_0.length : Int)) = false := decide_eq_false c4
 clear c4
 simp only [Option.some.injEq, Prod.mk.injEq] at H
 obtain ⟨rfl, rfl, rfl⟩ := H
 obtain ⟨ASz6_0, cSz6_0, HGz6, hgz6, HSz6_0⟩ := HI0.out
 have hcz6_0 := cellS67_0 HGz6
 have hcz6_1 := cellS67_1 HGz6
 have hcz6_2 := cellS67_2 HGz6
 have hfz6_1 := blk_frozen HGz6 1
 have hfz6_2 := blk_frozen HGz6 2
 clear HGz6 hgz6
 have p101 : 0 ≤ (s0_1 : Int) := of_decide_eq_true (by first | (with_reducible assumption) | assumption)
 have q101 : s0_1 < (s0_0.length : Int) := of_decide_eq_true (by first | (with_reducible assumption) | assumption)
 obtain ⟨ad101, e101, hx101_0⟩ := Kd.at_int HSz6_0 s0_1 p101 q101
 cases e101
 replace hx101_0 := pw_cell_below HB.out hx101_0
 replace p101 := eq_true p101; replace q101 := eq_true q101
 go_enter Tryz.func70, Tryz.ntmps70
 go_wp2
 repeat (go_quiet (fail); try go_wp2)
 go_ret
 exact ⟨by first | rfl | (simp [errW_none, errW_some] <;> rfl) | (simp [*, errW_none, errW_some] <;> rfl), by repeat (first | (with_reducible first | exact HI0.out | apply IsS67.alloc | apply IsS67.drewN | apply IsS67.drew | apply IsS67.set_1 | apply IsS67.set_2) | exact HI0.out), by repeat (first | (with_reducible first | exact HB.out | apply below_alloc | apply pw_below_drewN | apply below_drew1 | refine below_set ?_ (IsS67.ge HI0.out)) | exact HB.out), by repeat (first | (with_reducible first | exact HK.out | apply KeepBut.set_ | apply keep_drewN | apply keep_drew | apply keep_alloc) | exact HK.out)⟩
end Go.Proofs.YtahfahlbdgbfeaaGreatDoor.X

namespace Go.Proofs.YtahfahlbdgbfeaaGreatDoor.X
open Ho (bS eS RS Ak Cs Ct Cd)
open Go.RowKit Go.Proofs.YtahfahlbdgbfeaaGreatDoorW.PrintWords Go.Proofs.YtahfahlbdgbfeaaGreatDoorW.PrintLast Go.Proofs.YtahfahlbdgbfeaaGreatDoorW.PrintMore
attribute [local go_sem] max2_int min2_int max_two min_two max_three min_three max_four min_four   -- for this text's walks alone
set_option linter.unusedVariables false
set_option linter.unusedSimpArgs false
open Sq (I O Z Dz)
/-! ### Ft: function 46 -/
def Ft.f (s0_0 : List Int) (s0_1 : Int) (s0_2 : Int) (a1 : Int) : Option (Int × Int × Int) := if a1 ≤ 1 then (some (0, s0_1, s0_2)) else ((Faz.f s0_0 s0_1 s0_2).bind fun bt101 => (if a1 > 200 then ((Faz.f s0_0 bt101.2.1 bt101.2.2).bind fun bt104 => (if a1 = 0 then (none) else (some (Int.tmod (wrap64 ((wrap64 (bt101.1 * 256)) + bt104.1)) a1, bt104.2.1, bt104.2.2)))) else (if a1 = 0 then (none) else (some (Int.tmod bt101.1 a1, bt101.2.1, bt101.2.2)))))
set_option maxHeartbeats 8000000 in
set_option maxRecDepth 100000 in
theorem Ft.calls (g : Nat) (s0_0 : List Int) (s0_1 : Int) (s0_2 : Int) (a1 : Int) (r1 : Int) (r2 : Int) (r3 : Int) (w0 w : World) (hI : IsS67 w0 w g s0_0 s0_1 s0_2) (hB : Below w0.heap.size w0 w) (h : Ft.f s0_0 s0_1 s0_2 a1 = some (r1, r2, r3)) :
  Calls Tryz.prog 46 #[.pointer (some ⟨g, 0, none⟩), .int .i64 a1] w fun e w' => e = .returned (.int .i64 r1) ∧ IsS67 w0 w' g s0_0 r2 r3 ∧ Below w0.heap.size w0 w' ∧ KeepBut w w' g none := by
 have HI0 := Ak hI
 have HK := Ak (KeepBut.refl w g none)
 have HL := Ak hB.size
 clear hI
 have HW0 := Ak hB.size
 have HB := Ak hB
 clear hB
 have H : (if a1 ≤ 1 then (some (0, s0_1, s0_2)) else ((Faz.f s0_0 s0_1 s0_2).bind fun bt101 => (if a1 > 200 then ((Faz.f s0_0 bt101.2.1 bt101.2.2).bind fun bt104 => (if a1 = 0 then (none) else (some (Int.tmod (wrap64 ((wrap64 (bt101.1 * 256)) + bt104.1)) a1, bt104.2.1, bt104.2.2)))) else (if a1 = 0 then (none) else (some (Int.tmod bt101.1 a1, bt101.2.1, bt101.2.2)))))) = some (r1, r2, r3) := h
 clear h
 by_cases c3 : a1 ≤ 1
 ·rw [if_pos c3] at H
  have c3b0 : decide (a1 ≤ 1) = true := decide_eq_true c3
  clear c3
  simp only [Option.some.injEq, Prod.mk.injEq] at H
  obtain ⟨rfl, rfl, rfl⟩ := H
  go_enter Tryz.func46, Tryz.ntmps46
  go_wp2
  go_ret
  exact ⟨by first | rfl | (simp [errW_none, errW_some] <;> rfl) | (simp [*, errW_none, errW_some] <;> rfl), by exact IsS67.below HI0.out Ho.Steps.below, by exact eS HB.out, by exact Ho.kS HK.out⟩
 ·rw [if_neg c3] at H
  have c3b0 : decide (a1 ≤ 1) = false := decide_eq_false c3
  clear c3
  replace H := Option.bind_eq_some_iff.mp H
  obtain ⟨⟨t101, t102, t103⟩, A40, H⟩ := H
  replace H : (if a1 > 200 then ((Faz.f s0_0 t102 t103).bind fun bt104 => (if a1 = 0 then (none) else (some (Int.tmod (wrap64 ((wrap64 (t101 * 256)) + bt104.1)) a1, bt104.2.1, bt104.2.2)))) else (if a1 = 0 then (none) else (some (Int.tmod t101 a1, t102, t103)))) = some (r1, r2, r3) := H
  have A4 := Ak A40
  clear A40
  by_cases c5 : a1 > 200
  ·rw [if_pos c5] at H
   have c5b0 : decide (200 < a1) = true := decide_eq_true c5
   clear c5
   replace H := Option.bind_eq_some_iff.mp H
   obtain ⟨⟨t104, t105, t106⟩, A60, H⟩ := H
   replace H : (if a1 = 0 then (none) else (some (Int.tmod (wrap64 ((wrap64 (t101 * 256)) + t104)) a1, t105, t106))) = some (r1, r2, r3) := H
   have A6 := Ak A60
   clear A60
   by_cases c7 : a1 = 0
   ·rw [if_pos c7] at H
    exact absurd H (by simp)
   ·rw [if_neg c7] at H
    have c7b0 : (a1 == 0) = false := beq_eq_false_iff_ne.mpr c7
    have c7b1 : (a1 != 0) = true := bne_iff_ne.mpr c7
    simp only [Option.some.injEq, Prod.mk.injEq] at H
    obtain ⟨rfl, rfl, rfl⟩ := H
    go_enter Tryz.func46, Tryz.ntmps46
    go_wp2_with (first | ((with_reducible refine gate_callee (f := 70) rfl ?_); refine goesL_ (some 9) rfl rfl Tryz.func70 (by kernel_rfl) rfl #[.pointer (some ⟨g, 0, none⟩)] rfl (by (try simp only [List.map_toArray, List.map_cons, List.map_nil]); first | done | rfl | (simp only [List.length_drop, List.length_take]; rfl)) ?_; (with_reducible refine (Faz.calls g s0_0 s0_1 s0_2 t101 t102 t103 w0 _ ?side1 ?side2 A4.out).mono ?_); (case side1 => exact IsS67.below HI0.out Ho.Steps.below); (case side2 => exact eS HB.out); rintro e w8 ⟨rfl, hi, hb, hk⟩; refine ⟨_, rfl, ?_⟩; have n0_ := Ak (KeepBut.trans (by exact Ho.kS HK.out) hk (.inl rfl)); have n1_ := Ak (hb); have n2_ := Ak (hi); clear HK; clear HB; clear HI0; have HK := n0_; have HB := n1_; have HI0 := n2_; clear n0_ n1_ n2_; (try clear hb); (try clear hb2); (try clear hk); (try clear hi)) | ((with_reducible refine gate_callee (f := 70) rfl ?_); refine goesL_ (some 15) rfl rfl Tryz.func70 (by kernel_rfl) rfl #[.pointer (some ⟨g, 0, none⟩)] rfl (by (try simp only [List.map_toArray, List.map_cons, List.map_nil]); first | done | rfl | (simp only [List.length_drop, List.length_take]; rfl)) ?_; (with_reducible refine (Faz.calls g s0_0 t102 t103 t104 t105 t106 w0 _ ?side1 ?side2 A6.out).mono ?_); (case side1 => exact IsS67.below HI0.out Ho.Steps.below); (case side2 => exact eS HB.out); rintro e w9 ⟨rfl, hi, hb, hk⟩; refine ⟨_, rfl, ?_⟩; have n0_ := Ak (KeepBut.trans (by exact Ho.kS HK.out) hk (.inl rfl)); have n1_ := Ak (hb); have n2_ := Ak (hi); clear HK; clear HB; clear HI0; have HK := n0_; have HB := n1_; have HI0 := n2_; clear n0_ n1_ n2_; (try clear hb); (try clear hb2); (try clear hk); (try clear hi)))
    go_ret
    exact ⟨by first | rfl | (simp [errW_none, errW_some] <;> rfl) | (simp [*, errW_none, errW_some] <;> rfl), by exact IsS67.below HI0.out Ho.Steps.below, by exact eS HB.out, by exact Ho.kS HK.out⟩
  ·rw [if_neg c5] at H
   have c5b0 : decide (200 < a1) = false := decide_eq_false c5
   clear c5
   by_cases c10 : a1 = 0
   ·rw [if_pos c10] at H
    exact absurd H (by simp)
   ·rw [if_neg c10] at H
    have c10b0 : (a1 == 0) = false := beq_eq_false_iff_ne.mpr c10
    have c10b1 : (a1 != 0) = true := bne_iff_ne.mpr c10
    simp only [Option.some.injEq, Prod.mk.injEq] at H
    obtain ⟨rfl, rfl, rfl⟩ := H
    go_enter Tryz.func46, Tryz.ntmps46
    go_wp2_with (first | ((with_reducible refine gate_callee (f := 70) rfl ?_); refine goesL_ (some 9) rfl rfl Tryz.func70 (by kernel_rfl) rfl #[.pointer (some ⟨g, 0, none⟩)] rfl (by (try simp only [List.map_toArray, List.map_cons, List.map_nil]); first | done | rfl | (simp only [List.length_drop, List.length_take]; rfl)) ?_; (with_reducible refine (Faz.calls g s0_0 s0_1 s0_2 t101 t102 t103 w0 _ ?side1 ?side2 A4.out).mono ?_); (case side1 => exact IsS67.below HI0.out Ho.Steps.below); (case side2 => exact eS HB.out); rintro e w11 ⟨rfl, hi, hb, hk⟩; refine ⟨_, rfl, ?_⟩; have n0_ := Ak (KeepBut.trans (by exact Ho.kS HK.out) hk (.inl rfl)); have n1_ := Ak (hb); have n2_ := Ak (hi); clear HK; clear HB; clear HI0; have HK := n0_; have HB := n1_; have HI0 := n2_; clear n0_ n1_ n2_; (try clear hb); (try clear hb2); (try clear hk); (try clear hi)))
    go_ret
    exact ⟨by first | rfl | (simp [errW_none, errW_some] <;> rfl) | (simp [*, errW_none, errW_some] <;> rfl), by exact IsS67.below HI0.out Ho.Steps.below, by exact eS HB.out, by exact Ho.kS HK.out⟩
/-! ### Fe: function 45 -/
def Fe.f (s0_0 : List Int) (s0_1 : Int) (s0_2 : Int) (l1 : List Int) : Option (Int × Int × Int) := (Ft.f s0_0 s0_1 s0_2 (l1.length : Int)).bind fun bt101 => (if 0 ≤ bt101.1 then (if bt101.1 < (l1.length : Int) then (some (rd l1 bt101.1, bt101.2.1, bt101.2.2)) else (none)) else (none))
set_option maxHeartbeats 8000000 in
set_option maxRecDepth 100000 in
theorem Fe.calls (g : Nat) (s0_0 : List Int) (s0_1 : Int) (s0_2 : Int) (A1 : Option Addr) (c1 : Nat) (l1 : List Int) (r1 : Int) (r2 : Int) (r3 : Int) (w0 w : World) (hI : IsS67 w0 w g s0_0 s0_1 s0_2) (hB : Below w0.heap.size w0 w) (hr1 : Kd.C (Kd.int .i64) w A1 l1.length l1) (hc1 : l1.length ≤ c1) (hf1 : ∀ ad, A1 = some ad → 0 < l1.length → ad.block ≠ g) (h : Fe.f s0_0 s0_1 s0_2 l1 = some (r1, r2, r3)) :
  Calls Tryz.prog 45 #[.pointer (some ⟨g, 0, none⟩), .slice A1 l1.length c1] w fun e w' => e = .returned (.int .i64 r1) ∧ IsS67 w0 w' g s0_0 r2 r3 ∧ Below w0.heap.size w0 w' ∧ KeepBut w w' g none := by
 have HR1 := Ak hr1
 have HC1 := Ak hc1
 clear hr1 hc1
 have HI0 := Ak hI
 have HK := Ak (KeepBut.refl w g none)
 have HL := Ak hB.size
 clear hI
 have HW0 := Ak hB.size
 have HB := Ak hB
 clear hB
 have H : ((Ft.f s0_0 s0_1 s0_2 (l1.length : Int)).bind fun bt101 => (if 0 ≤ bt101.1 then (if bt101.1 < (l1.length : Int) then (some (rd l1 bt101.1, bt101.2.1, bt101.2.2)) else (none)) else (none))) = some (r1, r2, r3) := h
 clear h
 replace H := Option.bind_eq_some_iff.mp H
 obtain ⟨⟨t101, t102, t103⟩, A30, H⟩ := H
 replace H : (if 0 ≤ t101 then (if t101 < (l1.length : Int) then (some (rd l1 t101, t102, t103)) else (none)) else (none)) = some (r1, r2, r3) := H
 have A3 := Ak A30
 clear A30
 by_cases c4 : 0 ≤ t101
 ·rw [if_pos c4] at H
  have c4b0 : decide (0 ≤ t101) = true := decide_eq_true c4
  clear c4
  by_cases c5 : t101 < (l1.length : Int)
  ·rw [if_pos c5] at H
   have c5b0 : decide (t101 < (l1.length : Int)) = true := decide_eq_true c5
   clear c5
   simp only [Option.some.injEq, Prod.mk.injEq] at H
   obtain ⟨rfl, rfl, rfl⟩ := H
   go_enter Tryz.func45, Tryz.ntmps45
   go_wp2_with (first | ((with_reducible refine gate_callee (f := 46) rfl ?_); refine goesL_ (some 9) rfl rfl Tryz.func46 (by kernel_rfl) rfl #[.pointer (some ⟨g, 0, none⟩), .int .i64 (l1.length : Int)] rfl (by (try simp only [List.map_toArray, List.map_cons, List.map_nil]); first | done | rfl | (simp only [List.length_drop, List.length_take]; rfl)) ?_; (with_reducible refine (Ft.calls g s0_0 s0_1 s0_2 (l1.length : Int) t101 t102 t103 w0 _ ?side1 ?side2 A3.out).mono ?_); (case side1 => exact IsS67.below HI0.out Ho.Steps.below); (case side2 => exact eS HB.out); rintro e w6 ⟨rfl, hi, hb, hk⟩; refine ⟨_, rfl, ?_⟩; have n0_ := Ak (KeepBut.trans (by exact Ho.kS HK.out) hk (.inl rfl)); have n1_ := Ak (hb); have n2_ := Ak (hi); clear HK; clear HB; clear HI0; have HK := n0_; have HB := n1_; have HI0 := n2_; clear n0_ n1_ n2_; (try clear hb); (try clear hb2); (try clear hk); (try clear hi); have p104 : 0 ≤ (t101 : Int) := Dz; have q104 : t101 < (l1.length : Int) := Dz; obtain ⟨ad104, e104, hx104_0⟩ := Kd.at_int HR1.out t101 p104 q104; cases e104; replace hx104_0 := keep_cell HK.out hx104_0 (by first | (rw [add_block]; exact hf1 _ rfl (by omega)) | exact hf1 _ rfl (by omega) | exact hf1 ad104 rfl (by omega)); replace p104 := eq_true p104; replace q104 := eq_true q104))
   go_ret
   exact ⟨by first | rfl | (simp [errW_none, errW_some] <;> rfl) | (simp [*, errW_none, errW_some] <;> rfl), by exact IsS67.below HI0.out Ho.Steps.below, by exact eS HB.out, by exact Ho.kS HK.out⟩
  ·rw [if_neg c5] at H
   exact absurd H (by simp)
 ·rw [if_neg c4] at H
  exact absurd H (by simp)
/-! ### Fao: function 52 -/
def Fao.f (s0_0 : List Int) (s0_1 : Int) (s0_2 : Int) (l1 : List ByteArray) : Option (ByteArray × Int × Int) := (Ft.f s0_0 s0_1 s0_2 (l1.length : Int)).bind fun bt101 => (if 0 ≤ bt101.1 then (if bt101.1 < (l1.length : Int) then (some (rdOf ByteArray.empty l1 bt101.1, bt101.2.1, bt101.2.2)) else (none)) else (none))
set_option maxHeartbeats 8000000 in
set_option maxRecDepth 100000 in
theorem Fao.calls (g : Nat) (s0_0 : List Int) (s0_1 : Int) (s0_2 : Int) (A1 : Option Addr) (c1 : Nat) (l1 : List ByteArray) (r1 : ByteArray) (r2 : Int) (r3 : Int) (w0 w : World) (hI : IsS67 w0 w g s0_0 s0_1 s0_2) (hB : Below w0.heap.size w0 w) (hr1 : Kd.C Kd.string w A1 l1.length l1) (hc1 : l1.length ≤ c1) (hf1 : ∀ ad, A1 = some ad → 0 < l1.length → ad.block ≠ g) (h : Fao.f s0_0 s0_1 s0_2 l1 = some (r1, r2, r3)) :
  Calls Tryz.prog 52 #[.pointer (some ⟨g, 0, none⟩), .slice A1 l1.length c1] w fun e w' => e = .returned (.string r1) ∧ IsS67 w0 w' g s0_0 r2 r3 ∧ Below w0.heap.size w0 w' ∧ KeepBut w w' g none := by
 have HR1 := Ak hr1
 have HC1 := Ak hc1
 clear hr1 hc1
 have HI0 := Ak hI
 have HK := Ak (KeepBut.refl w g none)
 have HL := Ak hB.size
 clear hI
 have HW0 := Ak hB.size
 have HB := Ak hB
 clear hB
 have H : ((Ft.f s0_0 s0_1 s0_2 (l1.length : Int)).bind fun bt101 => (if 0 ≤ bt101.1 then (if bt101.1 < (l1.length : Int) then (some (rdOf ByteArray.empty l1 bt101.1, bt101.2.1, bt101.2.2)) else (none)) else (none))) = some (r1, r2, r3) := h
 clear h
 replace H := Option.bind_eq_some_iff.mp H
 obtain ⟨⟨t101, t102, t103⟩, A30, H⟩ := H
 replace H : (if 0 ≤ t101 then (if t101 < (l1.length : Int) then (some (rdOf ByteArray.empty l1 t101, t102, t103)) else (none)) else (none)) = some (r1, r2, r3) := H
 have A3 := Ak A30
 clear A30
 by_cases c4 : 0 ≤ t101
 ·rw [if_pos c4] at H
  have c4b0 : decide (0 ≤ t101) = true := decide_eq_true c4
  clear c4
  by_cases c5 : t101 < (l1.length : Int)
  ·rw [if_pos c5] at H
   have c5b0 : decide (t101 < (l1.length : Int)) = true := decide_eq_true c5
   clear c5
   simp only [Option.some.injEq, Prod.mk.injEq] at H
   obtain ⟨rfl, rfl, rfl⟩ := H
   go_enter Tryz.func52, Tryz.ntmps52
   go_wp2_with (first | ((with_reducible refine gate_callee (f := 46) rfl ?_); refine goesL_ (some 9) rfl rfl Tryz.func46 (by kernel_rfl) rfl #[.pointer (some ⟨g, 0, none⟩), .int .i64 (l1.length : Int)] rfl (by (try simp only [List.map_toArray, List.map_cons, List.map_nil]); first | done | rfl | (simp only [List.length_drop, List.length_take]; rfl)) ?_; (with_reducible refine (Ft.calls g s0_0 s0_1 s0_2 (l1.length : Int) t101 t102 t103 w0 _ ?side1 ?side2 A3.out).mono ?_); (case side1 => exact IsS67.below HI0.out Ho.Steps.below); (case side2 => exact eS HB.out); rintro e w6 ⟨rfl, hi, hb, hk⟩; refine ⟨_, rfl, ?_⟩; have n0_ := Ak (KeepBut.trans (by exact Ho.kS HK.out) hk (.inl rfl)); have n1_ := Ak (hb); have n2_ := Ak (hi); clear HK; clear HB; clear HI0; have HK := n0_; have HB := n1_; have HI0 := n2_; clear n0_ n1_ n2_; (try clear hb); (try clear hb2); (try clear hk); (try clear hi); have p104 : 0 ≤ (t101 : Int) := Dz; have q104 : t101 < (l1.length : Int) := Dz; obtain ⟨ad104, e104, hx104_0⟩ := Kd.at_string HR1.out t101 p104 q104; cases e104; replace hx104_0 := keep_cell HK.out hx104_0 (by first | (rw [add_block]; exact hf1 _ rfl (by omega)) | exact hf1 _ rfl (by omega) | exact hf1 ad104 rfl (by omega)); replace p104 := eq_true p104; replace q104 := eq_true q104))
   go_ret
   exact ⟨by first | rfl | (simp [errW_none, errW_some] <;> rfl) | (simp [*, errW_none, errW_some] <;> rfl), by exact IsS67.below HI0.out Ho.Steps.below, by exact eS HB.out, by exact Ho.kS HK.out⟩
  ·rw [if_neg c5] at H
   exact absurd H (by simp)
 ·rw [if_neg c4] at H
  exact absurd H (by simp)
end Go.Proofs.YtahfahlbdgbfeaaGreatDoor.X
