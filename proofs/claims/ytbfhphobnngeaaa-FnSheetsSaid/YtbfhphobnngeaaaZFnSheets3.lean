/- What the law FnSheets needs, part 4 of 6: what each function of the program that it reaches returns (printed by this session's own program, checked by Lean), and plain mathematics about it. Conditions: those of each theorem. -/
import Derived.Test.YtbfhphobnngeaaaZFnSheets2
namespace Go.Proofs.Ytbfhphobnngeaaa.X
open Ho (bS eS)
open Go.RowKit Go.Proofs.YtbfhphobnngeaaaW.PrintWords Go.Proofs.YtbfhphobnngeaaaW.PrintLast Go.Proofs.YtbfhphobnngeaaaW.PrintMore
attribute [local go_sem] max2_int min2_int max_two min_two max_three min_three max_four min_four   -- for this text's walks alone
set_option linter.unusedVariables false
set_option linter.unusedSimpArgs false
open Sq (I O Z Dz)
/-! ### Fab: function 104 -/
def Fab.l0 : Nat → List Int → Int → Int → Option (List Int)
  | 0, _, _, _ => none
  | k + 1, x0, x1, x5 => if x5 < (x0.length : Int) then (if 0 ≤ x5 then (if (rd x0 x5) < x1 then (Fab.l0 k x0 x1 (wrap64 (x5 + 1))) else (if (rd x0 x5) = x1 then (some x0) else ((some (([] : List Int) : List Int)).bind fun y103 => (if x5 ≤ (x0.length : Int) then ((some (x0.take (x5 : Int).toNat : List Int)).bind fun y106 => (if y103.length + y106.length < 17592186044416 then ((some (y103 ++ y106 : List Int)).bind fun y110 => ((some (([x1] : List Int) : List Int)).bind fun y113 => (if y110.length + y113.length < 17592186044416 then ((some (y110 ++ y113 : List Int)).bind fun y116 => ((some (x0.drop (x5 : Int).toNat : List Int)).bind fun y119 => (if y116.length + y119.length < 17592186044416 then (some (y116 ++ y119)) else (none)))) else (none)))) else (none))) else (none))))) else (none)) else ((some (([] : List Int) : List Int)).bind fun y126 => (if 0 ≤ x5 then (if x5 ≤ (x0.length : Int) then ((some (x0.take (x5 : Int).toNat : List Int)).bind fun y129 => (if y126.length + y129.length < 17592186044416 then ((some (y126 ++ y129 : List Int)).bind fun y133 => ((some (([x1] : List Int) : List Int)).bind fun y136 => (if y133.length + y136.length < 17592186044416 then ((some (y133 ++ y136 : List Int)).bind fun y139 => ((some (x0.drop (x5 : Int).toNat : List Int)).bind fun y142 => (if y139.length + y142.length < 17592186044416 then (some (y139 ++ y142)) else (none)))) else (none)))) else (none))) else (none)) else (none)))
def Fab.f (k : Nat) (l0 : List Int) (a1 : Int) : Option (List Int) := Fab.l0 k l0 a1 0
theorem Fab.mono_l : ∀ k, (∀ y0 y1 y2, LeO (Fab.l0 k y0 y1 y2) (Fab.l0 (k + 1) y0 y1 y2))
  | 0 => fun _ _ _ r h => by simp [Fab.l0] at h
  | k + 1 => by
    have ih0 := Fab.mono_l k
    · intro y0 y1 y2
      unfold Fab.l0
      repeat' first | (with_reducible first | exact ih0 _ _ _ | exact LeO.refl _ | exact LeO.none _ | refine LeO.ite ?_ ?_ | refine LeO.bind ?_ (fun _ => ?_)) | exact ih0 _ _ _ | exact LeO.none _ | refine LeO.ite ?_ ?_ | refine LeO.bind ?_ (fun _ => ?_)
theorem Fab.mono : ∀ a0 a1 k, LeO (Fab.f k a0 a1) (Fab.f (k + 1) a0 a1) := by
  intro a0 a1 k
  have ih0 := Fab.mono_l k
  unfold Fab.f
  repeat' first | (with_reducible first | exact ih0 _ _ _ | exact LeO.refl _ | exact LeO.none _ | refine LeO.ite ?_ ?_ | refine LeO.bind ?_ (fun _ => ?_)) | exact ih0 _ _ _ | exact LeO.none _ | refine LeO.ite ?_ ?_ | refine LeO.bind ?_ (fun _ => ?_)
def Fab.T6 : Bool × List (List Nat × List Nat) := (true, [([], []), ([], []), ([], []), ([1, 2], [1, 2]), ([0, 3], [0, 3]), ([], []), ([5], [5]), ([4, 6, 4], [4, 6]), ([], []), ([], []), ([8, 9], [8, 9]), ([7, 10, 7], [7, 10]), ([11, 11, 0, 1, 2, 3, 4, 5, 6, 7, 8, 9, 10, 11], [11])])
def Fab.B6 : List Nat := [0, 0, 0, 6, 15, 0, 32, 127, 0, 0, 768, 2047, 4095]
theorem Fab.tab6 : rtab .any (opsOf Try.f104 6) = Fab.T6 := by kernel_rfl
theorem Fab.bits6 : waitsOk Fab.T6.2 Fab.B6 = true := by kernel_rfl
set_option maxHeartbeats 8000000 in
set_option maxRecDepth 100000 in
theorem Fab.calls (k : Nat) (P0_ : Nat → Prop) (u9000_ : Value) (l0 : List Int) (a1 : Int) (r : List Int) (w0 w : World) (hB : Below w0.heap.size w0 w) (ho0 : Kd.R (Kd.int .i64) 3 w w0.heap.size P0_ u9000_ l0) (h : Fab.f k l0 a1 = some r) :
  Calls Try.prog 104 #[u9000_, .int .i64 a1] w fun e w' => ∃ v0_ : Value, e = .returned (v0_) ∧ Kd.R (Kd.int .i64) 3 w' w0.heap.size (fun k_ => (P0_ k_ ∨ w.heap.size ≤ k_)) v0_ r ∧ Below w0.heap.size w0 w' ∧ Kept w w' (fun k_ => P0_ k_) := by
 have HO0 := Aside0.mk (show Kd.R (Kd.int .i64) 3 w w0.heap.size (fun k_ => (P0_ k_ ∨ w.heap.size ≤ k_)) u9000_ l0 from Kd.R_mono ho0 (fun k_ hk => (.inl hk)))
 have HK := Aside0.mk (Kept.refl w (fun k_ => P0_ k_))
 have HW0 := Aside0.mk hB.size
 have HB := Aside0.mk hB
 clear hB
 have H : (Fab.l0 k l0 a1 0) = some r := h
 clear h
 have H' := Aside0.mk H
 clear H
 go_enter Try.func104, Try.ntmps104
 go_wp2
 go_loopg [5] k (fun kq v5 w' => ∃ (x5_1 : Int), v5 = .int .i64 x5_1 ∧ Aside0 (Fab.l0 kq l0 a1 x5_1 = some r) ∧ Aside0 (kq ≤ k) ∧ Aside0 (Kd.R (Kd.int .i64) 3 w' w0.heap.size (fun k_ => (P0_ k_ ∨ w.heap.size ≤ k_)) u9000_ l0) ∧ Aside0 (Kept w w' (fun k_ => P0_ k_)) ∧ Aside0 (Below w0.heap.size w0 w'))
 case atStart => exact ⟨(0), (by first | rfl | (simp; done) | (simp [*]; done)), H', ⟨Nat.le_refl _⟩, ⟨by exact Ho.RS <| HO0.out⟩, ⟨by exact Ho.KS HK.out⟩, ⟨by exact eS HB.out⟩⟩
 case round =>
  clear H'
  try clear c1
  try clear p2
  obtain ⟨x5_1, rfl, HA, HK1, HO_0, HK, HB⟩ := hrel
  cases gk with
  | zero => exact absurd HA.out (by simp [Fab.l0])
  | succ k1 =>
   have H := HA.out
   clear HA
   simp only [Fab.l0] at H
   by_cases c3 : x5_1 < (l0.length : Int)
   rotate_left
   ·rw [if_neg c3] at H
    have c3b0 : decide (x5_1 < (l0.length : Int)) = false := decide_eq_false c3
    clear c3
    obtain ⟨y126, hy126⟩ : ∃ y_ : List Int, y_ = (([] : List Int)) := ⟨_, rfl⟩
    replace H : (if 0 ≤ x5_1 then (if x5_1 ≤ (l0.length : Int) then ((some (l0.take (x5_1 : Int).toNat : List Int)).bind fun y129 => (if y126.length + y129.length < 17592186044416 then ((some (y126 ++ y129 : List Int)).bind fun y133 => ((some (([a1] : List Int) : List Int)).bind fun y136 => (if y133.length + y136.length < 17592186044416 then ((some (y133 ++ y136 : List Int)).bind fun y139 => ((some (l0.drop (x5_1 : Int).toNat : List Int)).bind fun y142 => (if y139.length + y142.length < 17592186044416 then (some (y139 ++ y142)) else (none)))) else (none)))) else (none))) else (none)) else (none)) = some r := by first | (rw [hy126]; with_reducible exact H) | (have H2_ := (Option.bind_some _ _).symm.trans H; rw [hy126]; with_reducible exact H2_) | (have H2_ := (Option.bind_some _ _).symm.trans H; with_reducible exact H2_) | with_reducible exact H | (rw [hy126]; exact H) | exact H
    have Ny126 := Aside0.mk hy126
    clear hy126
    by_cases c29 : 0 ≤ x5_1
    rotate_left
    ·rw [if_neg c29] at H
     exact absurd H (by simp)
    rw [if_pos c29] at H
    have c29b0 := eq_true c29
    have c29b1 : decide (0 ≤ x5_1) = true := decide_eq_true c29
    clear c29
    by_cases c30 : x5_1 ≤ (l0.length : Int)
    rotate_left
    ·rw [if_neg c30] at H
     exact absurd H (by simp)
    rw [if_pos c30] at H
    have c30b0 := eq_true c30
    have c30b1 : decide (x5_1 ≤ (l0.length : Int)) = true := decide_eq_true c30
    clear c30
    obtain ⟨y129, hy129⟩ : ∃ y_ : List Int, y_ = (l0.take (x5_1 : Int).toNat) := ⟨_, rfl⟩
    replace H : (if y126.length + y129.length < 17592186044416 then ((some (y126 ++ y129 : List Int)).bind fun y133 => ((some (([a1] : List Int) : List Int)).bind fun y136 => (if y133.length + y136.length < 17592186044416 then ((some (y133 ++ y136 : List Int)).bind fun y139 => ((some (l0.drop (x5_1 : Int).toNat : List Int)).bind fun y142 => (if y139.length + y142.length < 17592186044416 then (some (y139 ++ y142)) else (none)))) else (none)))) else (none)) = some r := by first | (rw [hy129]; with_reducible exact H) | (have H2_ := (Option.bind_some _ _).symm.trans H; rw [hy129]; with_reducible exact H2_) | (have H2_ := (Option.bind_some _ _).symm.trans H; with_reducible exact H2_) | with_reducible exact H | (rw [hy129]; exact H) | exact H
    have Ny129 := Aside0.mk hy129
    clear hy129
    by_cases c31 : y126.length + y129.length < 17592186044416
    rotate_left
    ·rw [if_neg c31] at H
     exact absurd H (by simp)
    rw [if_pos c31] at H
    have LMc31 := Aside0.mk c31
    clear c31
    obtain ⟨y133, hy133⟩ : ∃ y_ : List Int, y_ = (y126 ++ y129) := ⟨_, rfl⟩
    replace H : ((some (([a1] : List Int) : List Int)).bind fun y136 => (if y133.length + y136.length < 17592186044416 then ((some (y133 ++ y136 : List Int)).bind fun y139 => ((some (l0.drop (x5_1 : Int).toNat : List Int)).bind fun y142 => (if y139.length + y142.length < 17592186044416 then (some (y139 ++ y142)) else (none)))) else (none))) = some r := by first | (rw [hy133]; with_reducible exact H) | (have H2_ := (Option.bind_some _ _).symm.trans H; rw [hy133]; with_reducible exact H2_) | (have H2_ := (Option.bind_some _ _).symm.trans H; with_reducible exact H2_) | with_reducible exact H | (rw [hy133]; exact H) | exact H
    have Ny133 := Aside0.mk hy133
    clear hy133
    obtain ⟨y136, hy136⟩ : ∃ y_ : List Int, y_ = (([a1] : List Int)) := ⟨_, rfl⟩
    replace H : (if y133.length + y136.length < 17592186044416 then ((some (y133 ++ y136 : List Int)).bind fun y139 => ((some (l0.drop (x5_1 : Int).toNat : List Int)).bind fun y142 => (if y139.length + y142.length < 17592186044416 then (some (y139 ++ y142)) else (none)))) else (none)) = some r := by first | (rw [hy136]; with_reducible exact H) | (have H2_ := (Option.bind_some _ _).symm.trans H; rw [hy136]; with_reducible exact H2_) | (have H2_ := (Option.bind_some _ _).symm.trans H; with_reducible exact H2_) | with_reducible exact H | (rw [hy136]; exact H) | exact H
    have Ny136 := Aside0.mk hy136
    clear hy136
    by_cases c32 : y133.length + y136.length < 17592186044416
    rotate_left
    ·rw [if_neg c32] at H
     exact absurd H (by simp)
    rw [if_pos c32] at H
    have LMc32 := Aside0.mk c32
    clear c32
    obtain ⟨y139, hy139⟩ : ∃ y_ : List Int, y_ = (y133 ++ y136) := ⟨_, rfl⟩
    replace H : ((some (l0.drop (x5_1 : Int).toNat : List Int)).bind fun y142 => (if y139.length + y142.length < 17592186044416 then (some (y139 ++ y142)) else (none))) = some r := by first | (rw [hy139]; with_reducible exact H) | (have H2_ := (Option.bind_some _ _).symm.trans H; rw [hy139]; with_reducible exact H2_) | (have H2_ := (Option.bind_some _ _).symm.trans H; with_reducible exact H2_) | with_reducible exact H | (rw [hy139]; exact H) | exact H
    have Ny139 := Aside0.mk hy139
    clear hy139
    have c33b0 := eq_true (Dz : 0 ≤ x5_1)
    have c34b0 := eq_true (Dz : x5_1 ≤ (l0.length : Int))
    obtain ⟨y142, hy142⟩ : ∃ y_ : List Int, y_ = (l0.drop (x5_1 : Int).toNat) := ⟨_, rfl⟩
    replace H : (if y139.length + y142.length < 17592186044416 then (some (y139 ++ y142)) else (none)) = some r := by first | (rw [hy142]; with_reducible exact H) | (have H2_ := (Option.bind_some _ _).symm.trans H; rw [hy142]; with_reducible exact H2_) | (have H2_ := (Option.bind_some _ _).symm.trans H; with_reducible exact H2_) | with_reducible exact H | (rw [hy142]; exact H) | exact H
    have Ny142 := Aside0.mk hy142
    clear hy142
    by_cases c35 : y139.length + y142.length < 17592186044416
    rotate_left
    ·rw [if_neg c35] at H
     exact absurd H (by simp)
    rw [if_pos c35] at H
    have LMc35 := Aside0.mk c35
    clear c35
    obtain ⟨y146, hy146⟩ : ∃ y_ : List Int, y_ = (y139 ++ y142) := ⟨_, rfl⟩
    replace H : (some y146) = some r := by first | (rw [hy146]; with_reducible exact H) | (have H2_ := (Option.bind_some _ _).symm.trans H; rw [hy146]; with_reducible exact H2_) | (have H2_ := (Option.bind_some _ _).symm.trans H; with_reducible exact H2_) | with_reducible exact H | (rw [hy146]; exact H) | exact H
    have Ny146 := Aside0.mk hy146
    clear hy146
    obtain rfl := Option.some.inj H
    obtain ⟨Ao36, co36, eo36⟩ := Kd.R_slice HO_0.out
    subst eo36
    try go_wp2
    have n0_ := Aside0.mk (Kd.R_drew HO_0.out)
    have n1_ := Aside0.mk (Kept.drew HK.out)
    have n2_ := Aside0.mk (below_drew1 HB.out)
    clear HO_0
    clear HK
    clear HB
    have HO_0 := n0_
    have HK := n1_
    have HB := n2_
    clear n0_ n1_ n2_
    have q38 : (x5_1 : Int) ≤ ((l0.length : Int) : Int) := Dz
    obtain ⟨i038, hi038, _, hsz38, _⟩ := info_parts info3
    have hroom38 : l0.length ≤ co36 := (Kd.R_reads' HO_0.out).2.1
    have hC38 : Kd.C (Kd.int .i64) _ Ao36 l0.length l0 := (Kd.R_reads' HO_0.out).2.2
    have hcut38 := cut_to (P := Try.prog) 22 3 .i64 Try.underlying22 hi038 Ao36 l0.length co36 x5_1 Dz q38 hroom38
    have hr38 := Kd.C_take (m := (x5_1 : Int).toNat) hC38 (by omega)
    have hy38 : y129.length = (x5_1 : Int).toNat := (by rw [Ny129.out, List.length_take]; omega)
    rw [← Ny129.out] at hr38
    rw [← hy38] at hcut38
    have HR132 := Aside0.mk hr38
    have HC132 := Aside0.mk (show y129.length ≤ co36 from by omega)
    clear hr38 hC38 hroom38 hi038 hsz38
    have KY38 := Aside0.mk hy38
    clear hy38
    have KL38 := Aside0.mk (show (x5_1 : Int).toNat ≤ l0.length from by omega)
    replace q38 := eq_true q38
    have q39 : (x5_1 : Int) ≤ ((l0.length : Int) : Int) := Dz
    obtain ⟨i039, hi039, _, hsz39, _⟩ := info_parts info3
    have hroom39 : l0.length ≤ co36 := (Kd.R_reads' HO_0.out).2.1
    have hC39 : Kd.C (Kd.int .i64) _ Ao36 l0.length l0 := (Kd.R_reads' HO_0.out).2.2
    have q039 : (0 : Int) ≤ (x5_1 : Int) := Dz
    have hcut39 := cut_from (P := Try.prog) 22 3 .i64 Try.underlying22 hi039 1 hsz39 Ao36 l0.length co36 x5_1 q039 q39
    have hr39 := Kd.C_drop (m := (x5_1 : Int).toNat) (c := co36) hC39 (by omega) hroom39
    obtain ⟨A39, hA39⟩ : ∃ A1, A1 = (if co36 = (x5_1 : Int).toNat then Ao36 else (Ao36 : Option Addr).map (·.add ((x5_1 : Int).toNat * 1))) := ⟨_, rfl⟩
    obtain ⟨c39, hc39⟩ : ∃ c1, c1 = co36 - (x5_1 : Int).toNat := ⟨_, rfl⟩
    have hy39 : y142.length = l0.length - (x5_1 : Int).toNat := (by rw [Ny142.out, List.length_drop] <;> omega)
    rw [show (l0).drop (x5_1 : Int).toNat = y142 from Ny142.out.symm] at hr39
    replace hr39 : Kd.C (Kd.int .i64) _ A39 y142.length y142 := (by rw [hA39]; exact hr39)
    rw [← hy39, ← hA39, ← hc39] at hcut39
    have HR145 := Aside0.mk hr39
    have HC145 := Aside0.mk (show y142.length ≤ c39 from by rw [hy39, hc39]; exact Nat.sub_le_sub_right hroom39 _)
    clear hr39 hC39 hroom39 hi039 hsz39 hc39
    have KY39 := Aside0.mk hy39
    have KA39 := Aside0.mk hA39
    clear hy39 hA39
    have KL39 := Aside0.mk (show (x5_1 : Int).toNat ≤ l0.length from by omega)
    replace q39 := eq_true q39
    refine start_ (n := 13) (S := fun w' => True) (ds := []) #[O,O,O,O,O,O,O,O,O,O,O,O,O] (by kernel_rfl) rfl rfl trivial (fun hHeld => ?_); refine with_tabW Fab.tab6 Fab.bits6 (fun HT_ HW_ => ?_)
    generalize wr.drew = w37 at HO_0 HK HB HR132 HR145 hHeld ⊢
    refine pure_ (i := 1) (N := some 34) (v := ?_) (a' := ?_) #[O,I,O,O,O,O,O,O,O,O,O,O,O] rfl rfl (any_of HT_.out (by kernel_rfl)) (fun _ _ _ h => h) (Or.inl ⟨by rfl, ?_⟩) ?_ ?_
    rotate_left; (intro w'; go_simp; with_reducible rfl); rotate_left; (simp only [Z]; rfl)
    refine pure_ (i := 2) (N := some 35) (v := ?_) (a' := ?_) #[O,I,I,O,O,O,O,O,O,O,O,O,O] rfl rfl (any_of HT_.out (by kernel_rfl)) (fun _ _ _ h => h) (Or.inl ⟨by rfl, ?_⟩) ?_ ?_
    rotate_left; (intro w'; go_simp; with_reducible rfl); rotate_left; (simp only [Z]; rfl)
    refine pure_ (i := 3) (N := some 36) (v := ?_) (a' := ?_) #[O,I,I,I,O,O,O,O,O,O,O,O,O] rfl rfl (any_of HT_.out (by kernel_rfl)) (fun _ _ _ h => h) (Or.inl ⟨by rfl, ?_⟩) ?_ ?_
    rotate_left; (intro w'; go_simp; with_reducible rfl); rotate_left; (simp only [Z]; rfl)
    refine pure_ (i := 5) (N := some 38) (v := ?_) (a' := ?_) #[O,I,I,I,O,I,O,O,O,O,O,O,O] rfl rfl (any_of HT_.out (by kernel_rfl)) (fun _ _ _ h => h) (Or.inl ⟨by rfl, ?_⟩) ?_ ?_
    rotate_left; (intro w'; go_simp; with_reducible rfl); rotate_left; (simp only [Z]; rfl)
    refine pure_ (i := 8) (N := some 41) (v := ?_) (a' := ?_) #[O,I,I,I,O,I,O,O,I,O,O,O,O] rfl rfl (any_of HT_.out (by kernel_rfl)) (fun _ _ _ h => h) (Or.inl ⟨by rfl, ?_⟩) ?_ ?_
    rotate_left; (intro w'; go_simp; with_reducible rfl); rotate_left; (simp only [Z]; rfl)
    refine pure_ (i := 9) (N := some 42) (v := ?_) (a' := ?_) #[O,I,I,I,O,I,O,O,I,I,O,O,O] rfl rfl (any_of HT_.out (by kernel_rfl)) (fun _ _ _ h => h) (Or.inl ⟨by rfl, ?_⟩) ?_ ?_
    rotate_left; (intro w'; go_simp; with_reducible rfl); rotate_left; (simp only [Z]; rfl)
    refine pure_ (i := 10) (N := some 43) (v := ?_) (a' := ?_) #[O,I,I,I,O,I,O,O,I,I,I,O,O] rfl rfl (any_of HT_.out (by kernel_rfl)) (fun _ _ _ h => h) (Or.inl ⟨by rfl, ?_⟩) ?_ ?_
    rotate_left; (intro w'; go_simp; with_reducible rfl); rotate_left; (simp only [Z]; rfl)
    refine join_ (σ := Value × Value × Value) 3 #[I,I,I,I,I,I,I,O,I,I,I,O,O] (fun s_ => [(33, s_.1), (37, s_.2.1), (39, s_.2.2)]) (fun s_ w' => (Kd.R (Kd.int .i64) 3 w' w0.heap.size (fun k_ => (P0_ k_ ∨ w.heap.size ≤ k_) ∧ some k_ ≠ (s_.2.2 : Value).ownBlock ∧ some k_ ≠ (.slice Ao36 l0.length co36 : Value).ownBlock) s_.2.1 y133) ∧ (Kd.R (Kd.int .i64) 3 w' w0.heap.size (fun k_ => (P0_ k_ ∨ w.heap.size ≤ k_) ∧ some k_ ≠ (s_.2.1 : Value).ownBlock ∧ some k_ ≠ (.slice Ao36 l0.length co36 : Value).ownBlock) s_.2.2 y136) ∧ (Kd.R (Kd.int .i64) 3 w' w0.heap.size (fun k_ => (P0_ k_ ∨ w.heap.size ≤ k_) ∧ some k_ ≠ (s_.2.1 : Value).ownBlock ∧ some k_ ≠ (s_.2.2 : Value).ownBlock) (.slice Ao36 l0.length co36) l0) ∧ (Kept w w' (fun k_ => P0_ k_)) ∧ (Below w0.heap.size w0 w')) ?_ ?_
    rotate_left
    ·intro hCont
     refine two_ (i := 0) (j := 6) (Ni := some 33) (Nj := some 39) #[I,I,I,I,O,I,O,O,I,I,I,O,O] #[O,I,I,I,O,I,I,O,I,I,I,O,O] rfl rfl rfl rfl (two_of HT_.out (by kernel_rfl)) (by decide) (by decide) (fun K hK => ?_) (fun K hK => ?_)
     ·skip
      refine Kd.R_lit_step (Kd.int .i64) _ 3 ?hg (N := 33) ?hd (xs := ([] : List Int)) (inner := []) (ok := fun _ => True) (okp := fun _ => True) ?hr ?hp (fun _ hk => hk) trivial (Below.refl _ _) (Nat.le_refl _) (by simp) ?_; (case hd => rfl); (case hg => rfl); (case hr => first | (go_simp; done) | (go_simp; rfl)); (case hp => exact (Reps.none _ _))
      intro v127 w40 ho41 hb hg_ hnew_
      clear hg_ hnew_
      (first | rw [← Ny126.out] at ho41 | (simp only [Int.reduceToNat] at ho41; rw [← Ny126.out] at ho41))
      have n0_ := Aside0.mk (Kd.R_elder' (by exact Ho.RS <| HO_0.out) (Kd.R_base ho41) hb)
      have n1_ := Aside0.mk (Kd.R_lower (Kd.R_new' (Kd.R_newM (M := fun k_ => (P0_ k_ ∨ w.heap.size ≤ k_)) ho41 (by first | exact HK.out.1 | exact (show Kept w _ (fun k_ => P0_ k_) from by exact Ho.KS HK.out).1) (fun k_ h_ => .inr h_)) (Kd.R_lt (by exact Ho.RS <| HO_0.out))) (below_size (by exact eS HB.out)))
      have n2_ := Aside0.mk (Kd.C_below (by repeat (first | (with_reducible exact HR132.out) | (with_reducible refine Kd.C_alloc ?_ _) | (with_reducible refine Kd.C_drewN ?_ _) | (with_reducible refine Kd.C_drew ?_) | exact HR132.out)) hb)
      have n3_ := Aside0.mk (Kd.C_below (by repeat (first | (with_reducible exact HR145.out) | (with_reducible refine Kd.C_alloc ?_ _) | (with_reducible refine Kd.C_drewN ?_ _) | (with_reducible refine Kd.C_drew ?_) | exact HR145.out)) hb)
      have n4_ := Aside0.mk (Kept.below (S := (fun k_ => P0_ k_)) (by exact Ho.KS HK.out) hb)
      have n5_ := Aside0.mk (below_step (by exact eS HB.out) hb)
      clear HO_0
      clear HR132
      clear HR145
      clear HK
      clear HB
      have HO_0 := n0_
      have HO128 := n1_
      have HR132 := n2_
      have HR145 := n3_
      have HK := n4_
      have HB := n5_
      clear n0_ n1_ n2_ n3_ n4_ n5_
      clear hb ho41
      refine hK.out _ _ trivial (fun hHeld => ?_)
      clear hK K
      refine norm_ (a' := ?_) ?_ ?_
      rotate_left
      ·show Act.put _ (some 33) _ = _
       simp only [Z]
       rfl
      refine two_ (i := 4) (j := 6) (Ni := some 37) (Nj := some 39) #[I,I,I,I,I,I,O,O,I,I,I,O,O] #[I,I,I,I,O,I,I,O,I,I,I,O,O] rfl rfl rfl rfl (two_of HT_.out (by kernel_rfl)) (by decide) (by decide) (fun K hK => ?_) (fun K hK => ?_)
      ·skip
       refine Kd.R_append_rows_step (Kd.int .i64) (w0 := w0) w0.heap.size (by rfl) (.tmp 33) (.tmp 36) 22 3 (.int .i64 0) 8 rfl Try.underlying22 info3 rfl (by decide) (by omega) v127 y126 y129 _ _ _ (fun k_ => (P0_ k_ ∨ w.heap.size ≤ k_) ∧ some k_ ≠ (.slice Ao36 l0.length co36 : Value).ownBlock) (fun _ => False) rfl rfl ?aO ?aR (fun _ _ h => h) (fun _ h => h.elim) ?aF ?aB ?aS ?aL ?_
       (case aR => repeat (first | exact (by repeat (first | (with_reducible exact HR132.out) | (with_reducible refine Kd.C_alloc ?_ _) | (with_reducible refine Kd.C_drewN ?_ _) | (with_reducible refine Kd.C_drew ?_) | exact HR132.out)) | (with_reducible refine Kd.C_alloc ?_ _) | (with_reducible refine Kd.C_drewN ?_ _) | (with_reducible refine Kd.C_drew ?_)))
       (case aB => exact (by exact eS HB.out))
       (case aF => exact (fun k_ hk => ⟨(.inr (Nat.le_trans (by first | exact HK.out.1 | exact (show Kept w _ (fun k_ => P0_ k_) from by exact Ho.KS HK.out).1) hk)), Kd.fresh' (Kd.R_lt (by exact Ho.RS <| HO_0.out)) k_ hk⟩))
       (case aO => exact (by exact Ho.RS <| Kd.R_mono HO128.out (fun _ hk => ⟨hk.1.1, hk.2⟩)))
       (case aS => exact (below_size (by exact eS HB.out)))
       (case aL => have := LMc31.out; omega)
       intro v134 w42 ho hb hg hat
       rw [← Ny133.out] at ho
       have n0_ := Aside0.mk (Kd.R_after (ok := (fun k_ => (P0_ k_ ∨ w.heap.size ≤ k_))) (by exact Ho.RS <| HO_0.out) hg hat)
       have n1_ := Aside0.mk (hb)
       have n2_ := Aside0.mk (Kept.of_grown (S := (fun k_ => P0_ k_)) hg (by exact Ho.KS HK.out) (fun k_ e_ => (HO128.out.1 k_ e_).1.1))
       have n3_ := Aside0.mk ((show Kd.C (Kd.int .i64) w42 Ao36 y129.length y129 from by rw [Ny129.out]; exact Kd.C_take (m := (x5_1 : Int).toNat) ((Kd.R_reads' (Kd.R_after (ok := (fun k_ => (P0_ k_ ∨ w.heap.size ≤ k_))) (by exact Ho.RS <| HO_0.out) hg hat)).2.2) KL38.out))
       have n4_ := Aside0.mk ((show Kd.C (Kd.int .i64) w42 A39 y142.length y142 from by rw [Ny142.out, KA39.out]; exact Kd.C_drop (m := (x5_1 : Int).toNat) (c := co36) ((Kd.R_reads' (Kd.R_after (ok := (fun k_ => (P0_ k_ ∨ w.heap.size ≤ k_))) (by exact Ho.RS <| HO_0.out) hg hat)).2.2) KL39.out ((Kd.R_reads' (Kd.R_after (ok := (fun k_ => (P0_ k_ ∨ w.heap.size ≤ k_))) (by exact Ho.RS <| HO_0.out) hg hat)).2.1)))
       have n5_ := Aside0.mk (ho)
       clear HO_0
       clear HB
       clear HK
       clear HR132
       clear HR145
       clear HO128
       have HO_0 := n0_
       have HB := n1_
       have HK := n2_
       have HR132 := n3_
       have HR145 := n4_
       have HO135 := n5_
       clear n0_ n1_ n2_ n3_ n4_ n5_
       clear ho hb hg hat
       refine hK.out _ _ trivial (fun hHeld => ?_)
       clear hK K
       refine norm_ (a' := ?_) ?_ ?_
       rotate_left
       ·show Act.put _ (some 37) _ = _
        simp only [Z]
        rfl
       refine one_ (i := 6) (N := some 39) #[I,I,I,I,I,I,I,O,I,I,I,O,O] rfl rfl (one_of HT_.out (by kernel_rfl)) (by decide) (fun K hK => ?_)
       refine Kd.R_lit_step (Kd.int .i64) _ 3 ?hg (N := 39) ?hd (xs := ([a1] : List Int)) (inner := [.int .i64 a1]) (ok := fun _ => True) (okp := fun _ => True) ?hr ?hp (fun _ hk => hk) trivial (Below.refl _ _) (Nat.le_refl _) (by simp) ?_; (case hd => rfl); (case hg => rfl); (case hr => first | (go_simp; done) | (go_simp; rfl)); (case hp => exact (Reps.one (show Kd.M (Kd.int .i64) _ _ _ a1 [.int .i64 a1] from rfl) (Reps.none _ _)))
       intro v137 w43 ho44 hb hg_ hnew_
       clear hg_ hnew_
       (first | rw [← Ny136.out] at ho44 | (simp only [Int.reduceToNat] at ho44; rw [← Ny136.out] at ho44))
       have n0_ := Aside0.mk (Kd.R_elder' (by exact Ho.RS <| HO_0.out) (Kd.R_base ho44) hb)
       have n1_ := Aside0.mk (Kd.R_elder' (by exact Ho.RS <| HO135.out) (Kd.R_base ho44) hb)
       have n2_ := Aside0.mk (Kd.R_lower (Kd.R_new' (Kd.R_new' (Kd.R_newM (M := fun k_ => (P0_ k_ ∨ w.heap.size ≤ k_)) ho44 (by first | exact HK.out.1 | exact (show Kept w _ (fun k_ => P0_ k_) from by exact Ho.KS HK.out).1) (fun k_ h_ => .inr h_)) (Kd.R_lt (by exact Ho.RS <| HO_0.out))) (Kd.R_lt (by exact Ho.RS <| HO135.out))) (below_size (by exact eS HB.out)))
       have n3_ := Aside0.mk (Kd.C_below (by repeat (first | (with_reducible exact HR132.out) | (with_reducible refine Kd.C_alloc ?_ _) | (with_reducible refine Kd.C_drewN ?_ _) | (with_reducible refine Kd.C_drew ?_) | exact HR132.out)) hb)
       have n4_ := Aside0.mk (Kd.C_below (by repeat (first | (with_reducible exact HR145.out) | (with_reducible refine Kd.C_alloc ?_ _) | (with_reducible refine Kd.C_drewN ?_ _) | (with_reducible refine Kd.C_drew ?_) | exact HR145.out)) hb)
       have n5_ := Aside0.mk (Kept.below (S := (fun k_ => P0_ k_)) (by exact Ho.KS HK.out) hb)
       have n6_ := Aside0.mk (below_step (by exact eS HB.out) hb)
       clear HO_0
       clear HO135
       clear HR132
       clear HR145
       clear HK
       clear HB
       have HO_0 := n0_
       have HO135 := n1_
       have HO138 := n2_
       have HR132 := n3_
       have HR145 := n4_
       have HK := n5_
       have HB := n6_
       clear n0_ n1_ n2_ n3_ n4_ n5_ n6_
       clear hb ho44
       refine hK.out _ _ trivial (fun hHeld => ?_)
       clear hK K
       refine norm_ (a' := ?_) ?_ ?_
       rotate_left
       ·show Act.put _ (some 39) _ = _
        simp only [Z]
        rfl
       exact norm_ (by simp only [putAll, Act.put, List.setIfInBounds_toArray, List.set_cons_zero, List.set_cons_succ]) (hCont (v127, v134, v137) _ ⟨(by exact Ho.RS <| Kd.R_mono HO135.out (fun _ hk => ⟨hk.1.1, ⟨hk.2, hk.1.2⟩⟩)), (by exact Ho.RS <| Kd.R_mono HO138.out (fun _ hk => ⟨hk.1.1.1, ⟨hk.2, hk.1.2⟩⟩)), (by exact Ho.RS <| Kd.R_mono HO_0.out (fun _ hk => ⟨hk.1.1, ⟨hk.1.2, hk.2⟩⟩)), (by exact Ho.KS HK.out), (by exact eS HB.out)⟩)
      ·skip
       refine Kd.R_lit_step (Kd.int .i64) _ 3 ?hg (N := 39) ?hd (xs := ([a1] : List Int)) (inner := [.int .i64 a1]) (ok := fun _ => True) (okp := fun _ => True) ?hr ?hp (fun _ hk => hk) trivial (Below.refl _ _) (Nat.le_refl _) (by simp) ?_; (case hd => rfl); (case hg => rfl); (case hr => first | (go_simp; done) | (go_simp; rfl)); (case hp => exact (Reps.one (show Kd.M (Kd.int .i64) _ _ _ a1 [.int .i64 a1] from rfl) (Reps.none _ _)))
       intro v137 w42 ho43 hb hg_ hnew_
       clear hg_ hnew_
       (first | rw [← Ny136.out] at ho43 | (simp only [Int.reduceToNat] at ho43; rw [← Ny136.out] at ho43))
       have n0_ := Aside0.mk (Kd.R_elder' (by exact Ho.RS <| HO_0.out) (Kd.R_base ho43) hb)
       have n1_ := Aside0.mk (Kd.R_elder' (by exact Ho.RS <| HO128.out) (Kd.R_base ho43) hb)
       have n2_ := Aside0.mk (Kd.R_lower (Kd.R_new' (Kd.R_new' (Kd.R_newM (M := fun k_ => (P0_ k_ ∨ w.heap.size ≤ k_)) ho43 (by first | exact HK.out.1 | exact (show Kept w _ (fun k_ => P0_ k_) from by exact Ho.KS HK.out).1) (fun k_ h_ => .inr h_)) (Kd.R_lt (by exact Ho.RS <| HO_0.out))) (Kd.R_lt (by exact Ho.RS <| HO128.out))) (below_size (by exact eS HB.out)))
       have n3_ := Aside0.mk (Kd.C_below (by repeat (first | (with_reducible exact HR132.out) | (with_reducible refine Kd.C_alloc ?_ _) | (with_reducible refine Kd.C_drewN ?_ _) | (with_reducible refine Kd.C_drew ?_) | exact HR132.out)) hb)
       have n4_ := Aside0.mk (Kd.C_below (by repeat (first | (with_reducible exact HR145.out) | (with_reducible refine Kd.C_alloc ?_ _) | (with_reducible refine Kd.C_drewN ?_ _) | (with_reducible refine Kd.C_drew ?_) | exact HR145.out)) hb)
       have n5_ := Aside0.mk (Kept.below (S := (fun k_ => P0_ k_)) (by exact Ho.KS HK.out) hb)
       have n6_ := Aside0.mk (below_step (by exact eS HB.out) hb)
       clear HO_0
       clear HO128
       clear HR132
       clear HR145
       clear HK
       clear HB
       have HO_0 := n0_
       have HO128 := n1_
       have HO138 := n2_
       have HR132 := n3_
       have HR145 := n4_
       have HK := n5_
       have HB := n6_
       clear n0_ n1_ n2_ n3_ n4_ n5_ n6_
       clear hb ho43
       refine hK.out _ _ trivial (fun hHeld => ?_)
       clear hK K
       refine norm_ (a' := ?_) ?_ ?_
       rotate_left
       ·show Act.put _ (some 39) _ = _
        simp only [Z]
        rfl
       refine one_ (i := 4) (N := some 37) #[I,I,I,I,I,I,I,O,I,I,I,O,O] rfl rfl (one_of HT_.out (by kernel_rfl)) (by decide) (fun K hK => ?_)
       refine Kd.R_append_rows_step (Kd.int .i64) (w0 := w0) w0.heap.size (by rfl) (.tmp 33) (.tmp 36) 22 3 (.int .i64 0) 8 rfl Try.underlying22 info3 rfl (by decide) (by omega) v127 y126 y129 _ _ _ (fun k_ => (P0_ k_ ∨ w.heap.size ≤ k_) ∧ some k_ ≠ (.slice Ao36 l0.length co36 : Value).ownBlock ∧ some k_ ≠ (v137 : Value).ownBlock) (fun _ => False) rfl rfl ?aO ?aR (fun _ _ h => h) (fun _ h => h.elim) ?aF ?aB ?aS ?aL ?_
       (case aR => repeat (first | exact (by repeat (first | (with_reducible exact HR132.out) | (with_reducible refine Kd.C_alloc ?_ _) | (with_reducible refine Kd.C_drewN ?_ _) | (with_reducible refine Kd.C_drew ?_) | exact HR132.out)) | (with_reducible refine Kd.C_alloc ?_ _) | (with_reducible refine Kd.C_drewN ?_ _) | (with_reducible refine Kd.C_drew ?_)))
       (case aB => exact (by exact eS HB.out))
       (case aF => exact (fun k_ hk => ⟨(.inr (Nat.le_trans (by first | exact HK.out.1 | exact (show Kept w _ (fun k_ => P0_ k_) from by exact Ho.KS HK.out).1) hk)), Kd.fresh' (Kd.R_lt (by exact Ho.RS <| HO_0.out)) k_ hk, Kd.fresh' (Kd.R_lt (by exact Ho.RS <| HO138.out)) k_ hk⟩))
       (case aO => exact (by exact Ho.RS <| Kd.R_mono HO128.out (fun _ hk => ⟨hk.1.1.1, ⟨hk.1.2, hk.2⟩⟩)))
       (case aS => exact (below_size (by exact eS HB.out)))
       (case aL => have := LMc31.out; omega)
       intro v134 w44 ho hb hg hat
       rw [← Ny133.out] at ho
       have n0_ := Aside0.mk (Kd.R_after (ok := (fun k_ => (P0_ k_ ∨ w.heap.size ≤ k_) ∧ some k_ ≠ (v137 : Value).ownBlock)) (by exact Ho.RS <| Kd.R_mono HO_0.out (fun _ hk => ⟨⟨hk.1.1, hk.2⟩, hk.1.2⟩)) hg hat)
       have n1_ := Aside0.mk (Kd.R_after (ok := (fun k_ => (P0_ k_ ∨ w.heap.size ≤ k_) ∧ some k_ ≠ (.slice Ao36 l0.length co36 : Value).ownBlock)) (by exact Ho.RS <| Kd.R_mono HO138.out (fun _ hk => ⟨⟨hk.1.1.1, hk.1.2⟩, hk.2⟩)) hg hat)
       have n2_ := Aside0.mk (hb)
       have n3_ := Aside0.mk (Kept.of_grown (S := (fun k_ => P0_ k_)) hg (by exact Ho.KS HK.out) (fun k_ e_ => (HO128.out.1 k_ e_).1.1.1))
       have n4_ := Aside0.mk ((show Kd.C (Kd.int .i64) w44 Ao36 y129.length y129 from by rw [Ny129.out]; exact Kd.C_take (m := (x5_1 : Int).toNat) ((Kd.R_reads' (Kd.R_after (ok := (fun k_ => (P0_ k_ ∨ w.heap.size ≤ k_) ∧ some k_ ≠ (v137 : Value).ownBlock)) (by exact Ho.RS <| Kd.R_mono HO_0.out (fun _ hk => ⟨⟨hk.1.1, hk.2⟩, hk.1.2⟩)) hg hat)).2.2) KL38.out))
       have n5_ := Aside0.mk ((show Kd.C (Kd.int .i64) w44 A39 y142.length y142 from by rw [Ny142.out, KA39.out]; exact Kd.C_drop (m := (x5_1 : Int).toNat) (c := co36) ((Kd.R_reads' (Kd.R_after (ok := (fun k_ => (P0_ k_ ∨ w.heap.size ≤ k_) ∧ some k_ ≠ (v137 : Value).ownBlock)) (by exact Ho.RS <| Kd.R_mono HO_0.out (fun _ hk => ⟨⟨hk.1.1, hk.2⟩, hk.1.2⟩)) hg hat)).2.2) KL39.out ((Kd.R_reads' (Kd.R_after (ok := (fun k_ => (P0_ k_ ∨ w.heap.size ≤ k_) ∧ some k_ ≠ (v137 : Value).ownBlock)) (by exact Ho.RS <| Kd.R_mono HO_0.out (fun _ hk => ⟨⟨hk.1.1, hk.2⟩, hk.1.2⟩)) hg hat)).2.1)))
       have n6_ := Aside0.mk (ho)
       clear HO_0
       clear HO138
       clear HB
       clear HK
       clear HR132
       clear HR145
       clear HO128
       have HO_0 := n0_
       have HO138 := n1_
       have HB := n2_
       have HK := n3_
       have HR132 := n4_
       have HR145 := n5_
       have HO135 := n6_
       clear n0_ n1_ n2_ n3_ n4_ n5_ n6_
       clear ho hb hg hat
       refine hK.out _ _ trivial (fun hHeld => ?_)
       clear hK K
       refine norm_ (a' := ?_) ?_ ?_
       rotate_left
       ·show Act.put _ (some 37) _ = _
        simp only [Z]
        rfl
       exact norm_ (by simp only [putAll, Act.put, List.setIfInBounds_toArray, List.set_cons_zero, List.set_cons_succ]) (hCont (v127, v134, v137) _ ⟨(by exact Ho.RS <| Kd.R_mono HO135.out (fun _ hk => ⟨hk.1, ⟨hk.2.2, hk.2.1⟩⟩)), (by exact Ho.RS <| Kd.R_mono HO138.out (fun _ hk => ⟨hk.1.1, ⟨hk.2, hk.1.2⟩⟩)), (by exact Ho.RS <| Kd.R_mono HO_0.out (fun _ hk => ⟨hk.1.1, ⟨hk.2, hk.1.2⟩⟩)), (by exact Ho.KS HK.out), (by exact eS HB.out)⟩)
     ·skip
      refine Kd.R_lit_step (Kd.int .i64) _ 3 ?hg (N := 39) ?hd (xs := ([a1] : List Int)) (inner := [.int .i64 a1]) (ok := fun _ => True) (okp := fun _ => True) ?hr ?hp (fun _ hk => hk) trivial (Below.refl _ _) (Nat.le_refl _) (by simp) ?_; (case hd => rfl); (case hg => rfl); (case hr => first | (go_simp; done) | (go_simp; rfl)); (case hp => exact (Reps.one (show Kd.M (Kd.int .i64) _ _ _ a1 [.int .i64 a1] from rfl) (Reps.none _ _)))
      intro v137 w40 ho41 hb hg_ hnew_
      clear hg_ hnew_
      (first | rw [← Ny136.out] at ho41 | (simp only [Int.reduceToNat] at ho41; rw [← Ny136.out] at ho41))
      have n0_ := Aside0.mk (Kd.R_elder' (by exact Ho.RS <| HO_0.out) (Kd.R_base ho41) hb)
      have n1_ := Aside0.mk (Kd.R_lower (Kd.R_new' (Kd.R_newM (M := fun k_ => (P0_ k_ ∨ w.heap.size ≤ k_)) ho41 (by first | exact HK.out.1 | exact (show Kept w _ (fun k_ => P0_ k_) from by exact Ho.KS HK.out).1) (fun k_ h_ => .inr h_)) (Kd.R_lt (by exact Ho.RS <| HO_0.out))) (below_size (by exact eS HB.out)))
      have n2_ := Aside0.mk (Kd.C_below (by repeat (first | (with_reducible exact HR132.out) | (with_reducible refine Kd.C_alloc ?_ _) | (with_reducible refine Kd.C_drewN ?_ _) | (with_reducible refine Kd.C_drew ?_) | exact HR132.out)) hb)
      have n3_ := Aside0.mk (Kd.C_below (by repeat (first | (with_reducible exact HR145.out) | (with_reducible refine Kd.C_alloc ?_ _) | (with_reducible refine Kd.C_drewN ?_ _) | (with_reducible refine Kd.C_drew ?_) | exact HR145.out)) hb)
      have n4_ := Aside0.mk (Kept.below (S := (fun k_ => P0_ k_)) (by exact Ho.KS HK.out) hb)
      have n5_ := Aside0.mk (below_step (by exact eS HB.out) hb)
      clear HO_0
      clear HR132
      clear HR145
      clear HK
      clear HB
      have HO_0 := n0_
      have HO138 := n1_
      have HR132 := n2_
      have HR145 := n3_
      have HK := n4_
      have HB := n5_
      clear n0_ n1_ n2_ n3_ n4_ n5_
      clear hb ho41
      refine hK.out _ _ trivial (fun hHeld => ?_)
      clear hK K
      refine norm_ (a' := ?_) ?_ ?_
      rotate_left
      ·show Act.put _ (some 39) _ = _
       simp only [Z]
       rfl
      refine one_ (i := 0) (N := some 33) #[I,I,I,I,O,I,I,O,I,I,I,O,O] rfl rfl (one_of HT_.out (by kernel_rfl)) (by decide) (fun K hK => ?_)
      refine Kd.R_lit_step (Kd.int .i64) _ 3 ?hg (N := 33) ?hd (xs := ([] : List Int)) (inner := []) (ok := fun _ => True) (okp := fun _ => True) ?hr ?hp (fun _ hk => hk) trivial (Below.refl _ _) (Nat.le_refl _) (by simp) ?_; (case hd => rfl); (case hg => rfl); (case hr => first | (go_simp; done) | (go_simp; rfl)); (case hp => exact (Reps.none _ _))
      intro v127 w42 ho43 hb hg_ hnew_
      clear hg_ hnew_
      (first | rw [← Ny126.out] at ho43 | (simp only [Int.reduceToNat] at ho43; rw [← Ny126.out] at ho43))
      have n0_ := Aside0.mk (Kd.R_elder' (by exact Ho.RS <| HO_0.out) (Kd.R_base ho43) hb)
      have n1_ := Aside0.mk (Kd.R_elder' (by exact Ho.RS <| HO138.out) (Kd.R_base ho43) hb)
      have n2_ := Aside0.mk (Kd.R_lower (Kd.R_new' (Kd.R_new' (Kd.R_newM (M := fun k_ => (P0_ k_ ∨ w.heap.size ≤ k_)) ho43 (by first | exact HK.out.1 | exact (show Kept w _ (fun k_ => P0_ k_) from by exact Ho.KS HK.out).1) (fun k_ h_ => .inr h_)) (Kd.R_lt (by exact Ho.RS <| HO_0.out))) (Kd.R_lt (by exact Ho.RS <| HO138.out))) (below_size (by exact eS HB.out)))
      have n3_ := Aside0.mk (Kd.C_below (by repeat (first | (with_reducible exact HR132.out) | (with_reducible refine Kd.C_alloc ?_ _) | (with_reducible refine Kd.C_drewN ?_ _) | (with_reducible refine Kd.C_drew ?_) | exact HR132.out)) hb)
      have n4_ := Aside0.mk (Kd.C_below (by repeat (first | (with_reducible exact HR145.out) | (with_reducible refine Kd.C_alloc ?_ _) | (with_reducible refine Kd.C_drewN ?_ _) | (with_reducible refine Kd.C_drew ?_) | exact HR145.out)) hb)
      have n5_ := Aside0.mk (Kept.below (S := (fun k_ => P0_ k_)) (by exact Ho.KS HK.out) hb)
      have n6_ := Aside0.mk (below_step (by exact eS HB.out) hb)
      clear HO_0
      clear HO138
      clear HR132
      clear HR145
      clear HK
      clear HB
      have HO_0 := n0_
      have HO138 := n1_
      have HO128 := n2_
      have HR132 := n3_
      have HR145 := n4_
      have HK := n5_
      have HB := n6_
      clear n0_ n1_ n2_ n3_ n4_ n5_ n6_
      clear hb ho43
      refine hK.out _ _ trivial (fun hHeld => ?_)
      clear hK K
      refine norm_ (a' := ?_) ?_ ?_
      rotate_left
      ·show Act.put _ (some 33) _ = _
       simp only [Z]
       rfl
      refine one_ (i := 4) (N := some 37) #[I,I,I,I,I,I,I,O,I,I,I,O,O] rfl rfl (one_of HT_.out (by kernel_rfl)) (by decide) (fun K hK => ?_)
      refine Kd.R_append_rows_step (Kd.int .i64) (w0 := w0) w0.heap.size (by rfl) (.tmp 33) (.tmp 36) 22 3 (.int .i64 0) 8 rfl Try.underlying22 info3 rfl (by decide) (by omega) v127 y126 y129 _ _ _ (fun k_ => (P0_ k_ ∨ w.heap.size ≤ k_) ∧ some k_ ≠ (.slice Ao36 l0.length co36 : Value).ownBlock ∧ some k_ ≠ (v137 : Value).ownBlock) (fun _ => False) rfl rfl ?aO ?aR (fun _ _ h => h) (fun _ h => h.elim) ?aF ?aB ?aS ?aL ?_
      (case aR => repeat (first | exact (by repeat (first | (with_reducible exact HR132.out) | (with_reducible refine Kd.C_alloc ?_ _) | (with_reducible refine Kd.C_drewN ?_ _) | (with_reducible refine Kd.C_drew ?_) | exact HR132.out)) | (with_reducible refine Kd.C_alloc ?_ _) | (with_reducible refine Kd.C_drewN ?_ _) | (with_reducible refine Kd.C_drew ?_)))
      (case aB => exact (by exact eS HB.out))
      (case aF => exact (fun k_ hk => ⟨(.inr (Nat.le_trans (by first | exact HK.out.1 | exact (show Kept w _ (fun k_ => P0_ k_) from by exact Ho.KS HK.out).1) hk)), Kd.fresh' (Kd.R_lt (by exact Ho.RS <| HO_0.out)) k_ hk, Kd.fresh' (Kd.R_lt (by exact Ho.RS <| HO138.out)) k_ hk⟩))
      (case aO => exact (by exact Ho.RS <| Kd.R_mono HO128.out (fun _ hk => ⟨hk.1.1.1, ⟨hk.1.2, hk.2⟩⟩)))
      (case aS => exact (below_size (by exact eS HB.out)))
      (case aL => have := LMc31.out; omega)
      intro v134 w44 ho hb hg hat
      rw [← Ny133.out] at ho
      have n0_ := Aside0.mk (Kd.R_after (ok := (fun k_ => (P0_ k_ ∨ w.heap.size ≤ k_) ∧ some k_ ≠ (v137 : Value).ownBlock)) (by exact Ho.RS <| HO_0.out) hg hat)
      have n1_ := Aside0.mk (Kd.R_after (ok := (fun k_ => (P0_ k_ ∨ w.heap.size ≤ k_) ∧ some k_ ≠ (.slice Ao36 l0.length co36 : Value).ownBlock)) (by exact Ho.RS <| Kd.R_mono HO138.out (fun _ hk => ⟨⟨hk.1.1.1, hk.1.2⟩, hk.2⟩)) hg hat)
      have n2_ := Aside0.mk (hb)
      have n3_ := Aside0.mk (Kept.of_grown (S := (fun k_ => P0_ k_)) hg (by exact Ho.KS HK.out) (fun k_ e_ => (HO128.out.1 k_ e_).1.1.1))
      have n4_ := Aside0.mk ((show Kd.C (Kd.int .i64) w44 Ao36 y129.length y129 from by rw [Ny129.out]; exact Kd.C_take (m := (x5_1 : Int).toNat) ((Kd.R_reads' (Kd.R_after (ok := (fun k_ => (P0_ k_ ∨ w.heap.size ≤ k_) ∧ some k_ ≠ (v137 : Value).ownBlock)) (by exact Ho.RS <| HO_0.out) hg hat)).2.2) KL38.out))
      have n5_ := Aside0.mk ((show Kd.C (Kd.int .i64) w44 A39 y142.length y142 from by rw [Ny142.out, KA39.out]; exact Kd.C_drop (m := (x5_1 : Int).toNat) (c := co36) ((Kd.R_reads' (Kd.R_after (ok := (fun k_ => (P0_ k_ ∨ w.heap.size ≤ k_) ∧ some k_ ≠ (v137 : Value).ownBlock)) (by exact Ho.RS <| HO_0.out) hg hat)).2.2) KL39.out ((Kd.R_reads' (Kd.R_after (ok := (fun k_ => (P0_ k_ ∨ w.heap.size ≤ k_) ∧ some k_ ≠ (v137 : Value).ownBlock)) (by exact Ho.RS <| HO_0.out) hg hat)).2.1)))
      have n6_ := Aside0.mk (ho)
      clear HO_0
      clear HO138
      clear HB
      clear HK
      clear HR132
      clear HR145
      clear HO128
      have HO_0 := n0_
      have HO138 := n1_
      have HB := n2_
      have HK := n3_
      have HR132 := n4_
      have HR145 := n5_
      have HO135 := n6_
      clear n0_ n1_ n2_ n3_ n4_ n5_ n6_
      clear ho hb hg hat
      refine hK.out _ _ trivial (fun hHeld => ?_)
      clear hK K
      refine norm_ (a' := ?_) ?_ ?_
      rotate_left
      ·show Act.put _ (some 37) _ = _
       simp only [Z]
       rfl
      exact norm_ (by simp only [putAll, Act.put, List.setIfInBounds_toArray, List.set_cons_zero, List.set_cons_succ]) (hCont (v127, v134, v137) _ ⟨(by exact Ho.RS <| Kd.R_mono HO135.out (fun _ hk => ⟨hk.1, ⟨hk.2.2, hk.2.1⟩⟩)), (by exact Ho.RS <| Kd.R_mono HO138.out (fun _ hk => ⟨hk.1.1, ⟨hk.2, hk.1.2⟩⟩)), (by exact Ho.RS <| Kd.R_mono HO_0.out (fun _ hk => ⟨hk.1.1, ⟨hk.2, hk.1.2⟩⟩)), (by exact Ho.KS HK.out), (by exact eS HB.out)⟩)
    rintro ⟨v127, v134, v137⟩ w45 ⟨h0_, h1_, h2_, h3_, h4_⟩
    have n0_ : Aside0 (Kd.R (Kd.int .i64) 3 w45 w0.heap.size (fun k_ => (P0_ k_ ∨ w.heap.size ≤ k_) ∧ some k_ ≠ (v137 : Value).ownBlock ∧ some k_ ≠ (.slice Ao36 l0.length co36 : Value).ownBlock) v134 y133) := ⟨h0_⟩
    have n1_ : Aside0 (Kd.R (Kd.int .i64) 3 w45 w0.heap.size (fun k_ => (P0_ k_ ∨ w.heap.size ≤ k_) ∧ some k_ ≠ (v134 : Value).ownBlock ∧ some k_ ≠ (.slice Ao36 l0.length co36 : Value).ownBlock) v137 y136) := ⟨h1_⟩
    have n2_ : Aside0 (Kd.R (Kd.int .i64) 3 w45 w0.heap.size (fun k_ => (P0_ k_ ∨ w.heap.size ≤ k_) ∧ some k_ ≠ (v134 : Value).ownBlock ∧ some k_ ≠ (v137 : Value).ownBlock) (.slice Ao36 l0.length co36) l0) := ⟨h2_⟩
    have n3_ : Aside0 (Kept w w45 (fun k_ => P0_ k_)) := ⟨h3_⟩
    have n4_ : Aside0 (Below w0.heap.size w0 w45) := ⟨h4_⟩
    clear HO_0
    clear HK
    clear HB
    clear h0_ h1_ h2_ h3_ h4_
    have HO135 := n0_
    have HO138 := n1_
    have HO_0 := n2_
    have HK := n3_
    have HB := n4_
    clear n0_ n1_ n2_ n3_ n4_
    have hHeld := trivial
    have HR132 := Aside0.mk (show Kd.C (Kd.int .i64) w45 Ao36 y129.length y129 from by rw [Ny129.out]; exact Kd.C_take (m := (x5_1 : Int).toNat) ((Kd.R_reads' (HO_0.out)).2.2) KL38.out)
    have HR145 := Aside0.mk (show Kd.C (Kd.int .i64) w45 A39 y142.length y142 from by rw [Ny142.out, KA39.out]; exact Kd.C_drop (m := (x5_1 : Int).toNat) (c := co36) ((Kd.R_reads' (HO_0.out)).2.2) KL39.out ((Kd.R_reads' (HO_0.out)).2.1))
    obtain ⟨Ao47, co47, eo47⟩ := Kd.R_slice HO138.out
    (first | subst eo47 | (injection eo47 with f1_ f2_ f3_; have f4_ := f1_.symm; have f5_ := f3_.symm; clear f1_ f2_ f3_; subst f4_; subst f5_))
    refine norm_ (a' := ?_) ?_ ?_
    rotate_left
    ·simp only [putAll, Act.put, List.setIfInBounds_toArray, List.set_cons_zero, List.set_cons_succ]
     rfl
    refine one_ (i := 7) (N := some 40) #[I,I,I,I,I,I,I,I,I,I,I,O,O] rfl rfl (one_of HT_.out (by kernel_rfl)) (by decide) (fun K hK => ?_)
    refine Kd.R_append_rows_step (Kd.int .i64) (w0 := w0) w0.heap.size (by rfl) (.tmp 37) (.tmp 39) 22 3 (.int .i64 0) 8 rfl Try.underlying22 info3 rfl (by decide) (by omega) v134 y133 y136 _ _ _ (fun k_ => (P0_ k_ ∨ w.heap.size ≤ k_) ∧ some k_ ≠ (.slice Ao36 l0.length co36 : Value).ownBlock ∧ some k_ ≠ (.slice Ao47 y136.length co47 : Value).ownBlock) (fun _ => False) rfl rfl ?aO ?aR (fun _ _ h => h) (fun _ h => h.elim) ?aF ?aB ?aS ?aL ?_
    (case aR => repeat (first | exact (Kd.R_reads' HO138.out).2.2 | (with_reducible refine Kd.C_alloc ?_ _) | (with_reducible refine Kd.C_drewN ?_ _) | (with_reducible refine Kd.C_drew ?_)))
    (case aB => exact (by exact eS HB.out))
    (case aF => exact (fun k_ hk => ⟨(.inr (Nat.le_trans (by first | exact HK.out.1 | exact (show Kept w _ (fun k_ => P0_ k_) from by exact Ho.KS HK.out).1) hk)), Kd.fresh' (Kd.R_lt (by exact Ho.RS <| HO_0.out)) k_ hk, Kd.fresh' (Kd.R_lt (by exact Ho.RS <| HO138.out)) k_ hk⟩))
    (case aO => exact (by exact Ho.RS <| Kd.R_mono HO135.out (fun _ hk => ⟨hk.1, ⟨hk.2.2, hk.2.1⟩⟩)))
    (case aS => exact (below_size (by exact eS HB.out)))
    (case aL => have := LMc32.out; omega)
    intro v140 w46 ho hb hg hat
    rw [← Ny139.out] at ho
    have n0_ := Aside0.mk (Kd.R_after (ok := (fun k_ => (P0_ k_ ∨ w.heap.size ≤ k_) ∧ some k_ ≠ (.slice Ao47 y136.length co47 : Value).ownBlock)) (by exact Ho.RS <| Kd.R_mono HO_0.out (fun _ hk => ⟨⟨hk.1, hk.2.2⟩, hk.2.1⟩)) hg hat)
    have n1_ := Aside0.mk (Kd.R_after (ok := (fun k_ => (P0_ k_ ∨ w.heap.size ≤ k_) ∧ some k_ ≠ (.slice Ao36 l0.length co36 : Value).ownBlock)) (by exact Ho.RS <| Kd.R_mono HO138.out (fun _ hk => ⟨⟨hk.1, hk.2.2⟩, hk.2.1⟩)) hg hat)
    have n2_ := Aside0.mk (hb)
    have n3_ := Aside0.mk (Kept.of_grown (S := (fun k_ => P0_ k_)) hg (by exact Ho.KS HK.out) (fun k_ e_ => (HO135.out.1 k_ e_).1))
    have n4_ := Aside0.mk ((show Kd.C (Kd.int .i64) w46 Ao36 y129.length y129 from by rw [Ny129.out]; exact Kd.C_take (m := (x5_1 : Int).toNat) ((Kd.R_reads' (Kd.R_after (ok := (fun k_ => (P0_ k_ ∨ w.heap.size ≤ k_) ∧ some k_ ≠ (.slice Ao47 y136.length co47 : Value).ownBlock)) (by exact Ho.RS <| Kd.R_mono HO_0.out (fun _ hk => ⟨⟨hk.1, hk.2.2⟩, hk.2.1⟩)) hg hat)).2.2) KL38.out))
    have n5_ := Aside0.mk ((show Kd.C (Kd.int .i64) w46 A39 y142.length y142 from by rw [Ny142.out, KA39.out]; exact Kd.C_drop (m := (x5_1 : Int).toNat) (c := co36) ((Kd.R_reads' (Kd.R_after (ok := (fun k_ => (P0_ k_ ∨ w.heap.size ≤ k_) ∧ some k_ ≠ (.slice Ao47 y136.length co47 : Value).ownBlock)) (by exact Ho.RS <| Kd.R_mono HO_0.out (fun _ hk => ⟨⟨hk.1, hk.2.2⟩, hk.2.1⟩)) hg hat)).2.2) KL39.out ((Kd.R_reads' (Kd.R_after (ok := (fun k_ => (P0_ k_ ∨ w.heap.size ≤ k_) ∧ some k_ ≠ (.slice Ao47 y136.length co47 : Value).ownBlock)) (by exact Ho.RS <| Kd.R_mono HO_0.out (fun _ hk => ⟨⟨hk.1, hk.2.2⟩, hk.2.1⟩)) hg hat)).2.1)))
    have n6_ := Aside0.mk (ho)
    clear HO_0
    clear HO138
    clear HB
    clear HK
    clear HR132
    clear HR145
    clear HO135
    have HO_0 := n0_
    have HO138 := n1_
    have HB := n2_
    have HK := n3_
    have HR132 := n4_
    have HR145 := n5_
    have HO141 := n6_
    clear n0_ n1_ n2_ n3_ n4_ n5_ n6_
    clear ho hb hg hat
    refine hK.out _ _ trivial (fun hHeld => ?_)
    clear hK K
    refine norm_ (a' := ?_) ?_ ?_
    rotate_left
    ·show Act.put _ (some 40) _ = _
     simp only [Z]
     rfl
    refine one_ (i := 11) (N := some 44) #[I,I,I,I,I,I,I,I,I,I,I,I,O] rfl rfl (one_of HT_.out (by kernel_rfl)) (by decide) (fun K hK => ?_)
    refine Kd.R_append_rows_step (Kd.int .i64) (w0 := w0) w0.heap.size (by rfl) (.tmp 40) (.tmp 43) 22 3 (.int .i64 0) 8 rfl Try.underlying22 info3 rfl (by decide) (by omega) v140 y139 y142 _ _ _ (fun k_ => (P0_ k_ ∨ w.heap.size ≤ k_) ∧ some k_ ≠ (.slice Ao36 l0.length co36 : Value).ownBlock ∧ some k_ ≠ (.slice Ao47 y136.length co47 : Value).ownBlock) (fun _ => False) rfl rfl ?aO ?aR (fun _ _ h => h) (fun _ h => h.elim) ?aF ?aB ?aS ?aL ?_
    (case aR => repeat (first | exact (by repeat (first | (with_reducible exact HR145.out) | (with_reducible refine Kd.C_alloc ?_ _) | (with_reducible refine Kd.C_drewN ?_ _) | (with_reducible refine Kd.C_drew ?_) | exact HR145.out)) | (with_reducible refine Kd.C_alloc ?_ _) | (with_reducible refine Kd.C_drewN ?_ _) | (with_reducible refine Kd.C_drew ?_)))
    (case aB => exact (by exact eS HB.out))
    (case aF => exact (fun k_ hk => ⟨(.inr (Nat.le_trans (by first | exact HK.out.1 | exact (show Kept w _ (fun k_ => P0_ k_) from by exact Ho.KS HK.out).1) hk)), Kd.fresh' (Kd.R_lt (by exact Ho.RS <| HO_0.out)) k_ hk, Kd.fresh' (Kd.R_lt (by exact Ho.RS <| HO138.out)) k_ hk⟩))
    (case aO => exact (by exact Ho.RS <| HO141.out))
    (case aS => exact (below_size (by exact eS HB.out)))
    (case aL => have := LMc35.out; omega)
    intro v147 w48 ho hb hg hat
    rw [← Ny146.out] at ho
    have n0_ := Aside0.mk (Kd.R_after (ok := (fun k_ => (P0_ k_ ∨ w.heap.size ≤ k_) ∧ some k_ ≠ (.slice Ao47 y136.length co47 : Value).ownBlock)) (by exact Ho.RS <| HO_0.out) hg hat)
    have n1_ := Aside0.mk (Kd.R_after (ok := (fun k_ => (P0_ k_ ∨ w.heap.size ≤ k_) ∧ some k_ ≠ (.slice Ao36 l0.length co36 : Value).ownBlock)) (by exact Ho.RS <| HO138.out) hg hat)
    have n2_ := Aside0.mk (hb)
    have n3_ := Aside0.mk (Kept.of_grown (S := (fun k_ => P0_ k_)) hg (by exact Ho.KS HK.out) (fun k_ e_ => (HO141.out.1 k_ e_).1))
    have n4_ := Aside0.mk ((show Kd.C (Kd.int .i64) w48 Ao36 y129.length y129 from by rw [Ny129.out]; exact Kd.C_take (m := (x5_1 : Int).toNat) ((Kd.R_reads' (Kd.R_after (ok := (fun k_ => (P0_ k_ ∨ w.heap.size ≤ k_) ∧ some k_ ≠ (.slice Ao47 y136.length co47 : Value).ownBlock)) (by exact Ho.RS <| HO_0.out) hg hat)).2.2) KL38.out))
    have n5_ := Aside0.mk ((show Kd.C (Kd.int .i64) w48 A39 y142.length y142 from by rw [Ny142.out, KA39.out]; exact Kd.C_drop (m := (x5_1 : Int).toNat) (c := co36) ((Kd.R_reads' (Kd.R_after (ok := (fun k_ => (P0_ k_ ∨ w.heap.size ≤ k_) ∧ some k_ ≠ (.slice Ao47 y136.length co47 : Value).ownBlock)) (by exact Ho.RS <| HO_0.out) hg hat)).2.2) KL39.out ((Kd.R_reads' (Kd.R_after (ok := (fun k_ => (P0_ k_ ∨ w.heap.size ≤ k_) ∧ some k_ ≠ (.slice Ao47 y136.length co47 : Value).ownBlock)) (by exact Ho.RS <| HO_0.out) hg hat)).2.1)))
    have n6_ := Aside0.mk (ho)
    clear HO_0
    clear HO138
    clear HB
    clear HK
    clear HR132
    clear HR145
    clear HO141
    have HO_0 := n0_
    have HO138 := n1_
    have HB := n2_
    have HK := n3_
    have HR132 := n4_
    have HR145 := n5_
    have HO148 := n6_
    clear n0_ n1_ n2_ n3_ n4_ n5_ n6_
    clear ho hb hg hat
    refine hK.out _ _ trivial (fun hHeld => ?_)
    clear hK K
    refine norm_ (a' := ?_) ?_ ?_
    rotate_left
    ·show Act.put _ (some 44) _ = _
     simp only [Z]
     rfl
    refine pure_ (i := 12) (N := some 4) (v := ?_) (a' := ?_) #[I,I,I,I,I,I,I,I,I,I,I,I,I] rfl rfl (any_of HT_.out (by kernel_rfl)) (fun _ _ _ h => h) (Or.inl ⟨by rfl, ?_⟩) ?_ ?_
    rotate_left; (intro w'; go_simp; with_reducible rfl); rotate_left; (simp only [Z]; rfl)
    refine done_ (done_of HT_.out (by kernel_rfl)) ?_
    try go_wp2
    go_ret
    exact ⟨_, by first | rfl | (simp [errW_none, errW_some] <;> rfl) | (simp [*, errW_none, errW_some] <;> rfl), by exact Ho.RS <| Kd.R_mono HO148.out (fun _ hk => hk.1), by exact eS HB.out, by exact Ho.KS HK.out⟩
   rw [if_pos c3] at H
   have c3b0 : decide (x5_1 < (l0.length : Int)) = true := decide_eq_true c3
   clear c3
   by_cases c4 : 0 ≤ x5_1
   rotate_left
   ·rw [if_neg c4] at H
    exact absurd H (by simp)
   rw [if_pos c4] at H
   have c4b0 : decide (0 ≤ x5_1) = true := decide_eq_true c4
   clear c4
   by_cases c5 : (rd l0 x5_1) < a1
   ·rw [if_pos c5] at H
    have c5b0 : decide ((rd l0 x5_1) < a1) = true := decide_eq_true c5
    clear c5
    have H' := Aside0.mk H
    clear H
    obtain ⟨Ao6, co6, eo6⟩ := Kd.R_slice HO_0.out
    subst eo6
    have p101 : 0 ≤ (x5_1 : Int) := Dz
    have q101 : x5_1 < (l0.length : Int) := Dz
    obtain ⟨ad101, e101, hx101_0⟩ := Kd.at_int (Kd.R_reads' HO_0.out).2.2 x5_1 p101 q101
    cases e101
    replace p101 := eq_true p101
    replace q101 := eq_true q101
    go_wp2
    go_roundg k1
    case measure => have := HK1.out; omega
    case rel => exact ⟨(wrap64 (x5_1 + 1)), (by first | rfl | (simp; done) | (simp [*]; done)), H', ⟨by have := HK1.out; omega⟩, ⟨by exact Ho.RS <| HO_0.out⟩, ⟨by exact Ho.KS HK.out⟩, ⟨by exact eS HB.out⟩⟩
   rw [if_neg c5] at H
   have c5b0 : decide ((rd l0 x5_1) < a1) = false := decide_eq_false c5
   clear c5
   by_cases c7 : (rd l0 x5_1) = a1
   ·rw [if_pos c7] at H
    have c7b0 : ((rd l0 x5_1) == a1) = true := beq_iff_eq.mpr c7
    have c7b1 : ((rd l0 x5_1) != a1) = false := bne_eq_false_iff_eq.mpr c7
    clear c7
    obtain rfl := Option.some.inj H
    obtain ⟨Ao8, co8, eo8⟩ := Kd.R_slice HO_0.out
    subst eo8
    have p101 : 0 ≤ (x5_1 : Int) := Dz
    have q101 : x5_1 < (l0.length : Int) := Dz
    obtain ⟨ad101, e101, hx101_0⟩ := Kd.at_int (Kd.R_reads' HO_0.out).2.2 x5_1 p101 q101
    cases e101
    replace p101 := eq_true p101
    replace q101 := eq_true q101
    have p102 : 0 ≤ (x5_1 : Int) := Dz
    have q102 : x5_1 < (l0.length : Int) := Dz
    obtain ⟨ad102, e102, hx102_0⟩ := Kd.at_int (Kd.R_reads' HO_0.out).2.2 x5_1 p102 q102
    obtain rfl : ad101 = ad102 := (by injection e102)
    replace p102 := eq_true p102
    replace q102 := eq_true q102
    go_wp2
    go_ret
    exact ⟨_, by first | rfl | (simp [errW_none, errW_some] <;> rfl) | (simp [*, errW_none, errW_some] <;> rfl), by exact Ho.RS <| HO_0.out, by exact eS HB.out, by exact Ho.KS HK.out⟩
   rw [if_neg c7] at H
   have c7b0 : ((rd l0 x5_1) == a1) = false := beq_eq_false_iff_ne.mpr c7
   have c7b1 : ((rd l0 x5_1) != a1) = true := bne_iff_ne.mpr c7
   obtain ⟨y103, hy103⟩ : ∃ y_ : List Int, y_ = (([] : List Int)) := ⟨_, rfl⟩
   replace H : (if x5_1 ≤ (l0.length : Int) then ((some (l0.take (x5_1 : Int).toNat : List Int)).bind fun y106 => (if y103.length + y106.length < 17592186044416 then ((some (y103 ++ y106 : List Int)).bind fun y110 => ((some (([a1] : List Int) : List Int)).bind fun y113 => (if y110.length + y113.length < 17592186044416 then ((some (y110 ++ y113 : List Int)).bind fun y116 => ((some (l0.drop (x5_1 : Int).toNat : List Int)).bind fun y119 => (if y116.length + y119.length < 17592186044416 then (some (y116 ++ y119)) else (none)))) else (none)))) else (none))) else (none)) = some r := by first | (rw [hy103]; with_reducible exact H) | (have H2_ := (Option.bind_some _ _).symm.trans H; rw [hy103]; with_reducible exact H2_) | (have H2_ := (Option.bind_some _ _).symm.trans H; with_reducible exact H2_) | with_reducible exact H | (rw [hy103]; exact H) | exact H
   have Ny103 := Aside0.mk hy103
   clear hy103
   have c9b0 := eq_true (Dz : 0 ≤ x5_1)
   by_cases c10 : x5_1 ≤ (l0.length : Int)
   rotate_left
   ·rw [if_neg c10] at H
    exact absurd H (by simp)
   rw [if_pos c10] at H
   have c10b0 := eq_true c10
   have c10b1 : decide (x5_1 ≤ (l0.length : Int)) = true := decide_eq_true c10
   clear c10
   obtain ⟨y106, hy106⟩ : ∃ y_ : List Int, y_ = (l0.take (x5_1 : Int).toNat) := ⟨_, rfl⟩
   replace H : (if y103.length + y106.length < 17592186044416 then ((some (y103 ++ y106 : List Int)).bind fun y110 => ((some (([a1] : List Int) : List Int)).bind fun y113 => (if y110.length + y113.length < 17592186044416 then ((some (y110 ++ y113 : List Int)).bind fun y116 => ((some (l0.drop (x5_1 : Int).toNat : List Int)).bind fun y119 => (if y116.length + y119.length < 17592186044416 then (some (y116 ++ y119)) else (none)))) else (none)))) else (none)) = some r := by first | (rw [hy106]; with_reducible exact H) | (have H2_ := (Option.bind_some _ _).symm.trans H; rw [hy106]; with_reducible exact H2_) | (have H2_ := (Option.bind_some _ _).symm.trans H; with_reducible exact H2_) | with_reducible exact H | (rw [hy106]; exact H) | exact H
   have Ny106 := Aside0.mk hy106
   clear hy106
   by_cases c11 : y103.length + y106.length < 17592186044416
   rotate_left
   ·rw [if_neg c11] at H
    exact absurd H (by simp)
   rw [if_pos c11] at H
   have LMc11 := Aside0.mk c11
   clear c11
   obtain ⟨y110, hy110⟩ : ∃ y_ : List Int, y_ = (y103 ++ y106) := ⟨_, rfl⟩
   replace H : ((some (([a1] : List Int) : List Int)).bind fun y113 => (if y110.length + y113.length < 17592186044416 then ((some (y110 ++ y113 : List Int)).bind fun y116 => ((some (l0.drop (x5_1 : Int).toNat : List Int)).bind fun y119 => (if y116.length + y119.length < 17592186044416 then (some (y116 ++ y119)) else (none)))) else (none))) = some r := by first | (rw [hy110]; with_reducible exact H) | (have H2_ := (Option.bind_some _ _).symm.trans H; rw [hy110]; with_reducible exact H2_) | (have H2_ := (Option.bind_some _ _).symm.trans H; with_reducible exact H2_) | with_reducible exact H | (rw [hy110]; exact H) | exact H
   have Ny110 := Aside0.mk hy110
   clear hy110
   obtain ⟨y113, hy113⟩ : ∃ y_ : List Int, y_ = (([a1] : List Int)) := ⟨_, rfl⟩
   replace H : (if y110.length + y113.length < 17592186044416 then ((some (y110 ++ y113 : List Int)).bind fun y116 => ((some (l0.drop (x5_1 : Int).toNat : List Int)).bind fun y119 => (if y116.length + y119.length < 17592186044416 then (some (y116 ++ y119)) else (none)))) else (none)) = some r := by first | (rw [hy113]; with_reducible exact H) | (have H2_ := (Option.bind_some _ _).symm.trans H; rw [hy113]; with_reducible exact H2_) | (have H2_ := (Option.bind_some _ _).symm.trans H; with_reducible exact H2_) | with_reducible exact H | (rw [hy113]; exact H) | exact H
   have Ny113 := Aside0.mk hy113
   clear hy113
   by_cases c12 : y110.length + y113.length < 17592186044416
   rotate_left
   ·rw [if_neg c12] at H
    exact absurd H (by simp)
   rw [if_pos c12] at H
   have LMc12 := Aside0.mk c12
   clear c12
   obtain ⟨y116, hy116⟩ : ∃ y_ : List Int, y_ = (y110 ++ y113) := ⟨_, rfl⟩
   replace H : ((some (l0.drop (x5_1 : Int).toNat : List Int)).bind fun y119 => (if y116.length + y119.length < 17592186044416 then (some (y116 ++ y119)) else (none))) = some r := by first | (rw [hy116]; with_reducible exact H) | (have H2_ := (Option.bind_some _ _).symm.trans H; rw [hy116]; with_reducible exact H2_) | (have H2_ := (Option.bind_some _ _).symm.trans H; with_reducible exact H2_) | with_reducible exact H | (rw [hy116]; exact H) | exact H
   have Ny116 := Aside0.mk hy116
   clear hy116
   have c13b0 := eq_true (Dz : 0 ≤ x5_1)
   have c14b0 := eq_true (Dz : x5_1 ≤ (l0.length : Int))
   obtain ⟨y119, hy119⟩ : ∃ y_ : List Int, y_ = (l0.drop (x5_1 : Int).toNat) := ⟨_, rfl⟩
   replace H : (if y116.length + y119.length < 17592186044416 then (some (y116 ++ y119)) else (none)) = some r := by first | (rw [hy119]; with_reducible exact H) | (have H2_ := (Option.bind_some _ _).symm.trans H; rw [hy119]; with_reducible exact H2_) | (have H2_ := (Option.bind_some _ _).symm.trans H; with_reducible exact H2_) | with_reducible exact H | (rw [hy119]; exact H) | exact H
   have Ny119 := Aside0.mk hy119
   clear hy119
   by_cases c15 : y116.length + y119.length < 17592186044416
   rotate_left
   ·rw [if_neg c15] at H
    exact absurd H (by simp)
   rw [if_pos c15] at H
   have LMc15 := Aside0.mk c15
   clear c15
   obtain ⟨y123, hy123⟩ : ∃ y_ : List Int, y_ = (y116 ++ y119) := ⟨_, rfl⟩
   replace H : (some y123) = some r := by first | (rw [hy123]; with_reducible exact H) | (have H2_ := (Option.bind_some _ _).symm.trans H; rw [hy123]; with_reducible exact H2_) | (have H2_ := (Option.bind_some _ _).symm.trans H; with_reducible exact H2_) | with_reducible exact H | (rw [hy123]; exact H) | exact H
   have Ny123 := Aside0.mk hy123
   clear hy123
   obtain rfl := Option.some.inj H
   obtain ⟨Ao16, co16, eo16⟩ := Kd.R_slice HO_0.out
   subst eo16
   have p101 : 0 ≤ (x5_1 : Int) := Dz
   have q101 : x5_1 < (l0.length : Int) := Dz
   obtain ⟨ad101, e101, hx101_0⟩ := Kd.at_int (Kd.R_reads' HO_0.out).2.2 x5_1 p101 q101
   cases e101
   replace p101 := eq_true p101
   replace q101 := eq_true q101
   have p102 : 0 ≤ (x5_1 : Int) := Dz
   have q102 : x5_1 < (l0.length : Int) := Dz
   obtain ⟨ad102, e102, hx102_0⟩ := Kd.at_int (Kd.R_reads' HO_0.out).2.2 x5_1 p102 q102
   obtain rfl : ad101 = ad102 := (by injection e102)
   replace p102 := eq_true p102
   replace q102 := eq_true q102
   try go_wp2
   have n0_ := Aside0.mk (Kd.R_drew HO_0.out)
   have n1_ := Aside0.mk (Kept.drew HK.out)
   have n2_ := Aside0.mk (below_drew1 HB.out)
   clear HO_0
   clear HK
   clear HB
   have HO_0 := n0_
   have HK := n1_
   have HB := n2_
   clear n0_ n1_ n2_
   have q18 : (x5_1 : Int) ≤ ((l0.length : Int) : Int) := Dz
   obtain ⟨i018, hi018, _, hsz18, _⟩ := info_parts info3
   have hroom18 : l0.length ≤ co16 := (Kd.R_reads' HO_0.out).2.1
   have hC18 : Kd.C (Kd.int .i64) _ (some ad101) l0.length l0 := (Kd.R_reads' HO_0.out).2.2
   have hcut18 := cut_to (P := Try.prog) 22 3 .i64 Try.underlying22 hi018 (some ad101) l0.length co16 x5_1 Dz q18 hroom18
   have hr18 := Kd.C_take (m := (x5_1 : Int).toNat) hC18 (by omega)
   have hy18 : y106.length = (x5_1 : Int).toNat := (by rw [Ny106.out, List.length_take]; omega)
   rw [← Ny106.out] at hr18
   rw [← hy18] at hcut18
   have HR109 := Aside0.mk hr18
   have HC109 := Aside0.mk (show y106.length ≤ co16 from by omega)
   clear hr18 hC18 hroom18 hi018 hsz18
   have KY18 := Aside0.mk hy18
   clear hy18
   have KL18 := Aside0.mk (show (x5_1 : Int).toNat ≤ l0.length from by omega)
   replace q18 := eq_true q18
   have q19 : (x5_1 : Int) ≤ ((l0.length : Int) : Int) := Dz
   obtain ⟨i019, hi019, _, hsz19, _⟩ := info_parts info3
   have hroom19 : l0.length ≤ co16 := (Kd.R_reads' HO_0.out).2.1
   have hC19 : Kd.C (Kd.int .i64) _ (some ad101) l0.length l0 := (Kd.R_reads' HO_0.out).2.2
   have q019 : (0 : Int) ≤ (x5_1 : Int) := Dz
   have hcut19 := cut_from (P := Try.prog) 22 3 .i64 Try.underlying22 hi019 1 hsz19 (some ad101) l0.length co16 x5_1 q019 q19
   have hr19 := Kd.C_drop (m := (x5_1 : Int).toNat) (c := co16) hC19 (by omega) hroom19
   obtain ⟨A19, hA19⟩ : ∃ A1, A1 = (if co16 = (x5_1 : Int).toNat then (some ad101) else ((some ad101) : Option Addr).map (·.add ((x5_1 : Int).toNat * 1))) := ⟨_, rfl⟩
   obtain ⟨c19, hc19⟩ : ∃ c1, c1 = co16 - (x5_1 : Int).toNat := ⟨_, rfl⟩
   have hy19 : y119.length = l0.length - (x5_1 : Int).toNat := (by rw [Ny119.out, List.length_drop] <;> omega)
   rw [show (l0).drop (x5_1 : Int).toNat = y119 from Ny119.out.symm] at hr19
   replace hr19 : Kd.C (Kd.int .i64) _ A19 y119.length y119 := (by rw [hA19]; exact hr19)
   rw [← hy19, ← hA19, ← hc19] at hcut19
   have HR122 := Aside0.mk hr19
   have HC122 := Aside0.mk (show y119.length ≤ c19 from by rw [hy19, hc19]; exact Nat.sub_le_sub_right hroom19 _)
   clear hr19 hC19 hroom19 hi019 hsz19 hc19
   have KY19 := Aside0.mk hy19
   have KA19 := Aside0.mk hA19
   clear hy19 hA19
   have KL19 := Aside0.mk (show (x5_1 : Int).toNat ≤ l0.length from by omega)
   replace q19 := eq_true q19
   refine start_ (n := 13) (S := fun w' => True) (ds := []) #[O,O,O,O,O,O,O,O,O,O,O,O,O] (by kernel_rfl) rfl rfl trivial (fun hHeld => ?_); refine with_tabW Fab.tab6 Fab.bits6 (fun HT_ HW_ => ?_)
   generalize wr.drew = w17 at HO_0 HK HB HR109 HR122 hHeld ⊢
   refine pure_ (i := 1) (N := some 34) (v := ?_) (a' := ?_) #[O,I,O,O,O,O,O,O,O,O,O,O,O] rfl rfl (any_of HT_.out (by kernel_rfl)) (fun _ _ _ h => h) (Or.inl ⟨by rfl, ?_⟩) ?_ ?_
   rotate_left; (intro w'; go_simp; with_reducible rfl); rotate_left; (simp only [Z]; rfl)
   refine pure_ (i := 2) (N := some 35) (v := ?_) (a' := ?_) #[O,I,I,O,O,O,O,O,O,O,O,O,O] rfl rfl (any_of HT_.out (by kernel_rfl)) (fun _ _ _ h => h) (Or.inl ⟨by rfl, ?_⟩) ?_ ?_
   rotate_left; (intro w'; go_simp; with_reducible rfl); rotate_left; (simp only [Z]; rfl)
   refine pure_ (i := 3) (N := some 36) (v := ?_) (a' := ?_) #[O,I,I,I,O,O,O,O,O,O,O,O,O] rfl rfl (any_of HT_.out (by kernel_rfl)) (fun _ _ _ h => h) (Or.inl ⟨by rfl, ?_⟩) ?_ ?_
   rotate_left; (intro w'; go_simp; with_reducible rfl); rotate_left; (simp only [Z]; rfl)
   refine pure_ (i := 5) (N := some 38) (v := ?_) (a' := ?_) #[O,I,I,I,O,I,O,O,O,O,O,O,O] rfl rfl (any_of HT_.out (by kernel_rfl)) (fun _ _ _ h => h) (Or.inl ⟨by rfl, ?_⟩) ?_ ?_
   rotate_left; (intro w'; go_simp; with_reducible rfl); rotate_left; (simp only [Z]; rfl)
   refine pure_ (i := 8) (N := some 41) (v := ?_) (a' := ?_) #[O,I,I,I,O,I,O,O,I,O,O,O,O] rfl rfl (any_of HT_.out (by kernel_rfl)) (fun _ _ _ h => h) (Or.inl ⟨by rfl, ?_⟩) ?_ ?_
   rotate_left; (intro w'; go_simp; with_reducible rfl); rotate_left; (simp only [Z]; rfl)
   refine pure_ (i := 9) (N := some 42) (v := ?_) (a' := ?_) #[O,I,I,I,O,I,O,O,I,I,O,O,O] rfl rfl (any_of HT_.out (by kernel_rfl)) (fun _ _ _ h => h) (Or.inl ⟨by rfl, ?_⟩) ?_ ?_
   rotate_left; (intro w'; go_simp; with_reducible rfl); rotate_left; (simp only [Z]; rfl)
   refine pure_ (i := 10) (N := some 43) (v := ?_) (a' := ?_) #[O,I,I,I,O,I,O,O,I,I,I,O,O] rfl rfl (any_of HT_.out (by kernel_rfl)) (fun _ _ _ h => h) (Or.inl ⟨by rfl, ?_⟩) ?_ ?_
   rotate_left; (intro w'; go_simp; with_reducible rfl); rotate_left; (simp only [Z]; rfl)
   refine join_ (σ := Value × Value × Value) 3 #[I,I,I,I,I,I,I,O,I,I,I,O,O] (fun s_ => [(33, s_.1), (37, s_.2.1), (39, s_.2.2)]) (fun s_ w' => (Kd.R (Kd.int .i64) 3 w' w0.heap.size (fun k_ => (P0_ k_ ∨ w.heap.size ≤ k_) ∧ some k_ ≠ (s_.2.2 : Value).ownBlock ∧ some k_ ≠ (.slice (some ad101) l0.length co16 : Value).ownBlock) s_.2.1 y110) ∧ (Kd.R (Kd.int .i64) 3 w' w0.heap.size (fun k_ => (P0_ k_ ∨ w.heap.size ≤ k_) ∧ some k_ ≠ (s_.2.1 : Value).ownBlock ∧ some k_ ≠ (.slice (some ad101) l0.length co16 : Value).ownBlock) s_.2.2 y113) ∧ (Kd.R (Kd.int .i64) 3 w' w0.heap.size (fun k_ => (P0_ k_ ∨ w.heap.size ≤ k_) ∧ some k_ ≠ (s_.2.1 : Value).ownBlock ∧ some k_ ≠ (s_.2.2 : Value).ownBlock) (.slice (some ad101) l0.length co16) l0) ∧ (Kept w w' (fun k_ => P0_ k_)) ∧ (Below w0.heap.size w0 w')) ?_ ?_
   rotate_left
   ·intro hCont
    refine two_ (i := 0) (j := 6) (Ni := some 33) (Nj := some 39) #[I,I,I,I,O,I,O,O,I,I,I,O,O] #[O,I,I,I,O,I,I,O,I,I,I,O,O] rfl rfl rfl rfl (two_of HT_.out (by kernel_rfl)) (by decide) (by decide) (fun K hK => ?_) (fun K hK => ?_)
    ·skip
     refine Kd.R_lit_step (Kd.int .i64) _ 3 ?hg (N := 33) ?hd (xs := ([] : List Int)) (inner := []) (ok := fun _ => True) (okp := fun _ => True) ?hr ?hp (fun _ hk => hk) trivial (Below.refl _ _) (Nat.le_refl _) (by simp) ?_; (case hd => rfl); (case hg => rfl); (case hr => first | (go_simp; done) | (go_simp; rfl)); (case hp => exact (Reps.none _ _))
     intro v104 w20 ho21 hb hg_ hnew_
     clear hg_ hnew_
     (first | rw [← Ny103.out] at ho21 | (simp only [Int.reduceToNat] at ho21; rw [← Ny103.out] at ho21))
     have n0_ := Aside0.mk (Kd.R_elder' (by exact Ho.RS <| HO_0.out) (Kd.R_base ho21) hb)
     have n1_ := Aside0.mk (Kd.R_lower (Kd.R_new' (Kd.R_newM (M := fun k_ => (P0_ k_ ∨ w.heap.size ≤ k_)) ho21 (by first | exact HK.out.1 | exact (show Kept w _ (fun k_ => P0_ k_) from by exact Ho.KS HK.out).1) (fun k_ h_ => .inr h_)) (Kd.R_lt (by exact Ho.RS <| HO_0.out))) (below_size (by exact eS HB.out)))
     have n2_ := Aside0.mk (Kd.C_below (by repeat (first | (with_reducible exact HR109.out) | (with_reducible refine Kd.C_alloc ?_ _) | (with_reducible refine Kd.C_drewN ?_ _) | (with_reducible refine Kd.C_drew ?_) | exact HR109.out)) hb)
     have n3_ := Aside0.mk (Kd.C_below (by repeat (first | (with_reducible exact HR122.out) | (with_reducible refine Kd.C_alloc ?_ _) | (with_reducible refine Kd.C_drewN ?_ _) | (with_reducible refine Kd.C_drew ?_) | exact HR122.out)) hb)
     have n4_ := Aside0.mk (Kept.below (S := (fun k_ => P0_ k_)) (by exact Ho.KS HK.out) hb)
     have n5_ := Aside0.mk (below_step (by exact eS HB.out) hb)
     clear HO_0
     clear HR109
     clear HR122
     clear HK
     clear HB
     have HO_0 := n0_
     have HO105 := n1_
     have HR109 := n2_
     have HR122 := n3_
     have HK := n4_
     have HB := n5_
     clear n0_ n1_ n2_ n3_ n4_ n5_
     clear hb ho21
     refine hK.out _ _ trivial (fun hHeld => ?_)
     clear hK K
     refine norm_ (a' := ?_) ?_ ?_
     rotate_left
     ·show Act.put _ (some 33) _ = _
      simp only [Z]
      rfl
     refine two_ (i := 4) (j := 6) (Ni := some 37) (Nj := some 39) #[I,I,I,I,I,I,O,O,I,I,I,O,O] #[I,I,I,I,O,I,I,O,I,I,I,O,O] rfl rfl rfl rfl (two_of HT_.out (by kernel_rfl)) (by decide) (by decide) (fun K hK => ?_) (fun K hK => ?_)
     ·skip
      refine Kd.R_append_rows_step (Kd.int .i64) (w0 := w0) w0.heap.size (by rfl) (.tmp 33) (.tmp 36) 22 3 (.int .i64 0) 8 rfl Try.underlying22 info3 rfl (by decide) (by omega) v104 y103 y106 _ _ _ (fun k_ => (P0_ k_ ∨ w.heap.size ≤ k_) ∧ some k_ ≠ (.slice (some ad101) l0.length co16 : Value).ownBlock) (fun _ => False) rfl rfl ?aO ?aR (fun _ _ h => h) (fun _ h => h.elim) ?aF ?aB ?aS ?aL ?_
      (case aR => repeat (first | exact (by repeat (first | (with_reducible exact HR109.out) | (with_reducible refine Kd.C_alloc ?_ _) | (with_reducible refine Kd.C_drewN ?_ _) | (with_reducible refine Kd.C_drew ?_) | exact HR109.out)) | (with_reducible refine Kd.C_alloc ?_ _) | (with_reducible refine Kd.C_drewN ?_ _) | (with_reducible refine Kd.C_drew ?_)))
      (case aB => exact (by exact eS HB.out))
      (case aF => exact (fun k_ hk => ⟨(.inr (Nat.le_trans (by first | exact HK.out.1 | exact (show Kept w _ (fun k_ => P0_ k_) from by exact Ho.KS HK.out).1) hk)), Kd.fresh' (Kd.R_lt (by exact Ho.RS <| HO_0.out)) k_ hk⟩))
      (case aO => exact (by exact Ho.RS <| Kd.R_mono HO105.out (fun _ hk => ⟨hk.1.1, hk.2⟩)))
      (case aS => exact (below_size (by exact eS HB.out)))
      (case aL => have := LMc11.out; omega)
      intro v111 w22 ho hb hg hat
      rw [← Ny110.out] at ho
      have n0_ := Aside0.mk (Kd.R_after (ok := (fun k_ => (P0_ k_ ∨ w.heap.size ≤ k_))) (by exact Ho.RS <| HO_0.out) hg hat)
      have n1_ := Aside0.mk (hb)
      have n2_ := Aside0.mk (Kept.of_grown (S := (fun k_ => P0_ k_)) hg (by exact Ho.KS HK.out) (fun k_ e_ => (HO105.out.1 k_ e_).1.1))
      have n3_ := Aside0.mk ((show Kd.C (Kd.int .i64) w22 (some ad101) y106.length y106 from by rw [Ny106.out]; exact Kd.C_take (m := (x5_1 : Int).toNat) ((Kd.R_reads' (Kd.R_after (ok := (fun k_ => (P0_ k_ ∨ w.heap.size ≤ k_))) (by exact Ho.RS <| HO_0.out) hg hat)).2.2) KL18.out))
      have n4_ := Aside0.mk ((show Kd.C (Kd.int .i64) w22 A19 y119.length y119 from by rw [Ny119.out, KA19.out]; exact Kd.C_drop (m := (x5_1 : Int).toNat) (c := co16) ((Kd.R_reads' (Kd.R_after (ok := (fun k_ => (P0_ k_ ∨ w.heap.size ≤ k_))) (by exact Ho.RS <| HO_0.out) hg hat)).2.2) KL19.out ((Kd.R_reads' (Kd.R_after (ok := (fun k_ => (P0_ k_ ∨ w.heap.size ≤ k_))) (by exact Ho.RS <| HO_0.out) hg hat)).2.1)))
      have n5_ := Aside0.mk (ho)
      clear HO_0
      clear HB
      clear HK
      clear HR109
      clear HR122
      clear HO105
      have HO_0 := n0_
      have HB := n1_
      have HK := n2_
      have HR109 := n3_
      have HR122 := n4_
      have HO112 := n5_
      clear n0_ n1_ n2_ n3_ n4_ n5_
      clear ho hb hg hat
      refine hK.out _ _ trivial (fun hHeld => ?_)
      clear hK K
      refine norm_ (a' := ?_) ?_ ?_
      rotate_left
      ·show Act.put _ (some 37) _ = _
       simp only [Z]
       rfl
      refine one_ (i := 6) (N := some 39) #[I,I,I,I,I,I,I,O,I,I,I,O,O] rfl rfl (one_of HT_.out (by kernel_rfl)) (by decide) (fun K hK => ?_)
      refine Kd.R_lit_step (Kd.int .i64) _ 3 ?hg (N := 39) ?hd (xs := ([a1] : List Int)) (inner := [.int .i64 a1]) (ok := fun _ => True) (okp := fun _ => True) ?hr ?hp (fun _ hk => hk) trivial (Below.refl _ _) (Nat.le_refl _) (by simp) ?_; (case hd => rfl); (case hg => rfl); (case hr => first | (go_simp; done) | (go_simp; rfl)); (case hp => exact (Reps.one (show Kd.M (Kd.int .i64) _ _ _ a1 [.int .i64 a1] from rfl) (Reps.none _ _)))
      intro v114 w23 ho24 hb hg_ hnew_
      clear hg_ hnew_
      (first | rw [← Ny113.out] at ho24 | (simp only [Int.reduceToNat] at ho24; rw [← Ny113.out] at ho24))
      have n0_ := Aside0.mk (Kd.R_elder' (by exact Ho.RS <| HO_0.out) (Kd.R_base ho24) hb)
      have n1_ := Aside0.mk (Kd.R_elder' (by exact Ho.RS <| HO112.out) (Kd.R_base ho24) hb)
      have n2_ := Aside0.mk (Kd.R_lower (Kd.R_new' (Kd.R_new' (Kd.R_newM (M := fun k_ => (P0_ k_ ∨ w.heap.size ≤ k_)) ho24 (by first | exact HK.out.1 | exact (show Kept w _ (fun k_ => P0_ k_) from by exact Ho.KS HK.out).1) (fun k_ h_ => .inr h_)) (Kd.R_lt (by exact Ho.RS <| HO_0.out))) (Kd.R_lt (by exact Ho.RS <| HO112.out))) (below_size (by exact eS HB.out)))
      have n3_ := Aside0.mk (Kd.C_below (by repeat (first | (with_reducible exact HR109.out) | (with_reducible refine Kd.C_alloc ?_ _) | (with_reducible refine Kd.C_drewN ?_ _) | (with_reducible refine Kd.C_drew ?_) | exact HR109.out)) hb)
      have n4_ := Aside0.mk (Kd.C_below (by repeat (first | (with_reducible exact HR122.out) | (with_reducible refine Kd.C_alloc ?_ _) | (with_reducible refine Kd.C_drewN ?_ _) | (with_reducible refine Kd.C_drew ?_) | exact HR122.out)) hb)
      have n5_ := Aside0.mk (Kept.below (S := (fun k_ => P0_ k_)) (by exact Ho.KS HK.out) hb)
      have n6_ := Aside0.mk (below_step (by exact eS HB.out) hb)
      clear HO_0
      clear HO112
      clear HR109
      clear HR122
      clear HK
      clear HB
      have HO_0 := n0_
      have HO112 := n1_
      have HO115 := n2_
      have HR109 := n3_
      have HR122 := n4_
      have HK := n5_
      have HB := n6_
      clear n0_ n1_ n2_ n3_ n4_ n5_ n6_
      clear hb ho24
      refine hK.out _ _ trivial (fun hHeld => ?_)
      clear hK K
      refine norm_ (a' := ?_) ?_ ?_
      rotate_left
      ·show Act.put _ (some 39) _ = _
       simp only [Z]
       rfl
      exact norm_ (by simp only [putAll, Act.put, List.setIfInBounds_toArray, List.set_cons_zero, List.set_cons_succ]) (hCont (v104, v111, v114) _ ⟨(by exact Ho.RS <| Kd.R_mono HO112.out (fun _ hk => ⟨hk.1.1, ⟨hk.2, hk.1.2⟩⟩)), (by exact Ho.RS <| Kd.R_mono HO115.out (fun _ hk => ⟨hk.1.1.1, ⟨hk.2, hk.1.2⟩⟩)), (by exact Ho.RS <| Kd.R_mono HO_0.out (fun _ hk => ⟨hk.1.1, ⟨hk.1.2, hk.2⟩⟩)), (by exact Ho.KS HK.out), (by exact eS HB.out)⟩)
     ·skip
      refine Kd.R_lit_step (Kd.int .i64) _ 3 ?hg (N := 39) ?hd (xs := ([a1] : List Int)) (inner := [.int .i64 a1]) (ok := fun _ => True) (okp := fun _ => True) ?hr ?hp (fun _ hk => hk) trivial (Below.refl _ _) (Nat.le_refl _) (by simp) ?_; (case hd => rfl); (case hg => rfl); (case hr => first | (go_simp; done) | (go_simp; rfl)); (case hp => exact (Reps.one (show Kd.M (Kd.int .i64) _ _ _ a1 [.int .i64 a1] from rfl) (Reps.none _ _)))
      intro v114 w22 ho23 hb hg_ hnew_
      clear hg_ hnew_
      (first | rw [← Ny113.out] at ho23 | (simp only [Int.reduceToNat] at ho23; rw [← Ny113.out] at ho23))
      have n0_ := Aside0.mk (Kd.R_elder' (by exact Ho.RS <| HO_0.out) (Kd.R_base ho23) hb)
      have n1_ := Aside0.mk (Kd.R_elder' (by exact Ho.RS <| HO105.out) (Kd.R_base ho23) hb)
      have n2_ := Aside0.mk (Kd.R_lower (Kd.R_new' (Kd.R_new' (Kd.R_newM (M := fun k_ => (P0_ k_ ∨ w.heap.size ≤ k_)) ho23 (by first | exact HK.out.1 | exact (show Kept w _ (fun k_ => P0_ k_) from by exact Ho.KS HK.out).1) (fun k_ h_ => .inr h_)) (Kd.R_lt (by exact Ho.RS <| HO_0.out))) (Kd.R_lt (by exact Ho.RS <| HO105.out))) (below_size (by exact eS HB.out)))
      have n3_ := Aside0.mk (Kd.C_below (by repeat (first | (with_reducible exact HR109.out) | (with_reducible refine Kd.C_alloc ?_ _) | (with_reducible refine Kd.C_drewN ?_ _) | (with_reducible refine Kd.C_drew ?_) | exact HR109.out)) hb)
      have n4_ := Aside0.mk (Kd.C_below (by repeat (first | (with_reducible exact HR122.out) | (with_reducible refine Kd.C_alloc ?_ _) | (with_reducible refine Kd.C_drewN ?_ _) | (with_reducible refine Kd.C_drew ?_) | exact HR122.out)) hb)
      have n5_ := Aside0.mk (Kept.below (S := (fun k_ => P0_ k_)) (by exact Ho.KS HK.out) hb)
      have n6_ := Aside0.mk (below_step (by exact eS HB.out) hb)
      clear HO_0
      clear HO105
      clear HR109
      clear HR122
      clear HK
      clear HB
      have HO_0 := n0_
      have HO105 := n1_
      have HO115 := n2_
      have HR109 := n3_
      have HR122 := n4_
      have HK := n5_
      have HB := n6_
      clear n0_ n1_ n2_ n3_ n4_ n5_ n6_
      clear hb ho23
      refine hK.out _ _ trivial (fun hHeld => ?_)
      clear hK K
      refine norm_ (a' := ?_) ?_ ?_
      rotate_left
      ·show Act.put _ (some 39) _ = _
       simp only [Z]
       rfl
      refine one_ (i := 4) (N := some 37) #[I,I,I,I,I,I,I,O,I,I,I,O,O] rfl rfl (one_of HT_.out (by kernel_rfl)) (by decide) (fun K hK => ?_)
      refine Kd.R_append_rows_step (Kd.int .i64) (w0 := w0) w0.heap.size (by rfl) (.tmp 33) (.tmp 36) 22 3 (.int .i64 0) 8 rfl Try.underlying22 info3 rfl (by decide) (by omega) v104 y103 y106 _ _ _ (fun k_ => (P0_ k_ ∨ w.heap.size ≤ k_) ∧ some k_ ≠ (.slice (some ad101) l0.length co16 : Value).ownBlock ∧ some k_ ≠ (v114 : Value).ownBlock) (fun _ => False) rfl rfl ?aO ?aR (fun _ _ h => h) (fun _ h => h.elim) ?aF ?aB ?aS ?aL ?_
      (case aR => repeat (first | exact (by repeat (first | (with_reducible exact HR109.out) | (with_reducible refine Kd.C_alloc ?_ _) | (with_reducible refine Kd.C_drewN ?_ _) | (with_reducible refine Kd.C_drew ?_) | exact HR109.out)) | (with_reducible refine Kd.C_alloc ?_ _) | (with_reducible refine Kd.C_drewN ?_ _) | (with_reducible refine Kd.C_drew ?_)))
      (case aB => exact (by exact eS HB.out))
      (case aF => exact (fun k_ hk => ⟨(.inr (Nat.le_trans (by first | exact HK.out.1 | exact (show Kept w _ (fun k_ => P0_ k_) from by exact Ho.KS HK.out).1) hk)), Kd.fresh' (Kd.R_lt (by exact Ho.RS <| HO_0.out)) k_ hk, Kd.fresh' (Kd.R_lt (by exact Ho.RS <| HO115.out)) k_ hk⟩))
      (case aO => exact (by exact Ho.RS <| Kd.R_mono HO105.out (fun _ hk => ⟨hk.1.1.1, ⟨hk.1.2, hk.2⟩⟩)))
      (case aS => exact (below_size (by exact eS HB.out)))
      (case aL => have := LMc11.out; omega)
      intro v111 w24 ho hb hg hat
      rw [← Ny110.out] at ho
      have n0_ := Aside0.mk (Kd.R_after (ok := (fun k_ => (P0_ k_ ∨ w.heap.size ≤ k_) ∧ some k_ ≠ (v114 : Value).ownBlock)) (by exact Ho.RS <| Kd.R_mono HO_0.out (fun _ hk => ⟨⟨hk.1.1, hk.2⟩, hk.1.2⟩)) hg hat)
      have n1_ := Aside0.mk (Kd.R_after (ok := (fun k_ => (P0_ k_ ∨ w.heap.size ≤ k_) ∧ some k_ ≠ (.slice (some ad101) l0.length co16 : Value).ownBlock)) (by exact Ho.RS <| Kd.R_mono HO115.out (fun _ hk => ⟨⟨hk.1.1.1, hk.1.2⟩, hk.2⟩)) hg hat)
      have n2_ := Aside0.mk (hb)
      have n3_ := Aside0.mk (Kept.of_grown (S := (fun k_ => P0_ k_)) hg (by exact Ho.KS HK.out) (fun k_ e_ => (HO105.out.1 k_ e_).1.1.1))
      have n4_ := Aside0.mk ((show Kd.C (Kd.int .i64) w24 (some ad101) y106.length y106 from by rw [Ny106.out]; exact Kd.C_take (m := (x5_1 : Int).toNat) ((Kd.R_reads' (Kd.R_after (ok := (fun k_ => (P0_ k_ ∨ w.heap.size ≤ k_) ∧ some k_ ≠ (v114 : Value).ownBlock)) (by exact Ho.RS <| Kd.R_mono HO_0.out (fun _ hk => ⟨⟨hk.1.1, hk.2⟩, hk.1.2⟩)) hg hat)).2.2) KL18.out))
      have n5_ := Aside0.mk ((show Kd.C (Kd.int .i64) w24 A19 y119.length y119 from by rw [Ny119.out, KA19.out]; exact Kd.C_drop (m := (x5_1 : Int).toNat) (c := co16) ((Kd.R_reads' (Kd.R_after (ok := (fun k_ => (P0_ k_ ∨ w.heap.size ≤ k_) ∧ some k_ ≠ (v114 : Value).ownBlock)) (by exact Ho.RS <| Kd.R_mono HO_0.out (fun _ hk => ⟨⟨hk.1.1, hk.2⟩, hk.1.2⟩)) hg hat)).2.2) KL19.out ((Kd.R_reads' (Kd.R_after (ok := (fun k_ => (P0_ k_ ∨ w.heap.size ≤ k_) ∧ some k_ ≠ (v114 : Value).ownBlock)) (by exact Ho.RS <| Kd.R_mono HO_0.out (fun _ hk => ⟨⟨hk.1.1, hk.2⟩, hk.1.2⟩)) hg hat)).2.1)))
      have n6_ := Aside0.mk (ho)
      clear HO_0
      clear HO115
      clear HB
      clear HK
      clear HR109
      clear HR122
      clear HO105
      have HO_0 := n0_
      have HO115 := n1_
      have HB := n2_
      have HK := n3_
      have HR109 := n4_
      have HR122 := n5_
      have HO112 := n6_
      clear n0_ n1_ n2_ n3_ n4_ n5_ n6_
      clear ho hb hg hat
      refine hK.out _ _ trivial (fun hHeld => ?_)
      clear hK K
      refine norm_ (a' := ?_) ?_ ?_
      rotate_left
      ·show Act.put _ (some 37) _ = _
       simp only [Z]
       rfl
      exact norm_ (by simp only [putAll, Act.put, List.setIfInBounds_toArray, List.set_cons_zero, List.set_cons_succ]) (hCont (v104, v111, v114) _ ⟨(by exact Ho.RS <| Kd.R_mono HO112.out (fun _ hk => ⟨hk.1, ⟨hk.2.2, hk.2.1⟩⟩)), (by exact Ho.RS <| Kd.R_mono HO115.out (fun _ hk => ⟨hk.1.1, ⟨hk.2, hk.1.2⟩⟩)), (by exact Ho.RS <| Kd.R_mono HO_0.out (fun _ hk => ⟨hk.1.1, ⟨hk.2, hk.1.2⟩⟩)), (by exact Ho.KS HK.out), (by exact eS HB.out)⟩)
    ·skip
     refine Kd.R_lit_step (Kd.int .i64) _ 3 ?hg (N := 39) ?hd (xs := ([a1] : List Int)) (inner := [.int .i64 a1]) (ok := fun _ => True) (okp := fun _ => True) ?hr ?hp (fun _ hk => hk) trivial (Below.refl _ _) (Nat.le_refl _) (by simp) ?_; (case hd => rfl); (case hg => rfl); (case hr => first | (go_simp; done) | (go_simp; rfl)); (case hp => exact (Reps.one (show Kd.M (Kd.int .i64) _ _ _ a1 [.int .i64 a1] from rfl) (Reps.none _ _)))
     intro v114 w20 ho21 hb hg_ hnew_
     clear hg_ hnew_
     (first | rw [← Ny113.out] at ho21 | (simp only [Int.reduceToNat] at ho21; rw [← Ny113.out] at ho21))
     have n0_ := Aside0.mk (Kd.R_elder' (by exact Ho.RS <| HO_0.out) (Kd.R_base ho21) hb)
     have n1_ := Aside0.mk (Kd.R_lower (Kd.R_new' (Kd.R_newM (M := fun k_ => (P0_ k_ ∨ w.heap.size ≤ k_)) ho21 (by first | exact HK.out.1 | exact (show Kept w _ (fun k_ => P0_ k_) from by exact Ho.KS HK.out).1) (fun k_ h_ => .inr h_)) (Kd.R_lt (by exact Ho.RS <| HO_0.out))) (below_size (by exact eS HB.out)))
     have n2_ := Aside0.mk (Kd.C_below (by repeat (first | (with_reducible exact HR109.out) | (with_reducible refine Kd.C_alloc ?_ _) | (with_reducible refine Kd.C_drewN ?_ _) | (with_reducible refine Kd.C_drew ?_) | exact HR109.out)) hb)
     have n3_ := Aside0.mk (Kd.C_below (by repeat (first | (with_reducible exact HR122.out) | (with_reducible refine Kd.C_alloc ?_ _) | (with_reducible refine Kd.C_drewN ?_ _) | (with_reducible refine Kd.C_drew ?_) | exact HR122.out)) hb)
     have n4_ := Aside0.mk (Kept.below (S := (fun k_ => P0_ k_)) (by exact Ho.KS HK.out) hb)
     have n5_ := Aside0.mk (below_step (by exact eS HB.out) hb)
     clear HO_0
     clear HR109
     clear HR122
     clear HK
     clear HB
     have HO_0 := n0_
     have HO115 := n1_
     have HR109 := n2_
     have HR122 := n3_
     have HK := n4_
     have HB := n5_
     clear n0_ n1_ n2_ n3_ n4_ n5_
     clear hb ho21
     refine hK.out _ _ trivial (fun hHeld => ?_)
     clear hK K
     refine norm_ (a' := ?_) ?_ ?_
     rotate_left
     ·show Act.put _ (some 39) _ = _
      simp only [Z]
      rfl
     refine one_ (i := 0) (N := some 33) #[I,I,I,I,O,I,I,O,I,I,I,O,O] rfl rfl (one_of HT_.out (by kernel_rfl)) (by decide) (fun K hK => ?_)
     refine Kd.R_lit_step (Kd.int .i64) _ 3 ?hg (N := 33) ?hd (xs := ([] : List Int)) (inner := []) (ok := fun _ => True) (okp := fun _ => True) ?hr ?hp (fun _ hk => hk) trivial (Below.refl _ _) (Nat.le_refl _) (by simp) ?_; (case hd => rfl); (case hg => rfl); (case hr => first | (go_simp; done) | (go_simp; rfl)); (case hp => exact (Reps.none _ _))
     intro v104 w22 ho23 hb hg_ hnew_
     clear hg_ hnew_
     (first | rw [← Ny103.out] at ho23 | (simp only [Int.reduceToNat] at ho23; rw [← Ny103.out] at ho23))
     have n0_ := Aside0.mk (Kd.R_elder' (by exact Ho.RS <| HO_0.out) (Kd.R_base ho23) hb)
     have n1_ := Aside0.mk (Kd.R_elder' (by exact Ho.RS <| HO115.out) (Kd.R_base ho23) hb)
     have n2_ := Aside0.mk (Kd.R_lower (Kd.R_new' (Kd.R_new' (Kd.R_newM (M := fun k_ => (P0_ k_ ∨ w.heap.size ≤ k_)) ho23 (by first | exact HK.out.1 | exact (show Kept w _ (fun k_ => P0_ k_) from by exact Ho.KS HK.out).1) (fun k_ h_ => .inr h_)) (Kd.R_lt (by exact Ho.RS <| HO_0.out))) (Kd.R_lt (by exact Ho.RS <| HO115.out))) (below_size (by exact eS HB.out)))
     have n3_ := Aside0.mk (Kd.C_below (by repeat (first | (with_reducible exact HR109.out) | (with_reducible refine Kd.C_alloc ?_ _) | (with_reducible refine Kd.C_drewN ?_ _) | (with_reducible refine Kd.C_drew ?_) | exact HR109.out)) hb)
     have n4_ := Aside0.mk (Kd.C_below (by repeat (first | (with_reducible exact HR122.out) | (with_reducible refine Kd.C_alloc ?_ _) | (with_reducible refine Kd.C_drewN ?_ _) | (with_reducible refine Kd.C_drew ?_) | exact HR122.out)) hb)
     have n5_ := Aside0.mk (Kept.below (S := (fun k_ => P0_ k_)) (by exact Ho.KS HK.out) hb)
     have n6_ := Aside0.mk (below_step (by exact eS HB.out) hb)
     clear HO_0
     clear HO115
     clear HR109
     clear HR122
     clear HK
     clear HB
     have HO_0 := n0_
     have HO115 := n1_
     have HO105 := n2_
     have HR109 := n3_
     have HR122 := n4_
     have HK := n5_
     have HB := n6_
     clear n0_ n1_ n2_ n3_ n4_ n5_ n6_
     clear hb ho23
     refine hK.out _ _ trivial (fun hHeld => ?_)
     clear hK K
     refine norm_ (a' := ?_) ?_ ?_
     rotate_left
     ·show Act.put _ (some 33) _ = _
      simp only [Z]
      rfl
     refine one_ (i := 4) (N := some 37) #[I,I,I,I,I,I,I,O,I,I,I,O,O] rfl rfl (one_of HT_.out (by kernel_rfl)) (by decide) (fun K hK => ?_)
     refine Kd.R_append_rows_step (Kd.int .i64) (w0 := w0) w0.heap.size (by rfl) (.tmp 33) (.tmp 36) 22 3 (.int .i64 0) 8 rfl Try.underlying22 info3 rfl (by decide) (by omega) v104 y103 y106 _ _ _ (fun k_ => (P0_ k_ ∨ w.heap.size ≤ k_) ∧ some k_ ≠ (.slice (some ad101) l0.length co16 : Value).ownBlock ∧ some k_ ≠ (v114 : Value).ownBlock) (fun _ => False) rfl rfl ?aO ?aR (fun _ _ h => h) (fun _ h => h.elim) ?aF ?aB ?aS ?aL ?_
     (case aR => repeat (first | exact (by repeat (first | (with_reducible exact HR109.out) | (with_reducible refine Kd.C_alloc ?_ _) | (with_reducible refine Kd.C_drewN ?_ _) | (with_reducible refine Kd.C_drew ?_) | exact HR109.out)) | (with_reducible refine Kd.C_alloc ?_ _) | (with_reducible refine Kd.C_drewN ?_ _) | (with_reducible refine Kd.C_drew ?_)))
     (case aB => exact (by exact eS HB.out))
     (case aF => exact (fun k_ hk => ⟨(.inr (Nat.le_trans (by first | exact HK.out.1 | exact (show Kept w _ (fun k_ => P0_ k_) from by exact Ho.KS HK.out).1) hk)), Kd.fresh' (Kd.R_lt (by exact Ho.RS <| HO_0.out)) k_ hk, Kd.fresh' (Kd.R_lt (by exact Ho.RS <| HO115.out)) k_ hk⟩))
     (case aO => exact (by exact Ho.RS <| Kd.R_mono HO105.out (fun _ hk => ⟨hk.1.1.1, ⟨hk.1.2, hk.2⟩⟩)))
     (case aS => exact (below_size (by exact eS HB.out)))
     (case aL => have := LMc11.out; omega)
     intro v111 w24 ho hb hg hat
     rw [← Ny110.out] at ho
     have n0_ := Aside0.mk (Kd.R_after (ok := (fun k_ => (P0_ k_ ∨ w.heap.size ≤ k_) ∧ some k_ ≠ (v114 : Value).ownBlock)) (by exact Ho.RS <| HO_0.out) hg hat)
     have n1_ := Aside0.mk (Kd.R_after (ok := (fun k_ => (P0_ k_ ∨ w.heap.size ≤ k_) ∧ some k_ ≠ (.slice (some ad101) l0.length co16 : Value).ownBlock)) (by exact Ho.RS <| Kd.R_mono HO115.out (fun _ hk => ⟨⟨hk.1.1.1, hk.1.2⟩, hk.2⟩)) hg hat)
     have n2_ := Aside0.mk (hb)
     have n3_ := Aside0.mk (Kept.of_grown (S := (fun k_ => P0_ k_)) hg (by exact Ho.KS HK.out) (fun k_ e_ => (HO105.out.1 k_ e_).1.1.1))
     have n4_ := Aside0.mk ((show Kd.C (Kd.int .i64) w24 (some ad101) y106.length y106 from by rw [Ny106.out]; exact Kd.C_take (m := (x5_1 : Int).toNat) ((Kd.R_reads' (Kd.R_after (ok := (fun k_ => (P0_ k_ ∨ w.heap.size ≤ k_) ∧ some k_ ≠ (v114 : Value).ownBlock)) (by exact Ho.RS <| HO_0.out) hg hat)).2.2) KL18.out))
     have n5_ := Aside0.mk ((show Kd.C (Kd.int .i64) w24 A19 y119.length y119 from by rw [Ny119.out, KA19.out]; exact Kd.C_drop (m := (x5_1 : Int).toNat) (c := co16) ((Kd.R_reads' (Kd.R_after (ok := (fun k_ => (P0_ k_ ∨ w.heap.size ≤ k_) ∧ some k_ ≠ (v114 : Value).ownBlock)) (by exact Ho.RS <| HO_0.out) hg hat)).2.2) KL19.out ((Kd.R_reads' (Kd.R_after (ok := (fun k_ => (P0_ k_ ∨ w.heap.size ≤ k_) ∧ some k_ ≠ (v114 : Value).ownBlock)) (by exact Ho.RS <| HO_0.out) hg hat)).2.1)))
     have n6_ := Aside0.mk (ho)
     clear HO_0
     clear HO115
     clear HB
     clear HK
     clear HR109
     clear HR122
     clear HO105
     have HO_0 := n0_
     have HO115 := n1_
     have HB := n2_
     have HK := n3_
     have HR109 := n4_
     have HR122 := n5_
     have HO112 := n6_
     clear n0_ n1_ n2_ n3_ n4_ n5_ n6_
     clear ho hb hg hat
     refine hK.out _ _ trivial (fun hHeld => ?_)
     clear hK K
     refine norm_ (a' := ?_) ?_ ?_
     rotate_left
     ·show Act.put _ (some 37) _ = _
      simp only [Z]
      rfl
     exact norm_ (by simp only [putAll, Act.put, List.setIfInBounds_toArray, List.set_cons_zero, List.set_cons_succ]) (hCont (v104, v111, v114) _ ⟨(by exact Ho.RS <| Kd.R_mono HO112.out (fun _ hk => ⟨hk.1, ⟨hk.2.2, hk.2.1⟩⟩)), (by exact Ho.RS <| Kd.R_mono HO115.out (fun _ hk => ⟨hk.1.1, ⟨hk.2, hk.1.2⟩⟩)), (by exact Ho.RS <| Kd.R_mono HO_0.out (fun _ hk => ⟨hk.1.1, ⟨hk.2, hk.1.2⟩⟩)), (by exact Ho.KS HK.out), (by exact eS HB.out)⟩)
   rintro ⟨v104, v111, v114⟩ w25 ⟨h0_, h1_, h2_, h3_, h4_⟩
   have n0_ : Aside0 (Kd.R (Kd.int .i64) 3 w25 w0.heap.size (fun k_ => (P0_ k_ ∨ w.heap.size ≤ k_) ∧ some k_ ≠ (v114 : Value).ownBlock ∧ some k_ ≠ (.slice (some ad101) l0.length co16 : Value).ownBlock) v111 y110) := ⟨h0_⟩
   have n1_ : Aside0 (Kd.R (Kd.int .i64) 3 w25 w0.heap.size (fun k_ => (P0_ k_ ∨ w.heap.size ≤ k_) ∧ some k_ ≠ (v111 : Value).ownBlock ∧ some k_ ≠ (.slice (some ad101) l0.length co16 : Value).ownBlock) v114 y113) := ⟨h1_⟩
   have n2_ : Aside0 (Kd.R (Kd.int .i64) 3 w25 w0.heap.size (fun k_ => (P0_ k_ ∨ w.heap.size ≤ k_) ∧ some k_ ≠ (v111 : Value).ownBlock ∧ some k_ ≠ (v114 : Value).ownBlock) (.slice (some ad101) l0.length co16) l0) := ⟨h2_⟩
   have n3_ : Aside0 (Kept w w25 (fun k_ => P0_ k_)) := ⟨h3_⟩
   have n4_ : Aside0 (Below w0.heap.size w0 w25) := ⟨h4_⟩
   clear HO_0
   clear HK
   clear HB
   clear h0_ h1_ h2_ h3_ h4_
   have HO112 := n0_
   have HO115 := n1_
   have HO_0 := n2_
   have HK := n3_
   have HB := n4_
   clear n0_ n1_ n2_ n3_ n4_
   have hHeld := trivial
   have HR109 := Aside0.mk (show Kd.C (Kd.int .i64) w25 (some ad101) y106.length y106 from by rw [Ny106.out]; exact Kd.C_take (m := (x5_1 : Int).toNat) ((Kd.R_reads' (HO_0.out)).2.2) KL18.out)
   have HR122 := Aside0.mk (show Kd.C (Kd.int .i64) w25 A19 y119.length y119 from by rw [Ny119.out, KA19.out]; exact Kd.C_drop (m := (x5_1 : Int).toNat) (c := co16) ((Kd.R_reads' (HO_0.out)).2.2) KL19.out ((Kd.R_reads' (HO_0.out)).2.1))
   obtain ⟨Ao27, co27, eo27⟩ := Kd.R_slice HO115.out
   (first | subst eo27 | (injection eo27 with f1_ f2_ f3_; have f4_ := f1_.symm; have f5_ := f3_.symm; clear f1_ f2_ f3_; subst f4_; subst f5_))
   refine norm_ (a' := ?_) ?_ ?_
   rotate_left
   ·simp only [putAll, Act.put, List.setIfInBounds_toArray, List.set_cons_zero, List.set_cons_succ]
    rfl
   refine one_ (i := 7) (N := some 40) #[I,I,I,I,I,I,I,I,I,I,I,O,O] rfl rfl (one_of HT_.out (by kernel_rfl)) (by decide) (fun K hK => ?_)
   refine Kd.R_append_rows_step (Kd.int .i64) (w0 := w0) w0.heap.size (by rfl) (.tmp 37) (.tmp 39) 22 3 (.int .i64 0) 8 rfl Try.underlying22 info3 rfl (by decide) (by omega) v111 y110 y113 _ _ _ (fun k_ => (P0_ k_ ∨ w.heap.size ≤ k_) ∧ some k_ ≠ (.slice (some ad101) l0.length co16 : Value).ownBlock ∧ some k_ ≠ (.slice Ao27 y113.length co27 : Value).ownBlock) (fun _ => False) rfl rfl ?aO ?aR (fun _ _ h => h) (fun _ h => h.elim) ?aF ?aB ?aS ?aL ?_
   (case aR => repeat (first | exact (Kd.R_reads' HO115.out).2.2 | (with_reducible refine Kd.C_alloc ?_ _) | (with_reducible refine Kd.C_drewN ?_ _) | (with_reducible refine Kd.C_drew ?_)))
   (case aB => exact (by exact eS HB.out))
   (case aF => exact (fun k_ hk => ⟨(.inr (Nat.le_trans (by first | exact HK.out.1 | exact (show Kept w _ (fun k_ => P0_ k_) from by exact Ho.KS HK.out).1) hk)), Kd.fresh' (Kd.R_lt (by exact Ho.RS <| HO_0.out)) k_ hk, Kd.fresh' (Kd.R_lt (by exact Ho.RS <| HO115.out)) k_ hk⟩))
   (case aO => exact (by exact Ho.RS <| Kd.R_mono HO112.out (fun _ hk => ⟨hk.1, ⟨hk.2.2, hk.2.1⟩⟩)))
   (case aS => exact (below_size (by exact eS HB.out)))
   (case aL => have := LMc12.out; omega)
   intro v117 w26 ho hb hg hat
   rw [← Ny116.out] at ho
   have n0_ := Aside0.mk (Kd.R_after (ok := (fun k_ => (P0_ k_ ∨ w.heap.size ≤ k_) ∧ some k_ ≠ (.slice Ao27 y113.length co27 : Value).ownBlock)) (by exact Ho.RS <| Kd.R_mono HO_0.out (fun _ hk => ⟨⟨hk.1, hk.2.2⟩, hk.2.1⟩)) hg hat)
   have n1_ := Aside0.mk (Kd.R_after (ok := (fun k_ => (P0_ k_ ∨ w.heap.size ≤ k_) ∧ some k_ ≠ (.slice (some ad101) l0.length co16 : Value).ownBlock)) (by exact Ho.RS <| Kd.R_mono HO115.out (fun _ hk => ⟨⟨hk.1, hk.2.2⟩, hk.2.1⟩)) hg hat)
   have n2_ := Aside0.mk (hb)
   have n3_ := Aside0.mk (Kept.of_grown (S := (fun k_ => P0_ k_)) hg (by exact Ho.KS HK.out) (fun k_ e_ => (HO112.out.1 k_ e_).1))
   have n4_ := Aside0.mk ((show Kd.C (Kd.int .i64) w26 (some ad101) y106.length y106 from by rw [Ny106.out]; exact Kd.C_take (m := (x5_1 : Int).toNat) ((Kd.R_reads' (Kd.R_after (ok := (fun k_ => (P0_ k_ ∨ w.heap.size ≤ k_) ∧ some k_ ≠ (.slice Ao27 y113.length co27 : Value).ownBlock)) (by exact Ho.RS <| Kd.R_mono HO_0.out (fun _ hk => ⟨⟨hk.1, hk.2.2⟩, hk.2.1⟩)) hg hat)).2.2) KL18.out))
   have n5_ := Aside0.mk ((show Kd.C (Kd.int .i64) w26 A19 y119.length y119 from by rw [Ny119.out, KA19.out]; exact Kd.C_drop (m := (x5_1 : Int).toNat) (c := co16) ((Kd.R_reads' (Kd.R_after (ok := (fun k_ => (P0_ k_ ∨ w.heap.size ≤ k_) ∧ some k_ ≠ (.slice Ao27 y113.length co27 : Value).ownBlock)) (by exact Ho.RS <| Kd.R_mono HO_0.out (fun _ hk => ⟨⟨hk.1, hk.2.2⟩, hk.2.1⟩)) hg hat)).2.2) KL19.out ((Kd.R_reads' (Kd.R_after (ok := (fun k_ => (P0_ k_ ∨ w.heap.size ≤ k_) ∧ some k_ ≠ (.slice Ao27 y113.length co27 : Value).ownBlock)) (by exact Ho.RS <| Kd.R_mono HO_0.out (fun _ hk => ⟨⟨hk.1, hk.2.2⟩, hk.2.1⟩)) hg hat)).2.1)))
   have n6_ := Aside0.mk (ho)
   clear HO_0
   clear HO115
   clear HB
   clear HK
   clear HR109
   clear HR122
   clear HO112
   have HO_0 := n0_
   have HO115 := n1_
   have HB := n2_
   have HK := n3_
   have HR109 := n4_
   have HR122 := n5_
   have HO118 := n6_
   clear n0_ n1_ n2_ n3_ n4_ n5_ n6_
   clear ho hb hg hat
   refine hK.out _ _ trivial (fun hHeld => ?_)
   clear hK K
   refine norm_ (a' := ?_) ?_ ?_
   rotate_left
   ·show Act.put _ (some 40) _ = _
    simp only [Z]
    rfl
   refine one_ (i := 11) (N := some 44) #[I,I,I,I,I,I,I,I,I,I,I,I,O] rfl rfl (one_of HT_.out (by kernel_rfl)) (by decide) (fun K hK => ?_)
   refine Kd.R_append_rows_step (Kd.int .i64) (w0 := w0) w0.heap.size (by rfl) (.tmp 40) (.tmp 43) 22 3 (.int .i64 0) 8 rfl Try.underlying22 info3 rfl (by decide) (by omega) v117 y116 y119 _ _ _ (fun k_ => (P0_ k_ ∨ w.heap.size ≤ k_) ∧ some k_ ≠ (.slice (some ad101) l0.length co16 : Value).ownBlock ∧ some k_ ≠ (.slice Ao27 y113.length co27 : Value).ownBlock) (fun _ => False) rfl rfl ?aO ?aR (fun _ _ h => h) (fun _ h => h.elim) ?aF ?aB ?aS ?aL ?_
   (case aR => repeat (first | exact (by repeat (first | (with_reducible exact HR122.out) | (with_reducible refine Kd.C_alloc ?_ _) | (with_reducible refine Kd.C_drewN ?_ _) | (with_reducible refine Kd.C_drew ?_) | exact HR122.out)) | (with_reducible refine Kd.C_alloc ?_ _) | (with_reducible refine Kd.C_drewN ?_ _) | (with_reducible refine Kd.C_drew ?_)))
   (case aB => exact (by exact eS HB.out))
   (case aF => exact (fun k_ hk => ⟨(.inr (Nat.le_trans (by first | exact HK.out.1 | exact (show Kept w _ (fun k_ => P0_ k_) from by exact Ho.KS HK.out).1) hk)), Kd.fresh' (Kd.R_lt (by exact Ho.RS <| HO_0.out)) k_ hk, Kd.fresh' (Kd.R_lt (by exact Ho.RS <| HO115.out)) k_ hk⟩))
   (case aO => exact (by exact Ho.RS <| HO118.out))
   (case aS => exact (below_size (by exact eS HB.out)))
   (case aL => have := LMc15.out; omega)
   intro v124 w28 ho hb hg hat
   rw [← Ny123.out] at ho
   have n0_ := Aside0.mk (Kd.R_after (ok := (fun k_ => (P0_ k_ ∨ w.heap.size ≤ k_) ∧ some k_ ≠ (.slice Ao27 y113.length co27 : Value).ownBlock)) (by exact Ho.RS <| HO_0.out) hg hat)
   have n1_ := Aside0.mk (Kd.R_after (ok := (fun k_ => (P0_ k_ ∨ w.heap.size ≤ k_) ∧ some k_ ≠ (.slice (some ad101) l0.length co16 : Value).ownBlock)) (by exact Ho.RS <| HO115.out) hg hat)
   have n2_ := Aside0.mk (hb)
   have n3_ := Aside0.mk (Kept.of_grown (S := (fun k_ => P0_ k_)) hg (by exact Ho.KS HK.out) (fun k_ e_ => (HO118.out.1 k_ e_).1))
   have n4_ := Aside0.mk ((show Kd.C (Kd.int .i64) w28 (some ad101) y106.length y106 from by rw [Ny106.out]; exact Kd.C_take (m := (x5_1 : Int).toNat) ((Kd.R_reads' (Kd.R_after (ok := (fun k_ => (P0_ k_ ∨ w.heap.size ≤ k_) ∧ some k_ ≠ (.slice Ao27 y113.length co27 : Value).ownBlock)) (by exact Ho.RS <| HO_0.out) hg hat)).2.2) KL18.out))
   have n5_ := Aside0.mk ((show Kd.C (Kd.int .i64) w28 A19 y119.length y119 from by rw [Ny119.out, KA19.out]; exact Kd.C_drop (m := (x5_1 : Int).toNat) (c := co16) ((Kd.R_reads' (Kd.R_after (ok := (fun k_ => (P0_ k_ ∨ w.heap.size ≤ k_) ∧ some k_ ≠ (.slice Ao27 y113.length co27 : Value).ownBlock)) (by exact Ho.RS <| HO_0.out) hg hat)).2.2) KL19.out ((Kd.R_reads' (Kd.R_after (ok := (fun k_ => (P0_ k_ ∨ w.heap.size ≤ k_) ∧ some k_ ≠ (.slice Ao27 y113.length co27 : Value).ownBlock)) (by exact Ho.RS <| HO_0.out) hg hat)).2.1)))
   have n6_ := Aside0.mk (ho)
   clear HO_0
   clear HO115
   clear HB
   clear HK
   clear HR109
   clear HR122
   clear HO118
   have HO_0 := n0_
   have HO115 := n1_
   have HB := n2_
   have HK := n3_
   have HR109 := n4_
   have HR122 := n5_
   have HO125 := n6_
   clear n0_ n1_ n2_ n3_ n4_ n5_ n6_
   clear ho hb hg hat
   refine hK.out _ _ trivial (fun hHeld => ?_)
   clear hK K
   refine norm_ (a' := ?_) ?_ ?_
   rotate_left
   ·show Act.put _ (some 44) _ = _
    simp only [Z]
    rfl
   refine pure_ (i := 12) (N := some 4) (v := ?_) (a' := ?_) #[I,I,I,I,I,I,I,I,I,I,I,I,I] rfl rfl (any_of HT_.out (by kernel_rfl)) (fun _ _ _ h => h) (Or.inl ⟨by rfl, ?_⟩) ?_ ?_
   rotate_left; (intro w'; go_simp; with_reducible rfl); rotate_left; (simp only [Z]; rfl)
   refine done_ (done_of HT_.out (by kernel_rfl)) ?_
   try go_wp2
   go_ret
   exact ⟨_, by first | rfl | (simp [errW_none, errW_some] <;> rfl) | (simp [*, errW_none, errW_some] <;> rfl), by exact Ho.RS <| Kd.R_mono HO125.out (fun _ hk => hk.1), by exact eS HB.out, by exact Ho.KS HK.out⟩
/-! ### Fw: function 75 -/
def Fw.l0 : Nat → List (S61) → List Int → Int → Option (List Int)
  | 0, _, _, _ => none
  | k + 1, x0, x3, x4 => if x4 < (x0.length : Int) then (if 0 ≤ x4 then ((Fag.f k x3 ((rd_T61 x0 x4).f0)).bind fun t105 => (if t105 = true then (Fw.l0 k x0 x3 (wrap64 (x4 + 1))) else ((Fab.f k x3 ((rd_T61 x0 x4).f0)).bind fun t107 => (Fw.l0 k x0 t107 (wrap64 (x4 + 1)))))) else (none)) else (some x3)
def Fw.f (k : Nat) (l0 : List (S61)) : Option (List Int) := Fw.l0 k l0 (([] : List Int)) 0
theorem Fw.mono_l : ∀ k, (∀ y0 y1 y2, LeO (Fw.l0 k y0 y1 y2) (Fw.l0 (k + 1) y0 y1 y2))
  | 0 => fun _ _ _ r h => by simp [Fw.l0] at h
  | k + 1 => by
    have ih0 := Fw.mono_l k
    · intro y0 y1 y2
      unfold Fw.l0
      repeat' first | (with_reducible first | exact ih0 _ _ _ | exact Fag.mono _ _ _ | exact Fab.mono _ _ _ | exact LeO.refl _ | exact LeO.none _ | refine LeO.ite ?_ ?_ | refine LeO.bind ?_ (fun _ => ?_)) | exact ih0 _ _ _ | exact Fag.mono _ _ _ | exact Fab.mono _ _ _ | exact LeO.none _ | refine LeO.ite ?_ ?_ | refine LeO.bind ?_ (fun _ => ?_)
theorem Fw.mono : ∀ a0 k, LeO (Fw.f k a0) (Fw.f (k + 1) a0) := by
  intro a0 k
  have ih0 := Fw.mono_l k
  unfold Fw.f
  repeat' first | (with_reducible first | exact ih0 _ _ _ | exact Fag.mono _ _ _ | exact Fab.mono _ _ _ | exact LeO.refl _ | exact LeO.none _ | refine LeO.ite ?_ ?_ | refine LeO.bind ?_ (fun _ => ?_)) | exact ih0 _ _ _ | exact Fag.mono _ _ _ | exact Fab.mono _ _ _ | exact LeO.none _ | refine LeO.ite ?_ ?_ | refine LeO.bind ?_ (fun _ => ?_)
set_option maxHeartbeats 8000000 in
set_option maxRecDepth 100000 in
theorem Fw.calls (k : Nat) (A0 : Option Addr) (c0 : Nat) (l0 : List (S61)) (r : List Int) (w : World) (hr0 : Kd.C k61 w A0 l0.length l0) (hc0 : l0.length ≤ c0) (h : Fw.f k l0 = some r) :
  Calls Try.prog 75 #[.slice A0 l0.length c0] w fun e w' => ∃ v0_ : Value, e = .returned (v0_) ∧ Kd.R (Kd.int .i64) 3 w' w.heap.size (fun _ => True) v0_ r ∧ Below w.heap.size w w' := by
 have HR0 := Aside0.mk hr0
 have HC0 := Aside0.mk hc0
 clear hr0 hc0
 have HB := Aside0.mk (Below.refl w.heap.size w)
 have H : (Fw.l0 k l0 (([] : List Int)) 0) = some r := h
 clear h
 obtain ⟨y101, hy101⟩ : ∃ y_ : List Int, y_ = (([] : List Int)) := ⟨_, rfl⟩
 replace H : (Fw.l0 k l0 y101 0) = some r := by first | (rw [hy101]; with_reducible exact H) | (have H2_ := (Option.bind_some _ _).symm.trans H; rw [hy101]; with_reducible exact H2_) | (have H2_ := (Option.bind_some _ _).symm.trans H; with_reducible exact H2_) | with_reducible exact H | (rw [hy101]; exact H) | exact H
 have Ny101 := Aside0.mk hy101
 clear hy101
 have H' := Aside0.mk H
 clear H
 go_enter Try.func75, Try.ntmps75
 go_wp2_with (first | ((with_reducible refine gate_dst (N := 5) rfl ?_); refine Kd.R_lit (Kd.int .i64) _ 3 ?hg (N := 5) ?hd (xs := ([] : List Int)) (inner := []) (ok := fun _ => True) (okp := fun _ => True) ?hr ?hp (fun _ hk => hk) trivial (Below.refl _ _) (Nat.le_refl _) (by simp) ?_; (case hd => rfl); (case hg => rfl); (case hr => first | (go_simp; done) | (go_simp; rfl)); (case hp => exact (Reps.none _ _)); intro v102 w2 ho3 hb hg_ hnew_; clear hg_ hnew_; (first | rw [← Ny101.out] at ho3 | (simp only [Int.reduceToNat] at ho3; rw [← Ny101.out] at ho3)); have n0_ := Aside0.mk (Kd.R_lower ho3 (below_size (by exact eS HB.out))); have n1_ := Aside0.mk (below_step (by exact eS HB.out) hb); clear HB; have HO103 := n0_; have HB := n1_; clear n0_ n1_; clear hb ho3))
 go_loopg [3, 4] k (fun kq v3 v4 w' => ∃ (x3_1 : List Int) (x4_1 : Int), v4 = .int .i64 x4_1 ∧ Aside0 (Fw.l0 kq l0 x3_1 x4_1 = some r) ∧ Aside0 (kq ≤ k) ∧ Aside0 (Kd.R (Kd.int .i64) 3 w' w.heap.size (fun _ => True) v3 x3_1) ∧ Aside0 (Below w.heap.size w w'))
 case atStart => exact ⟨(y101), (0), (by first | rfl | (simp; done) | (simp [*]; done)), H', ⟨Nat.le_refl _⟩, ⟨by exact Ho.RS <| HO103.out⟩, ⟨by exact eS HB.out⟩⟩
 case round =>
  clear H'
  try clear p2
  obtain ⟨x3_1, x4_1, rfl, HA, HK1, HO_3, HB⟩ := hrel
  cases gk with
  | zero => exact absurd HA.out (by simp [Fw.l0])
  | succ k1 =>
   have H := HA.out
   clear HA
   simp only [Fw.l0] at H
   by_cases c4 : x4_1 < (l0.length : Int)
   rotate_left
   ·rw [if_neg c4] at H
    have c4b0 : decide (x4_1 < (l0.length : Int)) = false := decide_eq_false c4
    clear c4
    obtain rfl := Option.some.inj H
    go_wp2
    go_ret
    exact ⟨_, by first | rfl | (simp [errW_none, errW_some] <;> rfl) | (simp [*, errW_none, errW_some] <;> rfl), by exact Ho.RS <| HO_3.out, by exact eS HB.out⟩
   rw [if_pos c4] at H
   have c4b0 : decide (x4_1 < (l0.length : Int)) = true := decide_eq_true c4
   clear c4
   by_cases c5 : 0 ≤ x4_1
   rotate_left
   ·rw [if_neg c5] at H
    exact absurd H (by simp)
   rw [if_pos c5] at H
   have c5b0 : decide (0 ≤ x4_1) = true := decide_eq_true c5
   clear c5
   replace H := Option.bind_eq_some_iff.mp H
   obtain ⟨t105, A60, H⟩ := H
   (try dsimp only at H)
   have A6 := Aside0.mk A60
   clear A60
   by_cases c7 : t105 = true
   ·subst c7
    have H1 : (Fw.l0 k1 l0 x3_1 (wrap64 (x4_1 + 1))) = some r := by rw [if_pos rfl] at H; exact H
    clear H
    have H := H1
    clear H1
    have H' := Aside0.mk H
    clear H
    have p104 : 0 ≤ (x4_1 : Int) := of_decide_eq_true (by first | (with_reducible assumption) | assumption)
    have q104 : x4_1 < (l0.length : Int) := of_decide_eq_true (by first | (with_reducible assumption) | assumption)
    obtain ⟨ad104, e104, hx104_0, hx104_1, hx104_2, hx104_3, hx104_4⟩ := at_T61 HR0.out x4_1 p104 q104
    cases e104
    replace hx104_0 := Sq.cB HB.out hx104_0
    replace hx104_1 := Sq.cB HB.out hx104_1
    replace hx104_2 := Sq.cB HB.out hx104_2
    replace hx104_3 := Sq.cB HB.out hx104_3
    replace hx104_4 := Sq.cB HB.out hx104_4
    replace p104 := eq_true p104
    replace q104 := eq_true q104
    obtain ⟨Ao8, co8, eo8⟩ := Kd.R_slice HO_3.out
    subst eo8
    go_wp2_with (first | ((with_reducible refine gate_callee (f := 103) rfl ?_); refine goesL_ (some 18) rfl rfl Try.func103 (by kernel_rfl) rfl #[.slice Ao8 x3_1.length co8, .int .i64 ((rd_T61 l0 x4_1).f0)] rfl (by (try simp only [List.map_toArray, List.map_cons, List.map_nil]); first | done | rfl | (simp only [List.length_drop, List.length_take]; rfl)) ?_; (with_reducible refine (Fag.calls k1 _ _ x3_1 ((rd_T61 l0 x4_1).f0) true _ ?side1 ?side2 A6.out).mono ?_); (case side1 => repeat (first | exact (Kd.R_reads' HO_3.out).2.2 | (with_reducible refine Kd.C_alloc ?_ _) | (with_reducible refine Kd.C_drewN ?_ _) | (with_reducible refine Kd.C_drew ?_))); (case side2 => exact (Kd.R_reads' HO_3.out).2.1); rintro e w' ⟨rfl, ⟨nd, rfl⟩⟩; refine ⟨_, rfl, ?_⟩))
    go_roundg k1
    case measure => have := HK1.out; omega
    case rel => exact ⟨(x3_1), (wrap64 (x4_1 + 1)), (by first | rfl | (simp; done) | (simp [*]; done)), H', ⟨by have := HK1.out; omega⟩, ⟨by exact Ho.RS <| HO_3.out⟩, ⟨by exact eS HB.out⟩⟩
   replace c7 := Bool.eq_false_iff.mpr c7
   subst c7
   have H1 : ((Fab.f k1 x3_1 ((rd_T61 l0 x4_1).f0)).bind fun t107 => (Fw.l0 k1 l0 t107 (wrap64 (x4_1 + 1)))) = some r := by rw [if_neg (show ¬ (false = true) by decide)] at H; exact H
   clear H
   have H := H1
   clear H1
   replace H := Option.bind_eq_some_iff.mp H
   obtain ⟨t107, A90, H⟩ := H
   (try dsimp only at H)
   have A9 := Aside0.mk A90
   clear A90
   have H' := Aside0.mk H
   clear H
   have p104 : 0 ≤ (x4_1 : Int) := of_decide_eq_true (by first | (with_reducible assumption) | assumption)
   have q104 : x4_1 < (l0.length : Int) := of_decide_eq_true (by first | (with_reducible assumption) | assumption)
   obtain ⟨ad104, e104, hx104_0, hx104_1, hx104_2, hx104_3, hx104_4⟩ := at_T61 HR0.out x4_1 p104 q104
   cases e104
   replace hx104_0 := Sq.cB HB.out hx104_0
   replace hx104_1 := Sq.cB HB.out hx104_1
   replace hx104_2 := Sq.cB HB.out hx104_2
   replace hx104_3 := Sq.cB HB.out hx104_3
   replace hx104_4 := Sq.cB HB.out hx104_4
   replace p104 := eq_true p104
   replace q104 := eq_true q104
   obtain ⟨Ao10, co10, eo10⟩ := Kd.R_slice HO_3.out
   subst eo10
   go_wp2_with (first | ((with_reducible refine gate_callee (f := 103) rfl ?_); refine goesL_ (some 18) rfl rfl Try.func103 (by kernel_rfl) rfl #[.slice Ao10 x3_1.length co10, .int .i64 ((rd_T61 l0 x4_1).f0)] rfl (by (try simp only [List.map_toArray, List.map_cons, List.map_nil]); first | done | rfl | (simp only [List.length_drop, List.length_take]; rfl)) ?_; (with_reducible refine (Fag.calls k1 _ _ x3_1 ((rd_T61 l0 x4_1).f0) false _ ?side1 ?side2 A6.out).mono ?_); (case side1 => repeat (first | exact (Kd.R_reads' HO_3.out).2.2 | (with_reducible refine Kd.C_alloc ?_ _) | (with_reducible refine Kd.C_drewN ?_ _) | (with_reducible refine Kd.C_drew ?_))); (case side2 => exact (Kd.R_reads' HO_3.out).2.1); rintro e w' ⟨rfl, ⟨nd, rfl⟩⟩; refine ⟨_, rfl, ?_⟩; have p106 : 0 ≤ (x4_1 : Int) := of_decide_eq_true (by first | (with_reducible assumption) | assumption); have q106 : x4_1 < (l0.length : Int) := of_decide_eq_true (by first | (with_reducible assumption) | assumption); obtain ⟨ad106, e106, hx106_0, hx106_1, hx106_2, hx106_3, hx106_4⟩ := at_T61 HR0.out x4_1 p106 q106; obtain rfl : ad104 = ad106 := (by injection e106); replace hx106_0 := Sq.cB HB.out hx106_0; replace hx106_1 := Sq.cB HB.out hx106_1; replace hx106_2 := Sq.cB HB.out hx106_2; replace hx106_3 := Sq.cB HB.out hx106_3; replace hx106_4 := Sq.cB HB.out hx106_4; replace p106 := eq_true p106; replace q106 := eq_true q106) | ((with_reducible refine gate_callee (f := 104) rfl ?_); refine goesL_ (some 26) rfl rfl Try.func104 (by kernel_rfl) rfl #[.slice Ao10 x3_1.length co10, .int .i64 ((rd_T61 l0 x4_1).f0)] rfl (by (try simp only [List.map_toArray, List.map_cons, List.map_nil]); first | done | rfl | (simp only [List.length_drop, List.length_take]; rfl)) ?_; (with_reducible refine (Fab.calls k1 (fun k_ => some k_ = (.slice Ao10 x3_1.length co10 : Value).ownBlock) (.slice Ao10 x3_1.length co10) x3_1 ((rd_T61 l0 x4_1).f0) t107 w _ ?side1 ?side2 A9.out).mono ?_); (case side1 => exact eS HB.out); (case side2 => exact Kd.R_tight rfl HO_3.out); rintro e w11 ⟨v108, rfl, ho0, hb, hkp⟩; refine ⟨_, rfl, ?_⟩; have n0_ := Aside0.mk (Kd.R_mono (ok' := fun k_ => True) ho0 (fun k_ hk_ => trivial)); have n1_ := Aside0.mk (hb); clear HB; clear HO_3; have HO109 := n0_; have HB := n1_; clear n0_ n1_; (try clear hb); (try clear hkp); (try clear ho0)))
   go_roundg k1
   case measure => have := HK1.out; omega
   case rel => exact ⟨(t107), (wrap64 (x4_1 + 1)), (by first | rfl | (simp; done) | (simp [*]; done)), H', ⟨by have := HK1.out; omega⟩, ⟨by exact Ho.RS <| HO109.out⟩, ⟨by exact eS HB.out⟩⟩
open Sq (I O Z Dz)
/-! ### Fe: function 37 -/
mutual
def Fe.l0 : Nat → List (S61) → List Int → List Int → Int → Option (List Int × Bool)
  | 0, _, _, _, _ => none
  | k + 1, x0, x4, x5, x6 => if x6 < (x5.length : Int) then (if 0 ≤ x6 then ((Fy.f k x0 (rd x5 x6)).bind fun bt109 => (Fe.l1 k x0 x4 x5 x6 bt109.1 bt109.2 (x4.length : Int))) else (none)) else (some (x4, true))
def Fe.l1 : Nat → List (S61) → List Int → List Int → Int → Int → Int → Int → Option (List Int × Bool)
  | 0, _, _, _, _, _, _, _ => none
  | k + 1, x0, x4, x5, x6, x7, x8, x9 => if x9 > 0 then (if 0 ≤ (wrap64 (x9 - 1)) then (if (wrap64 (x9 - 1)) < (x4.length : Int) then ((Fy.f k x0 (rd x4 (wrap64 (x9 - 1)))).bind fun bt112 => (if (wrap64 (bt112.1 * x8)) ≤ (wrap64 (x7 * bt112.2)) then ((some (([] : List Int) : List Int)).bind fun y114 => (if 0 ≤ x9 then (if x9 ≤ (x4.length : Int) then ((some (x4.take (x9 : Int).toNat : List Int)).bind fun y117 => (if y114.length + y117.length < 17592186044416 then ((some (y114 ++ y117 : List Int)).bind fun y121 => (if 0 ≤ x6 then (if x6 < (x5.length : Int) then ((some (([rd x5 x6] : List Int) : List Int)).bind fun y125 => (if y121.length + y125.length < 17592186044416 then ((some (y121 ++ y125 : List Int)).bind fun y128 => ((some (x4.drop (x9 : Int).toNat : List Int)).bind fun y131 => (if y128.length + y131.length < 17592186044416 then (Fe.l0 k x0 (y128 ++ y131) x5 (wrap64 (x6 + 1))) else (none)))) else (none))) else (none)) else (none))) else (none))) else (none)) else (none))) else (Fe.l1 k x0 x4 x5 x6 x7 x8 (wrap64 (x9 - 1))))) else (none)) else (none)) else ((some (([] : List Int) : List Int)).bind fun y138 => (if 0 ≤ x9 then (if x9 ≤ (x4.length : Int) then ((some (x4.take (x9 : Int).toNat : List Int)).bind fun y141 => (if y138.length + y141.length < 17592186044416 then ((some (y138 ++ y141 : List Int)).bind fun y145 => (if 0 ≤ x6 then (if x6 < (x5.length : Int) then ((some (([rd x5 x6] : List Int) : List Int)).bind fun y149 => (if y145.length + y149.length < 17592186044416 then ((some (y145 ++ y149 : List Int)).bind fun y152 => ((some (x4.drop (x9 : Int).toNat : List Int)).bind fun y155 => (if y152.length + y155.length < 17592186044416 then (Fe.l0 k x0 (y152 ++ y155) x5 (wrap64 (x6 + 1))) else (none)))) else (none))) else (none)) else (none))) else (none))) else (none)) else (none)))
end
def Fe.f (k : Nat) (l0 : List (S61)) : Option (List Int × Bool) := (some (([] : List Int) : List Int)).bind fun y101 => ((Fk.f k l0).bind fun t104 => (if t104 = true then ((Fw.f k l0).bind fun t105 => (Fe.l0 k l0 y101 t105 0)) else (some (y101, false))))
theorem Fe.mono_l : ∀ k, (∀ y0 y1 y2 y3, LeO (Fe.l0 k y0 y1 y2 y3) (Fe.l0 (k + 1) y0 y1 y2 y3)) ∧ (∀ y0 y1 y2 y3 y4 y5 y6, LeO (Fe.l1 k y0 y1 y2 y3 y4 y5 y6) (Fe.l1 (k + 1) y0 y1 y2 y3 y4 y5 y6))
  | 0 => ⟨fun _ _ _ _ r h => by simp [Fe.l0] at h, fun _ _ _ _ _ _ _ r h => by simp [Fe.l1] at h⟩
  | k + 1 => by
    obtain ⟨ih0, ih1⟩ := Fe.mono_l k
    refine ⟨?_, ?_⟩
    · intro y0 y1 y2 y3
      unfold Fe.l0
      repeat' first | (with_reducible first | exact ih0 _ _ _ _ | exact ih1 _ _ _ _ _ _ _ | exact Fy.mono _ _ _ | exact Fk.mono _ _ | exact Fw.mono _ _ | exact LeO.refl _ | exact LeO.none _ | refine LeO.ite ?_ ?_ | refine LeO.bind ?_ (fun _ => ?_)) | exact ih0 _ _ _ _ | exact ih1 _ _ _ _ _ _ _ | exact Fy.mono _ _ _ | exact Fk.mono _ _ | exact Fw.mono _ _ | exact LeO.none _ | refine LeO.ite ?_ ?_ | refine LeO.bind ?_ (fun _ => ?_)
    · intro y0 y1 y2 y3 y4 y5 y6
      unfold Fe.l1
      repeat' first | (with_reducible first | exact ih0 _ _ _ _ | exact ih1 _ _ _ _ _ _ _ | exact Fy.mono _ _ _ | exact Fk.mono _ _ | exact Fw.mono _ _ | exact LeO.refl _ | exact LeO.none _ | refine LeO.ite ?_ ?_ | refine LeO.bind ?_ (fun _ => ?_)) | exact ih0 _ _ _ _ | exact ih1 _ _ _ _ _ _ _ | exact Fy.mono _ _ _ | exact Fk.mono _ _ | exact Fw.mono _ _ | exact LeO.none _ | refine LeO.ite ?_ ?_ | refine LeO.bind ?_ (fun _ => ?_)
theorem Fe.mono : ∀ a0 k, LeO (Fe.f k a0) (Fe.f (k + 1) a0) := by
  intro a0 k
  obtain ⟨ih0, ih1⟩ := Fe.mono_l k
  unfold Fe.f
  repeat' first | (with_reducible first | exact ih0 _ _ _ _ | exact ih1 _ _ _ _ _ _ _ | exact Fy.mono _ _ _ | exact Fk.mono _ _ | exact Fw.mono _ _ | exact LeO.refl _ | exact LeO.none _ | refine LeO.ite ?_ ?_ | refine LeO.bind ?_ (fun _ => ?_)) | exact ih0 _ _ _ _ | exact ih1 _ _ _ _ _ _ _ | exact Fy.mono _ _ _ | exact Fk.mono _ _ | exact Fw.mono _ _ | exact LeO.none _ | refine LeO.ite ?_ ?_ | refine LeO.bind ?_ (fun _ => ?_)
def Fe.T14 : Bool × List (List Nat × List Nat) := (true, [([], []), ([], []), ([], []), ([1, 2], [1, 2]), ([0, 3], [0, 3]), ([], []), ([], []), ([5, 6], [5, 6]), ([7], [7]), ([8], [8]), ([4, 9, 4], [4, 9]), ([], []), ([], []), ([11, 12], [11, 12]), ([10, 13, 10], [10, 13]), ([14, 14, 0, 1, 2, 3, 4, 5, 6, 7, 8, 9, 10, 11, 12, 13, 14], [1, 11, 14])])
def Fe.B14 : List Nat := [0, 0, 0, 6, 15, 0, 0, 96, 224, 480, 1023, 0, 0, 6144, 16383, 32767]
theorem Fe.tab14 : rtab .any (opsOf Try.f37 14) = Fe.T14 := by kernel_rfl
theorem Fe.bits14 : waitsOk Fe.T14.2 Fe.B14 = true := by kernel_rfl
set_option maxHeartbeats 8000000 in
set_option maxRecDepth 100000 in
theorem Fe.calls (k : Nat) (A0 : Option Addr) (c0 : Nat) (l0 : List (S61)) (r1 : List Int) (r2 : Bool) (w : World) (hr0 : Kd.C k61 w A0 l0.length l0) (hc0 : l0.length ≤ c0) (h : Fe.f k l0 = some (r1, r2)) :
  Calls Try.prog 37 #[.slice A0 l0.length c0] w fun e w' => ∃ v0_ : Value, e = .returned (.tuple #[v0_, .bool r2]) ∧ Kd.R (Kd.int .i64) 3 w' w.heap.size (fun _ => True) v0_ r1 ∧ Below w.heap.size w w' := by
 have HR0 := Aside0.mk hr0
 have HC0 := Aside0.mk hc0
 clear hr0 hc0
 have HB := Aside0.mk (Below.refl w.heap.size w)
 have H : ((some (([] : List Int) : List Int)).bind fun y101 => ((Fk.f k l0).bind fun t104 => (if t104 = true then ((Fw.f k l0).bind fun t105 => (Fe.l0 k l0 y101 t105 0)) else (some (y101, false))))) = some (r1, r2) := h
 clear h
 obtain ⟨y101, hy101⟩ : ∃ y_ : List Int, y_ = (([] : List Int)) := ⟨_, rfl⟩
 replace H : ((Fk.f k l0).bind fun t104 => (if t104 = true then ((Fw.f k l0).bind fun t105 => (Fe.l0 k l0 y101 t105 0)) else (some (y101, false)))) = some (r1, r2) := by first | (rw [hy101]; with_reducible exact H) | (have H2_ := (Option.bind_some _ _).symm.trans H; rw [hy101]; with_reducible exact H2_) | (have H2_ := (Option.bind_some _ _).symm.trans H; with_reducible exact H2_) | with_reducible exact H | (rw [hy101]; exact H) | exact H
 have Ny101 := Aside0.mk hy101
 clear hy101
 replace H := Option.bind_eq_some_iff.mp H
 obtain ⟨t104, A20, H⟩ := H
 (try dsimp only at H)
 have A2 := Aside0.mk A20
 clear A20
 by_cases c3 : t104 = true
 rotate_left
 ·replace c3 := Bool.eq_false_iff.mpr c3
  subst c3
  have H1 : (some (y101, false)) = some (r1, r2) := by rw [if_neg (show ¬ (false = true) by decide)] at H; exact H
  clear H
  have H := H1
  clear H1
  simp only [Option.some.injEq, Prod.mk.injEq] at H
  obtain ⟨rfl, rfl⟩ := H
  go_enter Try.func37, Try.ntmps37
  go_wp2_with (first | ((with_reducible refine gate_dst (N := 12) rfl ?_); refine Kd.R_lit (Kd.int .i64) _ 3 ?hg (N := 12) ?hd (xs := ([] : List Int)) (inner := []) (ok := fun _ => True) (okp := fun _ => True) ?hr ?hp (fun _ hk => hk) trivial (Below.refl _ _) (Nat.le_refl _) (by simp) ?_; (case hd => rfl); (case hg => rfl); (case hr => first | (go_simp; done) | (go_simp; rfl)); (case hp => exact (Reps.none _ _)); intro v102 w63 ho64 hb hg_ hnew_; clear hg_ hnew_; (first | rw [← Ny101.out] at ho64 | (simp only [Int.reduceToNat] at ho64; rw [← Ny101.out] at ho64)); have n0_ := Aside0.mk (Kd.R_lower ho64 (below_size (by exact eS HB.out))); have n1_ := Aside0.mk (below_step (by exact eS HB.out) hb); clear HB; have HO103 := n0_; have HB := n1_; clear n0_ n1_; clear hb ho64) | ((with_reducible refine gate_callee (f := 74) rfl ?_); refine goesL_ (some 14) rfl rfl Try.func74 (by kernel_rfl) rfl #[.slice A0 l0.length c0] rfl (by (try simp only [List.map_toArray, List.map_cons, List.map_nil]); first | done | rfl | (simp only [List.length_drop, List.length_take]; rfl)) ?_; (with_reducible refine (Fk.calls k _ _ l0 false _ ?side1 ?side2 A2.out).mono ?_); (case side1 => repeat (first | exact (Kd.C_below HR0.out HB.out) | (with_reducible refine Kd.C_alloc ?_ _) | (with_reducible refine Kd.C_drewN ?_ _) | (with_reducible refine Kd.C_drew ?_))); (case side2 => exact HC0.out); rintro e w65 ⟨rfl, hb⟩; refine ⟨_, rfl, ?_⟩; have n0_ := Aside0.mk (Kd.R_below (by exact Ho.RS <| HO103.out) hb); have n1_ := Aside0.mk (below_step (by exact eS HB.out) hb); clear HO103; clear HB; have HO103 := n0_; have HB := n1_; clear n0_ n1_; (try clear hb); (try clear hb2); (try clear hk); (try clear hi)))
  go_ret2
  exact ⟨_, by first | rfl | (simp [errW_none, errW_some] <;> rfl) | (simp [*, errW_none, errW_some] <;> rfl), by exact Ho.RS <| HO103.out, by exact eS HB.out⟩
 subst c3
 have H1 : ((Fw.f k l0).bind fun t105 => (Fe.l0 k l0 y101 t105 0)) = some (r1, r2) := by rw [if_pos rfl] at H; exact H
 clear H
 have H := H1
 clear H1
 replace H := Option.bind_eq_some_iff.mp H
 obtain ⟨t105, A40, H⟩ := H
 (try dsimp only at H)
 have A4 := Aside0.mk A40
 clear A40
 have H' := Aside0.mk H
 clear H
 go_enter Try.func37, Try.ntmps37
 go_wp2_with (first | ((with_reducible refine gate_dst (N := 12) rfl ?_); refine Kd.R_lit (Kd.int .i64) _ 3 ?hg (N := 12) ?hd (xs := ([] : List Int)) (inner := []) (ok := fun _ => True) (okp := fun _ => True) ?hr ?hp (fun _ hk => hk) trivial (Below.refl _ _) (Nat.le_refl _) (by simp) ?_; (case hd => rfl); (case hg => rfl); (case hr => first | (go_simp; done) | (go_simp; rfl)); (case hp => exact (Reps.none _ _)); intro v102 w5 ho6 hb hg_ hnew_; clear hg_ hnew_; (first | rw [← Ny101.out] at ho6 | (simp only [Int.reduceToNat] at ho6; rw [← Ny101.out] at ho6)); have n0_ := Aside0.mk (Kd.R_lower ho6 (below_size (by exact eS HB.out))); have n1_ := Aside0.mk (below_step (by exact eS HB.out) hb); clear HB; have HO103 := n0_; have HB := n1_; clear n0_ n1_; clear hb ho6) | ((with_reducible refine gate_callee (f := 74) rfl ?_); refine goesL_ (some 14) rfl rfl Try.func74 (by kernel_rfl) rfl #[.slice A0 l0.length c0] rfl (by (try simp only [List.map_toArray, List.map_cons, List.map_nil]); first | done | rfl | (simp only [List.length_drop, List.length_take]; rfl)) ?_; (with_reducible refine (Fk.calls k _ _ l0 true _ ?side1 ?side2 A2.out).mono ?_); (case side1 => repeat (first | exact (Kd.C_below HR0.out HB.out) | (with_reducible refine Kd.C_alloc ?_ _) | (with_reducible refine Kd.C_drewN ?_ _) | (with_reducible refine Kd.C_drew ?_))); (case side2 => exact HC0.out); rintro e w7 ⟨rfl, hb⟩; refine ⟨_, rfl, ?_⟩; have n0_ := Aside0.mk (Kd.R_below (by exact Ho.RS <| HO103.out) hb); have n1_ := Aside0.mk (below_step (by exact eS HB.out) hb); clear HO103; clear HB; have HO103 := n0_; have HB := n1_; clear n0_ n1_; (try clear hb); (try clear hb2); (try clear hk); (try clear hi)) | ((with_reducible refine gate_callee (f := 75) rfl ?_); refine goesL_ (some 18) rfl rfl Try.func75 (by kernel_rfl) rfl #[.slice A0 l0.length c0] rfl (by (try simp only [List.map_toArray, List.map_cons, List.map_nil]); first | done | rfl | (simp only [List.length_drop, List.length_take]; rfl)) ?_; (with_reducible refine (Fw.calls k _ _ l0 t105 _ ?side1 ?side2 A4.out).mono ?_); (case side1 => repeat (first | exact (Kd.C_below HR0.out HB.out) | (with_reducible refine Kd.C_alloc ?_ _) | (with_reducible refine Kd.C_drewN ?_ _) | (with_reducible refine Kd.C_drew ?_))); (case side2 => exact HC0.out); rintro e w8 ⟨v106, rfl, ho0, hb⟩; refine ⟨_, rfl, ?_⟩; have n0_ := Aside0.mk (Kd.R_elder' (by exact Ho.RS <| HO103.out) (Kd.R_base ho0) hb); have n1_ := Aside0.mk (Kd.R_lower (Kd.R_new' ho0 (Kd.R_lt (by exact Ho.RS <| HO103.out))) (below_size (by exact eS HB.out))); have n2_ := Aside0.mk (below_step (by exact eS HB.out) hb); clear HO103; clear HB; have HO103 := n0_; have HO107 := n1_; have HB := n2_; clear n0_ n1_ n2_; (try clear hb); (try clear hb2); (try clear hk); (try clear hi); (try clear ho0)))
 go_loopg [4, 6] k (fun kq v4 v6 w' => ∃ (x4_1 : List Int) (x6_1 : Int), v6 = .int .i64 x6_1 ∧ Aside0 (Fe.l0 kq l0 x4_1 t105 x6_1 = some (r1, r2)) ∧ Aside0 (kq ≤ k) ∧ Aside0 (Kd.R (Kd.int .i64) 3 w' w.heap.size (fun k_ => some k_ ≠ (v106 : Value).ownBlock) v4 x4_1) ∧ Aside0 (Kd.R (Kd.int .i64) 3 w' w.heap.size (fun k_ => some k_ ≠ (v4 : Value).ownBlock) v106 t105) ∧ Aside0 (Below w.heap.size w w'))
 case atStart => exact ⟨(y101), (0), (by first | rfl | (simp; done) | (simp [*]; done)), H', ⟨Nat.le_refl _⟩, ⟨by exact Ho.RS <| Kd.R_mono HO103.out (fun _ hk => hk.2)⟩, ⟨by exact Ho.RS <| Kd.R_mono HO107.out (fun _ hk => hk.2)⟩, ⟨by exact eS HB.out⟩⟩
 case round =>
  clear H'
  try clear p2
  try clear c3
  try clear c7
  obtain ⟨x4_1, x6_1, rfl, HA, HK1, HO_4, HO_5, HB⟩ := hrel
  cases gk with
  | zero => exact absurd HA.out (by simp [Fe.l0])
  | succ k1 =>
   have H := HA.out
   clear HA
   simp only [Fe.l0] at H
   by_cases c9 : x6_1 < (t105.length : Int)
   rotate_left
   ·rw [if_neg c9] at H
    have c9b0 : decide (x6_1 < (t105.length : Int)) = false := decide_eq_false c9
    clear c9
    simp only [Option.some.injEq, Prod.mk.injEq] at H
    obtain ⟨rfl, rfl⟩ := H
    obtain ⟨Ao62, co62, eo62⟩ := Kd.R_slice HO_5.out
    subst eo62
    go_wp2
    go_ret2
    exact ⟨_, by first | rfl | (simp [errW_none, errW_some] <;> rfl) | (simp [*, errW_none, errW_some] <;> rfl), by exact Ho.RS <| Kd.R_mono HO_4.out (fun _ hk => trivial), by exact eS HB.out⟩
   rw [if_pos c9] at H
   have c9b0 : decide (x6_1 < (t105.length : Int)) = true := decide_eq_true c9
   clear c9
   by_cases c10 : 0 ≤ x6_1
   rotate_left
   ·rw [if_neg c10] at H
    exact absurd H (by simp)
   rw [if_pos c10] at H
   have c10b0 : decide (0 ≤ x6_1) = true := decide_eq_true c10
   clear c10
   replace H := Option.bind_eq_some_iff.mp H
   obtain ⟨⟨t109, t110⟩, A110, H⟩ := H
   (try dsimp only at H)
   have A11 := Aside0.mk A110
   clear A110
   have H' := Aside0.mk H
   clear H
   obtain ⟨Ao12, co12, eo12⟩ := Kd.R_slice HO_5.out
   subst eo12
   have p108 : 0 ≤ (x6_1 : Int) := Dz
   have q108 : x6_1 < (t105.length : Int) := Dz
   obtain ⟨ad108, e108, hx108_0⟩ := Kd.at_int (Kd.R_reads' HO_5.out).2.2 x6_1 p108 q108
   cases e108
   replace p108 := eq_true p108
   replace q108 := eq_true q108
   go_wp2_with (first | ((with_reducible refine gate_callee (f := 76) rfl ?_); refine goesL_ (some 31) rfl rfl Try.func76 (by kernel_rfl) rfl #[.slice A0 l0.length c0, .int .i64 (rd t105 x6_1)] rfl (by (try simp only [List.map_toArray, List.map_cons, List.map_nil]); first | done | rfl | (simp only [List.length_drop, List.length_take]; rfl)) ?_; (with_reducible refine (Fy.calls k1 _ _ l0 (rd t105 x6_1) t109 t110 _ ?side1 ?side2 A11.out).mono ?_); (case side1 => repeat (first | exact (Kd.C_below HR0.out HB.out) | (with_reducible refine Kd.C_alloc ?_ _) | (with_reducible refine Kd.C_drewN ?_ _) | (with_reducible refine Kd.C_drew ?_))); (case side2 => exact HC0.out); rintro e w' ⟨rfl, ⟨nd, rfl⟩⟩; refine ⟨_, rfl, ?_⟩; obtain ⟨Ao13, co13, eo13⟩ := Kd.R_slice HO_4.out; subst eo13))
   go_loopg [9] k1 (fun kq v9 w' => ∃ (x9_2 : Int), v9 = .int .i64 x9_2 ∧ Aside0 (Fe.l1 kq l0 x4_1 t105 x6_1 t109 t110 x9_2 = some (r1, r2)) ∧ Aside0 (kq ≤ k1) ∧ Aside0 (Kd.R (Kd.int .i64) 3 w' w.heap.size (fun k_ => some k_ ≠ ((.slice (some ad108) t105.length co12) : Value).ownBlock) (.slice Ao13 x4_1.length co13) x4_1) ∧ Aside0 (Kd.R (Kd.int .i64) 3 w' w.heap.size (fun k_ => some k_ ≠ ((.slice Ao13 x4_1.length co13) : Value).ownBlock) (.slice (some ad108) t105.length co12) t105) ∧ Aside0 (Below w.heap.size w w'))
   case atStart => exact ⟨((x4_1.length : Int)), (by first | rfl | (simp; done) | (simp [*]; done)), H', ⟨Nat.le_refl _⟩, ⟨by exact Ho.RS <| HO_4.out⟩, ⟨by exact Ho.RS <| HO_5.out⟩, ⟨by exact eS HB.out⟩⟩
   case round =>
    clear H'
    try clear c1
    try clear p1
    try clear q1
    try clear hx1
    try clear p2
    try clear c3
    try clear c7
    try clear c9
    try clear c9b0
    try clear c10
    try clear c10b0
    try clear p10
    try clear q10
    try clear hx10
    try clear hx108_0
    try clear p108
    try clear p2
    try clear q108
    obtain ⟨x9_2, rfl, HA, HK2, HO_4, HO_5, HB⟩ := hrel
    cases gk with
    | zero => exact absurd HA.out (by simp [Fe.l1])
    | succ k2 =>
     have H := HA.out
     clear HA
     simp only [Fe.l1] at H
     by_cases c14 : x9_2 > 0
     rotate_left
     ·rw [if_neg c14] at H
      have c14b0 : decide (0 < x9_2) = false := decide_eq_false c14
      clear c14
      obtain ⟨y138, hy138⟩ : ∃ y_ : List Int, y_ = (([] : List Int)) := ⟨_, rfl⟩
      replace H : (if 0 ≤ x9_2 then (if x9_2 ≤ (x4_1.length : Int) then ((some (x4_1.take (x9_2 : Int).toNat : List Int)).bind fun y141 => (if y138.length + y141.length < 17592186044416 then ((some (y138 ++ y141 : List Int)).bind fun y145 => (if 0 ≤ x6_1 then (if x6_1 < (t105.length : Int) then ((some (([rd t105 x6_1] : List Int) : List Int)).bind fun y149 => (if y145.length + y149.length < 17592186044416 then ((some (y145 ++ y149 : List Int)).bind fun y152 => ((some (x4_1.drop (x9_2 : Int).toNat : List Int)).bind fun y155 => (if y152.length + y155.length < 17592186044416 then (Fe.l0 k2 l0 (y152 ++ y155) t105 (wrap64 (x6_1 + 1))) else (none)))) else (none))) else (none)) else (none))) else (none))) else (none)) else (none)) = some (r1, r2) := by first | (rw [hy138]; with_reducible exact H) | (have H2_ := (Option.bind_some _ _).symm.trans H; rw [hy138]; with_reducible exact H2_) | (have H2_ := (Option.bind_some _ _).symm.trans H; with_reducible exact H2_) | with_reducible exact H | (rw [hy138]; exact H) | exact H
      have Ny138 := Aside0.mk hy138
      clear hy138
      by_cases c41 : 0 ≤ x9_2
      rotate_left
      ·rw [if_neg c41] at H
       exact absurd H (by simp)
      rw [if_pos c41] at H
      have c41b0 := eq_true c41
      have c41b1 : decide (0 ≤ x9_2) = true := decide_eq_true c41
      clear c41
      by_cases c42 : x9_2 ≤ (x4_1.length : Int)
      rotate_left
      ·rw [if_neg c42] at H
       exact absurd H (by simp)
      rw [if_pos c42] at H
      have c42b0 := eq_true c42
      have c42b1 : decide (x9_2 ≤ (x4_1.length : Int)) = true := decide_eq_true c42
      clear c42
      obtain ⟨y141, hy141⟩ : ∃ y_ : List Int, y_ = (x4_1.take (x9_2 : Int).toNat) := ⟨_, rfl⟩
      replace H : (if y138.length + y141.length < 17592186044416 then ((some (y138 ++ y141 : List Int)).bind fun y145 => (if 0 ≤ x6_1 then (if x6_1 < (t105.length : Int) then ((some (([rd t105 x6_1] : List Int) : List Int)).bind fun y149 => (if y145.length + y149.length < 17592186044416 then ((some (y145 ++ y149 : List Int)).bind fun y152 => ((some (x4_1.drop (x9_2 : Int).toNat : List Int)).bind fun y155 => (if y152.length + y155.length < 17592186044416 then (Fe.l0 k2 l0 (y152 ++ y155) t105 (wrap64 (x6_1 + 1))) else (none)))) else (none))) else (none)) else (none))) else (none)) = some (r1, r2) := by first | (rw [hy141]; with_reducible exact H) | (have H2_ := (Option.bind_some _ _).symm.trans H; rw [hy141]; with_reducible exact H2_) | (have H2_ := (Option.bind_some _ _).symm.trans H; with_reducible exact H2_) | with_reducible exact H | (rw [hy141]; exact H) | exact H
      have Ny141 := Aside0.mk hy141
      clear hy141
      by_cases c43 : y138.length + y141.length < 17592186044416
      rotate_left
      ·rw [if_neg c43] at H
       exact absurd H (by simp)
      rw [if_pos c43] at H
      have LMc43 := Aside0.mk c43
      clear c43
      obtain ⟨y145, hy145⟩ : ∃ y_ : List Int, y_ = (y138 ++ y141) := ⟨_, rfl⟩
      replace H : (if 0 ≤ x6_1 then (if x6_1 < (t105.length : Int) then ((some (([rd t105 x6_1] : List Int) : List Int)).bind fun y149 => (if y145.length + y149.length < 17592186044416 then ((some (y145 ++ y149 : List Int)).bind fun y152 => ((some (x4_1.drop (x9_2 : Int).toNat : List Int)).bind fun y155 => (if y152.length + y155.length < 17592186044416 then (Fe.l0 k2 l0 (y152 ++ y155) t105 (wrap64 (x6_1 + 1))) else (none)))) else (none))) else (none)) else (none)) = some (r1, r2) := by first | (rw [hy145]; with_reducible exact H) | (have H2_ := (Option.bind_some _ _).symm.trans H; rw [hy145]; with_reducible exact H2_) | (have H2_ := (Option.bind_some _ _).symm.trans H; with_reducible exact H2_) | with_reducible exact H | (rw [hy145]; exact H) | exact H
      have Ny145 := Aside0.mk hy145
      clear hy145
      by_cases c44 : 0 ≤ x6_1
      rotate_left
      ·rw [if_neg c44] at H
       exact absurd H (by simp)
      rw [if_pos c44] at H
      have c44b0 : decide (0 ≤ x6_1) = true := decide_eq_true c44
      clear c44
      by_cases c45 : x6_1 < (t105.length : Int)
      rotate_left
      ·rw [if_neg c45] at H
       exact absurd H (by simp)
      rw [if_pos c45] at H
      have c45b0 : decide (x6_1 < (t105.length : Int)) = true := decide_eq_true c45
      clear c45
      obtain ⟨y149, hy149⟩ : ∃ y_ : List Int, y_ = (([rd t105 x6_1] : List Int)) := ⟨_, rfl⟩
      replace H : (if y145.length + y149.length < 17592186044416 then ((some (y145 ++ y149 : List Int)).bind fun y152 => ((some (x4_1.drop (x9_2 : Int).toNat : List Int)).bind fun y155 => (if y152.length + y155.length < 17592186044416 then (Fe.l0 k2 l0 (y152 ++ y155) t105 (wrap64 (x6_1 + 1))) else (none)))) else (none)) = some (r1, r2) := by first | (rw [hy149]; with_reducible exact H) | (have H2_ := (Option.bind_some _ _).symm.trans H; rw [hy149]; with_reducible exact H2_) | (have H2_ := (Option.bind_some _ _).symm.trans H; with_reducible exact H2_) | with_reducible exact H | (rw [hy149]; exact H) | exact H
      have Ny149 := Aside0.mk hy149
      clear hy149
      by_cases c46 : y145.length + y149.length < 17592186044416
      rotate_left
      ·rw [if_neg c46] at H
       exact absurd H (by simp)
      rw [if_pos c46] at H
      have LMc46 := Aside0.mk c46
      clear c46
      obtain ⟨y152, hy152⟩ : ∃ y_ : List Int, y_ = (y145 ++ y149) := ⟨_, rfl⟩
      replace H : ((some (x4_1.drop (x9_2 : Int).toNat : List Int)).bind fun y155 => (if y152.length + y155.length < 17592186044416 then (Fe.l0 k2 l0 (y152 ++ y155) t105 (wrap64 (x6_1 + 1))) else (none))) = some (r1, r2) := by first | (rw [hy152]; with_reducible exact H) | (have H2_ := (Option.bind_some _ _).symm.trans H; rw [hy152]; with_reducible exact H2_) | (have H2_ := (Option.bind_some _ _).symm.trans H; with_reducible exact H2_) | with_reducible exact H | (rw [hy152]; exact H) | exact H
      have Ny152 := Aside0.mk hy152
      clear hy152
      have c47b0 := eq_true (Dz : 0 ≤ x9_2)
      have c48b0 := eq_true (Dz : x9_2 ≤ (x4_1.length : Int))
      obtain ⟨y155, hy155⟩ : ∃ y_ : List Int, y_ = (x4_1.drop (x9_2 : Int).toNat) := ⟨_, rfl⟩
      replace H : (if y152.length + y155.length < 17592186044416 then (Fe.l0 k2 l0 (y152 ++ y155) t105 (wrap64 (x6_1 + 1))) else (none)) = some (r1, r2) := by first | (rw [hy155]; with_reducible exact H) | (have H2_ := (Option.bind_some _ _).symm.trans H; rw [hy155]; with_reducible exact H2_) | (have H2_ := (Option.bind_some _ _).symm.trans H; with_reducible exact H2_) | with_reducible exact H | (rw [hy155]; exact H) | exact H
      have Ny155 := Aside0.mk hy155
      clear hy155
      by_cases c49 : y152.length + y155.length < 17592186044416
      rotate_left
      ·rw [if_neg c49] at H
       exact absurd H (by simp)
      rw [if_pos c49] at H
      have LMc49 := Aside0.mk c49
      clear c49
      obtain ⟨y159, hy159⟩ : ∃ y_ : List Int, y_ = (y152 ++ y155) := ⟨_, rfl⟩
      replace H : (Fe.l0 k2 l0 y159 t105 (wrap64 (x6_1 + 1))) = some (r1, r2) := by first | (rw [hy159]; with_reducible exact H) | (have H2_ := (Option.bind_some _ _).symm.trans H; rw [hy159]; with_reducible exact H2_) | (have H2_ := (Option.bind_some _ _).symm.trans H; with_reducible exact H2_) | with_reducible exact H | (rw [hy159]; exact H) | exact H
      have Ny159 := Aside0.mk hy159
      clear hy159
      have H' := Aside0.mk H
      clear H
      try go_wp2
      have n0_ := Aside0.mk (Kd.R_drew HO_4.out)
      have n1_ := Aside0.mk (Kd.R_drew HO_5.out)
      have n2_ := Aside0.mk (below_drew1 HB.out)
      clear HO_4
      clear HO_5
      clear HB
      have HO_4 := n0_
      have HO_5 := n1_
      have HB := n2_
      clear n0_ n1_ n2_
      have q51 : (x9_2 : Int) ≤ ((x4_1.length : Int) : Int) := Dz
      obtain ⟨i051, hi051, _, hsz51, _⟩ := info_parts info3
      have hroom51 : x4_1.length ≤ co13 := (Kd.R_reads' HO_4.out).2.1
      have hC51 : Kd.C (Kd.int .i64) _ Ao13 x4_1.length x4_1 := (Kd.R_reads' HO_4.out).2.2
      have hcut51 := cut_to (P := Try.prog) 22 3 .i64 Try.underlying22 hi051 Ao13 x4_1.length co13 x9_2 Dz q51 hroom51
      have hr51 := Kd.C_take (m := (x9_2 : Int).toNat) hC51 (by omega)
      have hy51 : y141.length = (x9_2 : Int).toNat := (by rw [Ny141.out, List.length_take]; omega)
      rw [← Ny141.out] at hr51
      rw [← hy51] at hcut51
      have HR144 := Aside0.mk hr51
      have HC144 := Aside0.mk (show y141.length ≤ co13 from by omega)
      clear hr51 hC51 hroom51 hi051 hsz51
      have KY51 := Aside0.mk hy51
      clear hy51
      have KL51 := Aside0.mk (show (x9_2 : Int).toNat ≤ x4_1.length from by omega)
      replace q51 := eq_true q51
      have p148 : 0 ≤ (x6_1 : Int) := Dz
      have q148 : x6_1 < (t105.length : Int) := Dz
      obtain ⟨ad148, e148, hx148_0⟩ := Kd.at_int (Kd.R_reads' HO_5.out).2.2 x6_1 p148 q148
      obtain rfl : ad108 = ad148 := (by injection e148)
      replace p148 := eq_true p148
      replace q148 := eq_true q148
      have q52 : (x9_2 : Int) ≤ ((x4_1.length : Int) : Int) := Dz
      obtain ⟨i052, hi052, _, hsz52, _⟩ := info_parts info3
      have hroom52 : x4_1.length ≤ co13 := (Kd.R_reads' HO_4.out).2.1
      have hC52 : Kd.C (Kd.int .i64) _ Ao13 x4_1.length x4_1 := (Kd.R_reads' HO_4.out).2.2
      have q052 : (0 : Int) ≤ (x9_2 : Int) := Dz
      have hcut52 := cut_from (P := Try.prog) 22 3 .i64 Try.underlying22 hi052 1 hsz52 Ao13 x4_1.length co13 x9_2 q052 q52
      have hr52 := Kd.C_drop (m := (x9_2 : Int).toNat) (c := co13) hC52 (by omega) hroom52
      obtain ⟨A52, hA52⟩ : ∃ A1, A1 = (if co13 = (x9_2 : Int).toNat then Ao13 else (Ao13 : Option Addr).map (·.add ((x9_2 : Int).toNat * 1))) := ⟨_, rfl⟩
      obtain ⟨c52, hc52⟩ : ∃ c1, c1 = co13 - (x9_2 : Int).toNat := ⟨_, rfl⟩
      have hy52 : y155.length = x4_1.length - (x9_2 : Int).toNat := (by rw [Ny155.out, List.length_drop] <;> omega)
      rw [show (x4_1).drop (x9_2 : Int).toNat = y155 from Ny155.out.symm] at hr52
      replace hr52 : Kd.C (Kd.int .i64) _ A52 y155.length y155 := (by rw [hA52]; exact hr52)
      rw [← hy52, ← hA52, ← hc52] at hcut52
      have HR158 := Aside0.mk hr52
      have HC158 := Aside0.mk (show y155.length ≤ c52 from by rw [hy52, hc52]; exact Nat.sub_le_sub_right hroom52 _)
      clear hr52 hC52 hroom52 hi052 hsz52 hc52
      have KY52 := Aside0.mk hy52
      have KA52 := Aside0.mk hA52
      clear hy52 hA52
      have KL52 := Aside0.mk (show (x9_2 : Int).toNat ≤ x4_1.length from by omega)
      replace q52 := eq_true q52
      refine start_ (n := 16) (S := fun w' => w'.cell? (ad108.add (x6_1).toNat) = some (.int .i64 (rd t105 x6_1))) (ds := []) #[O,O,O,O,O,O,O,O,O,O,O,O,O,O,O,O] (by kernel_rfl) rfl rfl (hx148_0) (fun hHeld => ?_); refine with_tabW Fe.tab14 Fe.bits14 (fun HT_ HW_ => ?_)
      generalize wr.drew = w50 at HO_4 HO_5 HB HR144 HR158 hx148_0 hHeld ⊢
      refine pure_ (i := 1) (N := some 58) (v := ?_) (a' := ?_) #[O,I,O,O,O,O,O,O,O,O,O,O,O,O,O,O] rfl rfl (any_of HT_.out (by kernel_rfl)) (fun _ _ _ h => h) (Or.inl ⟨by rfl, ?_⟩) ?_ ?_
      rotate_left; (intro w'; go_simp; with_reducible rfl); rotate_left; (simp only [Z]; rfl)
      refine pure_ (i := 2) (N := some 59) (v := ?_) (a' := ?_) #[O,I,I,O,O,O,O,O,O,O,O,O,O,O,O,O] rfl rfl (any_of HT_.out (by kernel_rfl)) (fun _ _ _ h => h) (Or.inl ⟨by rfl, ?_⟩) ?_ ?_
      rotate_left; (intro w'; go_simp; with_reducible rfl); rotate_left; (simp only [Z]; rfl)
      refine pure_ (i := 3) (N := some 60) (v := ?_) (a' := ?_) #[O,I,I,I,O,O,O,O,O,O,O,O,O,O,O,O] rfl rfl (any_of HT_.out (by kernel_rfl)) (fun _ _ _ h => h) (Or.inl ⟨by rfl, ?_⟩) ?_ ?_
      rotate_left; (intro w'; go_simp; with_reducible rfl); rotate_left; (simp only [Z]; rfl)
      refine pure_ (i := 5) (N := some 62) (v := ?_) (a' := ?_) #[O,I,I,I,O,I,O,O,O,O,O,O,O,O,O,O] rfl rfl (any_of HT_.out (by kernel_rfl)) (fun _ _ _ h => h) (Or.inl ⟨by rfl, ?_⟩) ?_ ?_
      rotate_left; (intro w'; go_simp; with_reducible rfl); rotate_left; (simp only [Z]; rfl)
      refine pure_ (i := 6) (N := some 63) (v := ?_) (a' := ?_) #[O,I,I,I,O,I,I,O,O,O,O,O,O,O,O,O] rfl rfl (any_of HT_.out (by kernel_rfl)) (fun _ _ _ h => h) (Or.inl ⟨by rfl, ?_⟩) ?_ ?_
      rotate_left; (intro w'; go_simp; with_reducible rfl); rotate_left; (simp only [Z]; rfl)
      refine pure_ (i := 7) (N := some 64) (v := ?_) (a' := ?_) #[O,I,I,I,O,I,I,I,O,O,O,O,O,O,O,O] rfl rfl (any_of HT_.out (by kernel_rfl)) (fun _ _ _ h => h) (Or.inl ⟨by rfl, ?_⟩) ?_ ?_
      rotate_left; (intro w'; go_simp; with_reducible rfl); rotate_left; (simp only [Z]; rfl)
      refine pure_ (i := 11) (N := some 68) (v := ?_) (a' := ?_) #[O,I,I,I,O,I,I,I,O,O,O,I,O,O,O,O] rfl rfl (any_of HT_.out (by kernel_rfl)) (fun _ _ _ h => h) (Or.inl ⟨by rfl, ?_⟩) ?_ ?_
      rotate_left; (intro w'; go_simp; with_reducible rfl); rotate_left; (simp only [Z]; rfl)
      refine pure_ (i := 12) (N := some 69) (v := ?_) (a' := ?_) #[O,I,I,I,O,I,I,I,O,O,O,I,I,O,O,O] rfl rfl (any_of HT_.out (by kernel_rfl)) (fun _ _ _ h => h) (Or.inl ⟨by rfl, ?_⟩) ?_ ?_
      rotate_left; (intro w'; go_simp; with_reducible rfl); rotate_left; (simp only [Z]; rfl)
      refine pure_ (i := 13) (N := some 70) (v := ?_) (a' := ?_) #[O,I,I,I,O,I,I,I,O,O,O,I,I,I,O,O] rfl rfl (any_of HT_.out (by kernel_rfl)) (fun _ _ _ h => h) (Or.inl ⟨by rfl, ?_⟩) ?_ ?_
      rotate_left; (intro w'; go_simp; with_reducible rfl); rotate_left; (simp only [Z]; rfl)
      refine take_ (i := 8) (N := some 65) (v := ?_) (a' := ?_) #[O,I,I,I,O,I,I,I,I,O,O,I,I,I,O,O] rfl rfl (take_ofW HT_.out HW_.out (by kernel_rfl)) (fun _ _ _ h => h) (Or.inl ⟨by rfl, ?_⟩) hHeld ?_ ?_
      rotate_left
      ·intro w' s0
       go_simp
       with_reducible rfl
      rotate_left; (simp only [Z]; rfl)
      refine join_ (σ := Value × Value × Value) 3 #[I,I,I,I,I,I,I,I,I,I,O,I,I,I,O,O] (fun s_ => [(57, s_.1), (61, s_.2.1), (66, s_.2.2)]) (fun s_ w' => (w'.cell? (ad108.add (x6_1).toNat) = some (.int .i64 (rd t105 x6_1))) ∧ (Kd.R (Kd.int .i64) 3 w' w.heap.size (fun k_ => some k_ ≠ (s_.2.2 : Value).ownBlock ∧ some k_ ≠ (.slice Ao13 x4_1.length co13 : Value).ownBlock ∧ some k_ ≠ (.slice (some ad108) t105.length co12 : Value).ownBlock) s_.2.1 y145) ∧ (Kd.R (Kd.int .i64) 3 w' w.heap.size (fun k_ => some k_ ≠ (s_.2.1 : Value).ownBlock ∧ some k_ ≠ (.slice Ao13 x4_1.length co13 : Value).ownBlock ∧ some k_ ≠ (.slice (some ad108) t105.length co12 : Value).ownBlock) s_.2.2 y149) ∧ (Kd.R (Kd.int .i64) 3 w' w.heap.size (fun k_ => some k_ ≠ (s_.2.1 : Value).ownBlock ∧ some k_ ≠ (s_.2.2 : Value).ownBlock ∧ some k_ ≠ (.slice (some ad108) t105.length co12 : Value).ownBlock) (.slice Ao13 x4_1.length co13) x4_1) ∧ (Kd.R (Kd.int .i64) 3 w' w.heap.size (fun k_ => some k_ ≠ (s_.2.1 : Value).ownBlock ∧ some k_ ≠ (s_.2.2 : Value).ownBlock ∧ some k_ ≠ (.slice Ao13 x4_1.length co13 : Value).ownBlock) (.slice (some ad108) t105.length co12) t105) ∧ (Below w.heap.size w w')) ?_ ?_
      rotate_left
      ·intro hCont
       refine two_ (i := 0) (j := 9) (Ni := some 57) (Nj := some 66) #[I,I,I,I,O,I,I,I,I,O,O,I,I,I,O,O] #[O,I,I,I,O,I,I,I,I,I,O,I,I,I,O,O] rfl rfl rfl rfl (two_of HT_.out (by kernel_rfl)) (by decide) (by decide) (fun K hK => ?_) (fun K hK => ?_)
       ·skip
        refine Kd.R_lit_step (Kd.int .i64) _ 3 ?hg (N := 57) ?hd (xs := ([] : List Int)) (inner := []) (ok := fun _ => True) (okp := fun _ => True) ?hr ?hp (fun _ hk => hk) trivial (Below.refl _ _) (Nat.le_refl _) (by simp) ?_; (case hd => rfl); (case hg => rfl); (case hr => first | (go_simp; done) | (go_simp; rfl)); (case hp => exact (Reps.none _ _))
        intro v139 w53 ho54 hb hg_ hnew_
        have HS0_ := (hb.cell (World.block_lt_of_cell? _ _ (hHeld))).trans (hHeld)
        clear hg_ hnew_
        (first | rw [← Ny138.out] at ho54 | (simp only [Int.reduceToNat] at ho54; rw [← Ny138.out] at ho54))
        have n0_ := Aside0.mk (Kd.R_elder' (by exact Ho.RS <| HO_4.out) (Kd.R_base ho54) hb)
        have n1_ := Aside0.mk (Kd.R_elder' (by exact Ho.RS <| HO_5.out) (Kd.R_base ho54) hb)
        have n2_ := Aside0.mk (Kd.R_lower (Kd.R_new' (Kd.R_new' ho54 (Kd.R_lt (by exact Ho.RS <| HO_4.out))) (Kd.R_lt (by exact Ho.RS <| HO_5.out))) (below_size (by exact eS HB.out)))
        have n3_ := Aside0.mk (Kd.C_below (by repeat (first | (with_reducible exact HR144.out) | (with_reducible refine Kd.C_alloc ?_ _) | (with_reducible refine Kd.C_drewN ?_ _) | (with_reducible refine Kd.C_drew ?_) | exact HR144.out)) hb)
        have n4_ := Aside0.mk (Kd.C_below (by repeat (first | (with_reducible exact HR158.out) | (with_reducible refine Kd.C_alloc ?_ _) | (with_reducible refine Kd.C_drewN ?_ _) | (with_reducible refine Kd.C_drew ?_) | exact HR158.out)) hb)
        have n5_ := Aside0.mk (below_step (by exact eS HB.out) hb)
        clear HO_4
        clear HO_5
        clear HR144
        clear HR158
        clear HB
        have HO_4 := n0_
        have HO_5 := n1_
        have HO140 := n2_
        have HR144 := n3_
        have HR158 := n4_
        have HB := n5_
        clear n0_ n1_ n2_ n3_ n4_ n5_
        clear hb ho54
        refine hK.out _ _ (HS0_) (fun hHeld => ?_)
        clear hK K
        refine norm_ (a' := ?_) ?_ ?_
        rotate_left
        ·show Act.put _ (some 57) _ = _
         simp only [Z]
         rfl
        refine two_ (i := 4) (j := 9) (Ni := some 61) (Nj := some 66) #[I,I,I,I,I,I,I,I,I,O,O,I,I,I,O,O] #[I,I,I,I,O,I,I,I,I,I,O,I,I,I,O,O] rfl rfl rfl rfl (two_of HT_.out (by kernel_rfl)) (by decide) (by decide) (fun K hK => ?_) (fun K hK => ?_)
        ·skip
         refine Kd.R_append_rows_step (Kd.int .i64) (w0 := w) w.heap.size (by rfl) (.tmp 57) (.tmp 60) 22 3 (.int .i64 0) 8 rfl Try.underlying22 info3 rfl (by decide) (by omega) v139 y138 y141 _ _ _ (fun k_ => some k_ ≠ (.slice Ao13 x4_1.length co13 : Value).ownBlock ∧ some k_ ≠ (.slice (some ad108) t105.length co12 : Value).ownBlock) (fun _ => False) rfl rfl ?aO ?aR (fun _ _ h => h) (fun _ h => h.elim) ?aF ?aB ?aS ?aL ?_
         (case aR => repeat (first | exact (by repeat (first | (with_reducible exact HR144.out) | (with_reducible refine Kd.C_alloc ?_ _) | (with_reducible refine Kd.C_drewN ?_ _) | (with_reducible refine Kd.C_drew ?_) | exact HR144.out)) | (with_reducible refine Kd.C_alloc ?_ _) | (with_reducible refine Kd.C_drewN ?_ _) | (with_reducible refine Kd.C_drew ?_)))
         (case aB => exact (by exact eS HB.out))
         (case aF => exact (fun k_ hk => ⟨Kd.fresh' (Kd.R_lt (by exact Ho.RS <| HO_4.out)) k_ hk, Kd.fresh' (Kd.R_lt (by exact Ho.RS <| HO_5.out)) k_ hk⟩))
         (case aO => exact (by exact Ho.RS <| Kd.R_mono HO140.out (fun _ hk => ⟨hk.1.2, hk.2⟩)))
         (case aS => exact (below_size (by exact eS HB.out)))
         (case aL => have := LMc43.out; omega)
         intro v146 w55 ho hb hg hat
         have HS0_ := cell_grown hg (hHeld) (by (first | rw [add_block] | (show some (Addr.add _ _).block ≠ _; rw [add_block]) | skip); first | exact (fun e_ => ((HO140.out.1 _ e_.symm)) rfl) | exact (fun e_ => ((HO140.out.1 _ e_.symm).1) rfl) | exact (fun e_ => ((HO140.out.1 _ e_.symm).2) rfl) | exact (fun e_ => ((HO140.out.1 _ e_.symm).1.1) rfl) | exact (fun e_ => ((HO140.out.1 _ e_.symm).1.2) rfl) | exact (fun e_ => ((HO140.out.1 _ e_.symm).2.1) rfl) | exact (fun e_ => ((HO140.out.1 _ e_.symm).2.2) rfl) | exact (fun e_ => ((HO140.out.1 _ e_.symm).1.1.1) rfl) | exact (fun e_ => ((HO140.out.1 _ e_.symm).1.1.2) rfl) | exact (fun e_ => ((HO140.out.1 _ e_.symm).1.2.1) rfl) | exact (fun e_ => ((HO140.out.1 _ e_.symm).1.2.2) rfl) | exact (fun e_ => ((HO140.out.1 _ e_.symm).2.1.1) rfl) | exact (fun e_ => ((HO140.out.1 _ e_.symm).2.1.2) rfl) | exact (fun e_ => ((HO140.out.1 _ e_.symm).2.2.1) rfl) | exact (fun e_ => ((HO140.out.1 _ e_.symm).2.2.2) rfl) | exact (fun e_ => ((HO_5.out.1 _ rfl)) e_) | exact (fun e_ => ((HO_5.out.1 _ rfl).1) e_) | exact (fun e_ => ((HO_5.out.1 _ rfl).2) e_) | exact (fun e_ => ((HO_5.out.1 _ rfl).1.1) e_) | exact (fun e_ => ((HO_5.out.1 _ rfl).1.2) e_) | exact (fun e_ => ((HO_5.out.1 _ rfl).2.1) e_) | exact (fun e_ => ((HO_5.out.1 _ rfl).2.2) e_) | exact (fun e_ => ((HO_5.out.1 _ rfl).1.1.1) e_) | exact (fun e_ => ((HO_5.out.1 _ rfl).1.1.2) e_) | exact (fun e_ => ((HO_5.out.1 _ rfl).1.2.1) e_) | exact (fun e_ => ((HO_5.out.1 _ rfl).1.2.2) e_) | exact (fun e_ => ((HO_5.out.1 _ rfl).2.1.1) e_) | exact (fun e_ => ((HO_5.out.1 _ rfl).2.1.2) e_) | exact (fun e_ => ((HO_5.out.1 _ rfl).2.2.1) e_) | exact (fun e_ => ((HO_5.out.1 _ rfl).2.2.2) e_))
         rw [← Ny145.out] at ho
         have n0_ := Aside0.mk (Kd.R_after (ok := (fun k_ => some k_ ≠ (.slice (some ad108) t105.length co12 : Value).ownBlock)) (by exact Ho.RS <| HO_4.out) hg hat)
         have n1_ := Aside0.mk (Kd.R_after (ok := (fun k_ => some k_ ≠ (.slice Ao13 x4_1.length co13 : Value).ownBlock)) (by exact Ho.RS <| HO_5.out) hg hat)
         have n2_ := Aside0.mk (hb)
         have n3_ := Aside0.mk ((show Kd.C (Kd.int .i64) w55 Ao13 y141.length y141 from by rw [Ny141.out]; exact Kd.C_take (m := (x9_2 : Int).toNat) ((Kd.R_reads' (Kd.R_after (ok := (fun k_ => some k_ ≠ (.slice (some ad108) t105.length co12 : Value).ownBlock)) (by exact Ho.RS <| HO_4.out) hg hat)).2.2) KL51.out))
         have n4_ := Aside0.mk ((show Kd.C (Kd.int .i64) w55 A52 y155.length y155 from by rw [Ny155.out, KA52.out]; exact Kd.C_drop (m := (x9_2 : Int).toNat) (c := co13) ((Kd.R_reads' (Kd.R_after (ok := (fun k_ => some k_ ≠ (.slice (some ad108) t105.length co12 : Value).ownBlock)) (by exact Ho.RS <| HO_4.out) hg hat)).2.2) KL52.out ((Kd.R_reads' (Kd.R_after (ok := (fun k_ => some k_ ≠ (.slice (some ad108) t105.length co12 : Value).ownBlock)) (by exact Ho.RS <| HO_4.out) hg hat)).2.1)))
         have n5_ := Aside0.mk (ho)
         clear HO_4
         clear HO_5
         clear HB
         clear HR144
         clear HR158
         clear HO140
         have HO_4 := n0_
         have HO_5 := n1_
         have HB := n2_
         have HR144 := n3_
         have HR158 := n4_
         have HO147 := n5_
         clear n0_ n1_ n2_ n3_ n4_ n5_
         clear ho hb hg hat
         refine hK.out _ _ (HS0_) (fun hHeld => ?_)
         clear hK K
         refine norm_ (a' := ?_) ?_ ?_
         rotate_left
         ·show Act.put _ (some 61) _ = _
          simp only [Z]
          rfl
         refine one_ (i := 9) (N := some 66) #[I,I,I,I,I,I,I,I,I,I,O,I,I,I,O,O] rfl rfl (one_of HT_.out (by kernel_rfl)) (by decide) (fun K hK => ?_)
         refine Kd.R_lit_step (Kd.int .i64) _ 3 ?hg (N := 66) ?hd (xs := ([rd t105 x6_1] : List Int)) (inner := [.int .i64 (rd t105 x6_1)]) (ok := fun _ => True) (okp := fun _ => True) ?hr ?hp (fun _ hk => hk) trivial (Below.refl _ _) (Nat.le_refl _) (by simp) ?_; (case hd => rfl); (case hg => rfl); (case hr => first | (go_simp; done) | (go_simp; rfl)); (case hp => exact (Reps.one (show Kd.M (Kd.int .i64) _ _ _ (rd t105 x6_1) [.int .i64 (rd t105 x6_1)] from rfl) (Reps.none _ _)))
         intro v150 w56 ho57 hb hg_ hnew_
         have HS0_ := (hb.cell (World.block_lt_of_cell? _ _ (hHeld))).trans (hHeld)
         clear hg_ hnew_
         (first | rw [← Ny149.out] at ho57 | (simp only [Int.reduceToNat] at ho57; rw [← Ny149.out] at ho57))
         have n0_ := Aside0.mk (Kd.R_elder' (by exact Ho.RS <| HO_4.out) (Kd.R_base ho57) hb)
         have n1_ := Aside0.mk (Kd.R_elder' (by exact Ho.RS <| HO_5.out) (Kd.R_base ho57) hb)
         have n2_ := Aside0.mk (Kd.R_elder' (by exact Ho.RS <| HO147.out) (Kd.R_base ho57) hb)
         have n3_ := Aside0.mk (Kd.R_lower (Kd.R_new' (Kd.R_new' (Kd.R_new' ho57 (Kd.R_lt (by exact Ho.RS <| HO_4.out))) (Kd.R_lt (by exact Ho.RS <| HO_5.out))) (Kd.R_lt (by exact Ho.RS <| HO147.out))) (below_size (by exact eS HB.out)))
         have n4_ := Aside0.mk (Kd.C_below (by repeat (first | (with_reducible exact HR144.out) | (with_reducible refine Kd.C_alloc ?_ _) | (with_reducible refine Kd.C_drewN ?_ _) | (with_reducible refine Kd.C_drew ?_) | exact HR144.out)) hb)
         have n5_ := Aside0.mk (Kd.C_below (by repeat (first | (with_reducible exact HR158.out) | (with_reducible refine Kd.C_alloc ?_ _) | (with_reducible refine Kd.C_drewN ?_ _) | (with_reducible refine Kd.C_drew ?_) | exact HR158.out)) hb)
         have n6_ := Aside0.mk (below_step (by exact eS HB.out) hb)
         clear HO_4
         clear HO_5
         clear HO147
         clear HR144
         clear HR158
         clear HB
         have HO_4 := n0_
         have HO_5 := n1_
         have HO147 := n2_
         have HO151 := n3_
         have HR144 := n4_
         have HR158 := n5_
         have HB := n6_
         clear n0_ n1_ n2_ n3_ n4_ n5_ n6_
         clear hb ho57
         refine hK.out _ _ (HS0_) (fun hHeld => ?_)
         clear hK K
         refine norm_ (a' := ?_) ?_ ?_
         rotate_left
         ·show Act.put _ (some 66) _ = _
          simp only [Z]
          rfl
         exact norm_ (by simp only [putAll, Act.put, List.setIfInBounds_toArray, List.set_cons_zero, List.set_cons_succ]) (hCont (v139, v146, v150) _ ⟨hHeld, (by exact Ho.RS <| Kd.R_mono HO147.out (fun _ hk => ⟨hk.2, ⟨hk.1.1, hk.1.2⟩⟩)), (by exact Ho.RS <| Kd.R_mono HO151.out (fun _ hk => ⟨hk.2, ⟨hk.1.1.2, hk.1.2⟩⟩)), (by exact Ho.RS <| Kd.R_mono HO_4.out (fun _ hk => ⟨hk.1.2, ⟨hk.2, hk.1.1⟩⟩)), (by exact Ho.RS <| Kd.R_mono HO_5.out (fun _ hk => ⟨hk.1.2, ⟨hk.2, hk.1.1⟩⟩)), (by exact eS HB.out)⟩)
        ·skip
         refine Kd.R_lit_step (Kd.int .i64) _ 3 ?hg (N := 66) ?hd (xs := ([rd t105 x6_1] : List Int)) (inner := [.int .i64 (rd t105 x6_1)]) (ok := fun _ => True) (okp := fun _ => True) ?hr ?hp (fun _ hk => hk) trivial (Below.refl _ _) (Nat.le_refl _) (by simp) ?_; (case hd => rfl); (case hg => rfl); (case hr => first | (go_simp; done) | (go_simp; rfl)); (case hp => exact (Reps.one (show Kd.M (Kd.int .i64) _ _ _ (rd t105 x6_1) [.int .i64 (rd t105 x6_1)] from rfl) (Reps.none _ _)))
         intro v150 w55 ho56 hb hg_ hnew_
         have HS0_ := (hb.cell (World.block_lt_of_cell? _ _ (hHeld))).trans (hHeld)
         clear hg_ hnew_
         (first | rw [← Ny149.out] at ho56 | (simp only [Int.reduceToNat] at ho56; rw [← Ny149.out] at ho56))
         have n0_ := Aside0.mk (Kd.R_elder' (by exact Ho.RS <| HO_4.out) (Kd.R_base ho56) hb)
         have n1_ := Aside0.mk (Kd.R_elder' (by exact Ho.RS <| HO_5.out) (Kd.R_base ho56) hb)
         have n2_ := Aside0.mk (Kd.R_elder' (by exact Ho.RS <| HO140.out) (Kd.R_base ho56) hb)
         have n3_ := Aside0.mk (Kd.R_lower (Kd.R_new' (Kd.R_new' (Kd.R_new' ho56 (Kd.R_lt (by exact Ho.RS <| HO_4.out))) (Kd.R_lt (by exact Ho.RS <| HO_5.out))) (Kd.R_lt (by exact Ho.RS <| HO140.out))) (below_size (by exact eS HB.out)))
         have n4_ := Aside0.mk (Kd.C_below (by repeat (first | (with_reducible exact HR144.out) | (with_reducible refine Kd.C_alloc ?_ _) | (with_reducible refine Kd.C_drewN ?_ _) | (with_reducible refine Kd.C_drew ?_) | exact HR144.out)) hb)
         have n5_ := Aside0.mk (Kd.C_below (by repeat (first | (with_reducible exact HR158.out) | (with_reducible refine Kd.C_alloc ?_ _) | (with_reducible refine Kd.C_drewN ?_ _) | (with_reducible refine Kd.C_drew ?_) | exact HR158.out)) hb)
         have n6_ := Aside0.mk (below_step (by exact eS HB.out) hb)
         clear HO_4
         clear HO_5
         clear HO140
         clear HR144
         clear HR158
         clear HB
         have HO_4 := n0_
         have HO_5 := n1_
         have HO140 := n2_
         have HO151 := n3_
         have HR144 := n4_
         have HR158 := n5_
         have HB := n6_
         clear n0_ n1_ n2_ n3_ n4_ n5_ n6_
         clear hb ho56
         refine hK.out _ _ (HS0_) (fun hHeld => ?_)
         clear hK K
         refine norm_ (a' := ?_) ?_ ?_
         rotate_left
         ·show Act.put _ (some 66) _ = _
          simp only [Z]
          rfl
         refine one_ (i := 4) (N := some 61) #[I,I,I,I,I,I,I,I,I,I,O,I,I,I,O,O] rfl rfl (one_of HT_.out (by kernel_rfl)) (by decide) (fun K hK => ?_)
         refine Kd.R_append_rows_step (Kd.int .i64) (w0 := w) w.heap.size (by rfl) (.tmp 57) (.tmp 60) 22 3 (.int .i64 0) 8 rfl Try.underlying22 info3 rfl (by decide) (by omega) v139 y138 y141 _ _ _ (fun k_ => some k_ ≠ (.slice Ao13 x4_1.length co13 : Value).ownBlock ∧ some k_ ≠ (.slice (some ad108) t105.length co12 : Value).ownBlock ∧ some k_ ≠ (v150 : Value).ownBlock) (fun _ => False) rfl rfl ?aO ?aR (fun _ _ h => h) (fun _ h => h.elim) ?aF ?aB ?aS ?aL ?_
         (case aR => repeat (first | exact (by repeat (first | (with_reducible exact HR144.out) | (with_reducible refine Kd.C_alloc ?_ _) | (with_reducible refine Kd.C_drewN ?_ _) | (with_reducible refine Kd.C_drew ?_) | exact HR144.out)) | (with_reducible refine Kd.C_alloc ?_ _) | (with_reducible refine Kd.C_drewN ?_ _) | (with_reducible refine Kd.C_drew ?_)))
         (case aB => exact (by exact eS HB.out))
         (case aF => exact (fun k_ hk => ⟨Kd.fresh' (Kd.R_lt (by exact Ho.RS <| HO_4.out)) k_ hk, Kd.fresh' (Kd.R_lt (by exact Ho.RS <| HO_5.out)) k_ hk, Kd.fresh' (Kd.R_lt (by exact Ho.RS <| HO151.out)) k_ hk⟩))
         (case aO => exact (by exact Ho.RS <| Kd.R_mono HO140.out (fun _ hk => ⟨hk.1.1.2, ⟨hk.1.2, hk.2⟩⟩)))
         (case aS => exact (below_size (by exact eS HB.out)))
         (case aL => have := LMc43.out; omega)
         intro v146 w57 ho hb hg hat
         have HS0_ := cell_grown hg (hHeld) (by (first | rw [add_block] | (show some (Addr.add _ _).block ≠ _; rw [add_block]) | skip); first | exact (fun e_ => ((HO140.out.1 _ e_.symm)) rfl) | exact (fun e_ => ((HO140.out.1 _ e_.symm).1) rfl) | exact (fun e_ => ((HO140.out.1 _ e_.symm).2) rfl) | exact (fun e_ => ((HO140.out.1 _ e_.symm).1.1) rfl) | exact (fun e_ => ((HO140.out.1 _ e_.symm).1.2) rfl) | exact (fun e_ => ((HO140.out.1 _ e_.symm).2.1) rfl) | exact (fun e_ => ((HO140.out.1 _ e_.symm).2.2) rfl) | exact (fun e_ => ((HO140.out.1 _ e_.symm).1.1.1) rfl) | exact (fun e_ => ((HO140.out.1 _ e_.symm).1.1.2) rfl) | exact (fun e_ => ((HO140.out.1 _ e_.symm).1.2.1) rfl) | exact (fun e_ => ((HO140.out.1 _ e_.symm).1.2.2) rfl) | exact (fun e_ => ((HO140.out.1 _ e_.symm).2.1.1) rfl) | exact (fun e_ => ((HO140.out.1 _ e_.symm).2.1.2) rfl) | exact (fun e_ => ((HO140.out.1 _ e_.symm).2.2.1) rfl) | exact (fun e_ => ((HO140.out.1 _ e_.symm).2.2.2) rfl) | exact (fun e_ => ((HO_5.out.1 _ rfl)) e_) | exact (fun e_ => ((HO_5.out.1 _ rfl).1) e_) | exact (fun e_ => ((HO_5.out.1 _ rfl).2) e_) | exact (fun e_ => ((HO_5.out.1 _ rfl).1.1) e_) | exact (fun e_ => ((HO_5.out.1 _ rfl).1.2) e_) | exact (fun e_ => ((HO_5.out.1 _ rfl).2.1) e_) | exact (fun e_ => ((HO_5.out.1 _ rfl).2.2) e_) | exact (fun e_ => ((HO_5.out.1 _ rfl).1.1.1) e_) | exact (fun e_ => ((HO_5.out.1 _ rfl).1.1.2) e_) | exact (fun e_ => ((HO_5.out.1 _ rfl).1.2.1) e_) | exact (fun e_ => ((HO_5.out.1 _ rfl).1.2.2) e_) | exact (fun e_ => ((HO_5.out.1 _ rfl).2.1.1) e_) | exact (fun e_ => ((HO_5.out.1 _ rfl).2.1.2) e_) | exact (fun e_ => ((HO_5.out.1 _ rfl).2.2.1) e_) | exact (fun e_ => ((HO_5.out.1 _ rfl).2.2.2) e_))
         rw [← Ny145.out] at ho
         have n0_ := Aside0.mk (Kd.R_after (ok := (fun k_ => some k_ ≠ (.slice (some ad108) t105.length co12 : Value).ownBlock ∧ some k_ ≠ (v150 : Value).ownBlock)) (by exact Ho.RS <| Kd.R_mono HO_4.out (fun _ hk => ⟨⟨hk.1.1, hk.2⟩, hk.1.2⟩)) hg hat)
         have n1_ := Aside0.mk (Kd.R_after (ok := (fun k_ => some k_ ≠ (.slice Ao13 x4_1.length co13 : Value).ownBlock ∧ some k_ ≠ (v150 : Value).ownBlock)) (by exact Ho.RS <| Kd.R_mono HO_5.out (fun _ hk => ⟨⟨hk.1.1, hk.2⟩, hk.1.2⟩)) hg hat)
         have n2_ := Aside0.mk (Kd.R_after (ok := (fun k_ => some k_ ≠ (.slice Ao13 x4_1.length co13 : Value).ownBlock ∧ some k_ ≠ (.slice (some ad108) t105.length co12 : Value).ownBlock)) (by exact Ho.RS <| Kd.R_mono HO151.out (fun _ hk => ⟨⟨hk.1.1.2, hk.1.2⟩, hk.2⟩)) hg hat)
         have n3_ := Aside0.mk (hb)
         have n4_ := Aside0.mk ((show Kd.C (Kd.int .i64) w57 Ao13 y141.length y141 from by rw [Ny141.out]; exact Kd.C_take (m := (x9_2 : Int).toNat) ((Kd.R_reads' (Kd.R_after (ok := (fun k_ => some k_ ≠ (.slice (some ad108) t105.length co12 : Value).ownBlock ∧ some k_ ≠ (v150 : Value).ownBlock)) (by exact Ho.RS <| Kd.R_mono HO_4.out (fun _ hk => ⟨⟨hk.1.1, hk.2⟩, hk.1.2⟩)) hg hat)).2.2) KL51.out))
         have n5_ := Aside0.mk ((show Kd.C (Kd.int .i64) w57 A52 y155.length y155 from by rw [Ny155.out, KA52.out]; exact Kd.C_drop (m := (x9_2 : Int).toNat) (c := co13) ((Kd.R_reads' (Kd.R_after (ok := (fun k_ => some k_ ≠ (.slice (some ad108) t105.length co12 : Value).ownBlock ∧ some k_ ≠ (v150 : Value).ownBlock)) (by exact Ho.RS <| Kd.R_mono HO_4.out (fun _ hk => ⟨⟨hk.1.1, hk.2⟩, hk.1.2⟩)) hg hat)).2.2) KL52.out ((Kd.R_reads' (Kd.R_after (ok := (fun k_ => some k_ ≠ (.slice (some ad108) t105.length co12 : Value).ownBlock ∧ some k_ ≠ (v150 : Value).ownBlock)) (by exact Ho.RS <| Kd.R_mono HO_4.out (fun _ hk => ⟨⟨hk.1.1, hk.2⟩, hk.1.2⟩)) hg hat)).2.1)))
         have n6_ := Aside0.mk (ho)
         clear HO_4
         clear HO_5
         clear HO151
         clear HB
         clear HR144
         clear HR158
         clear HO140
         have HO_4 := n0_
         have HO_5 := n1_
         have HO151 := n2_
         have HB := n3_
         have HR144 := n4_
         have HR158 := n5_
         have HO147 := n6_
         clear n0_ n1_ n2_ n3_ n4_ n5_ n6_
         clear ho hb hg hat
         refine hK.out _ _ (HS0_) (fun hHeld => ?_)
         clear hK K
         refine norm_ (a' := ?_) ?_ ?_
         rotate_left
         ·show Act.put _ (some 61) _ = _
          simp only [Z]
          rfl
         exact norm_ (by simp only [putAll, Act.put, List.setIfInBounds_toArray, List.set_cons_zero, List.set_cons_succ]) (hCont (v139, v146, v150) _ ⟨hHeld, (by exact Ho.RS <| Kd.R_mono HO147.out (fun _ hk => ⟨hk.2.2, ⟨hk.1, hk.2.1⟩⟩)), (by exact Ho.RS <| Kd.R_mono HO151.out (fun _ hk => ⟨hk.2, ⟨hk.1.1, hk.1.2⟩⟩)), (by exact Ho.RS <| Kd.R_mono HO_4.out (fun _ hk => ⟨hk.2, ⟨hk.1.2, hk.1.1⟩⟩)), (by exact Ho.RS <| Kd.R_mono HO_5.out (fun _ hk => ⟨hk.2, ⟨hk.1.2, hk.1.1⟩⟩)), (by exact eS HB.out)⟩)
       ·skip
        refine Kd.R_lit_step (Kd.int .i64) _ 3 ?hg (N := 66) ?hd (xs := ([rd t105 x6_1] : List Int)) (inner := [.int .i64 (rd t105 x6_1)]) (ok := fun _ => True) (okp := fun _ => True) ?hr ?hp (fun _ hk => hk) trivial (Below.refl _ _) (Nat.le_refl _) (by simp) ?_; (case hd => rfl); (case hg => rfl); (case hr => first | (go_simp; done) | (go_simp; rfl)); (case hp => exact (Reps.one (show Kd.M (Kd.int .i64) _ _ _ (rd t105 x6_1) [.int .i64 (rd t105 x6_1)] from rfl) (Reps.none _ _)))
        intro v150 w53 ho54 hb hg_ hnew_
        have HS0_ := (hb.cell (World.block_lt_of_cell? _ _ (hHeld))).trans (hHeld)
        clear hg_ hnew_
        (first | rw [← Ny149.out] at ho54 | (simp only [Int.reduceToNat] at ho54; rw [← Ny149.out] at ho54))
        have n0_ := Aside0.mk (Kd.R_elder' (by exact Ho.RS <| HO_4.out) (Kd.R_base ho54) hb)
        have n1_ := Aside0.mk (Kd.R_elder' (by exact Ho.RS <| HO_5.out) (Kd.R_base ho54) hb)
        have n2_ := Aside0.mk (Kd.R_lower (Kd.R_new' (Kd.R_new' ho54 (Kd.R_lt (by exact Ho.RS <| HO_4.out))) (Kd.R_lt (by exact Ho.RS <| HO_5.out))) (below_size (by exact eS HB.out)))
        have n3_ := Aside0.mk (Kd.C_below (by repeat (first | (with_reducible exact HR144.out) | (with_reducible refine Kd.C_alloc ?_ _) | (with_reducible refine Kd.C_drewN ?_ _) | (with_reducible refine Kd.C_drew ?_) | exact HR144.out)) hb)
        have n4_ := Aside0.mk (Kd.C_below (by repeat (first | (with_reducible exact HR158.out) | (with_reducible refine Kd.C_alloc ?_ _) | (with_reducible refine Kd.C_drewN ?_ _) | (with_reducible refine Kd.C_drew ?_) | exact HR158.out)) hb)
        have n5_ := Aside0.mk (below_step (by exact eS HB.out) hb)
        clear HO_4
        clear HO_5
        clear HR144
        clear HR158
        clear HB
        have HO_4 := n0_
        have HO_5 := n1_
        have HO151 := n2_
        have HR144 := n3_
        have HR158 := n4_
        have HB := n5_
        clear n0_ n1_ n2_ n3_ n4_ n5_
        clear hb ho54
        refine hK.out _ _ (HS0_) (fun hHeld => ?_)
        clear hK K
        refine norm_ (a' := ?_) ?_ ?_
        rotate_left
        ·show Act.put _ (some 66) _ = _
         simp only [Z]
         rfl
        refine one_ (i := 0) (N := some 57) #[I,I,I,I,O,I,I,I,I,I,O,I,I,I,O,O] rfl rfl (one_of HT_.out (by kernel_rfl)) (by decide) (fun K hK => ?_)
        refine Kd.R_lit_step (Kd.int .i64) _ 3 ?hg (N := 57) ?hd (xs := ([] : List Int)) (inner := []) (ok := fun _ => True) (okp := fun _ => True) ?hr ?hp (fun _ hk => hk) trivial (Below.refl _ _) (Nat.le_refl _) (by simp) ?_; (case hd => rfl); (case hg => rfl); (case hr => first | (go_simp; done) | (go_simp; rfl)); (case hp => exact (Reps.none _ _))
        intro v139 w55 ho56 hb hg_ hnew_
        have HS0_ := (hb.cell (World.block_lt_of_cell? _ _ (hHeld))).trans (hHeld)
        clear hg_ hnew_
        (first | rw [← Ny138.out] at ho56 | (simp only [Int.reduceToNat] at ho56; rw [← Ny138.out] at ho56))
        have n0_ := Aside0.mk (Kd.R_elder' (by exact Ho.RS <| HO_4.out) (Kd.R_base ho56) hb)
        have n1_ := Aside0.mk (Kd.R_elder' (by exact Ho.RS <| HO_5.out) (Kd.R_base ho56) hb)
        have n2_ := Aside0.mk (Kd.R_elder' (by exact Ho.RS <| HO151.out) (Kd.R_base ho56) hb)
        have n3_ := Aside0.mk (Kd.R_lower (Kd.R_new' (Kd.R_new' (Kd.R_new' ho56 (Kd.R_lt (by exact Ho.RS <| HO_4.out))) (Kd.R_lt (by exact Ho.RS <| HO_5.out))) (Kd.R_lt (by exact Ho.RS <| HO151.out))) (below_size (by exact eS HB.out)))
        have n4_ := Aside0.mk (Kd.C_below (by repeat (first | (with_reducible exact HR144.out) | (with_reducible refine Kd.C_alloc ?_ _) | (with_reducible refine Kd.C_drewN ?_ _) | (with_reducible refine Kd.C_drew ?_) | exact HR144.out)) hb)
        have n5_ := Aside0.mk (Kd.C_below (by repeat (first | (with_reducible exact HR158.out) | (with_reducible refine Kd.C_alloc ?_ _) | (with_reducible refine Kd.C_drewN ?_ _) | (with_reducible refine Kd.C_drew ?_) | exact HR158.out)) hb)
        have n6_ := Aside0.mk (below_step (by exact eS HB.out) hb)
        clear HO_4
        clear HO_5
        clear HO151
        clear HR144
        clear HR158
        clear HB
        have HO_4 := n0_
        have HO_5 := n1_
        have HO151 := n2_
        have HO140 := n3_
        have HR144 := n4_
        have HR158 := n5_
        have HB := n6_
        clear n0_ n1_ n2_ n3_ n4_ n5_ n6_
        clear hb ho56
        refine hK.out _ _ (HS0_) (fun hHeld => ?_)
        clear hK K
        refine norm_ (a' := ?_) ?_ ?_
        rotate_left
        ·show Act.put _ (some 57) _ = _
         simp only [Z]
         rfl
        refine one_ (i := 4) (N := some 61) #[I,I,I,I,I,I,I,I,I,I,O,I,I,I,O,O] rfl rfl (one_of HT_.out (by kernel_rfl)) (by decide) (fun K hK => ?_)
        refine Kd.R_append_rows_step (Kd.int .i64) (w0 := w) w.heap.size (by rfl) (.tmp 57) (.tmp 60) 22 3 (.int .i64 0) 8 rfl Try.underlying22 info3 rfl (by decide) (by omega) v139 y138 y141 _ _ _ (fun k_ => some k_ ≠ (.slice Ao13 x4_1.length co13 : Value).ownBlock ∧ some k_ ≠ (.slice (some ad108) t105.length co12 : Value).ownBlock ∧ some k_ ≠ (v150 : Value).ownBlock) (fun _ => False) rfl rfl ?aO ?aR (fun _ _ h => h) (fun _ h => h.elim) ?aF ?aB ?aS ?aL ?_
        (case aR => repeat (first | exact (by repeat (first | (with_reducible exact HR144.out) | (with_reducible refine Kd.C_alloc ?_ _) | (with_reducible refine Kd.C_drewN ?_ _) | (with_reducible refine Kd.C_drew ?_) | exact HR144.out)) | (with_reducible refine Kd.C_alloc ?_ _) | (with_reducible refine Kd.C_drewN ?_ _) | (with_reducible refine Kd.C_drew ?_)))
        (case aB => exact (by exact eS HB.out))
        (case aF => exact (fun k_ hk => ⟨Kd.fresh' (Kd.R_lt (by exact Ho.RS <| HO_4.out)) k_ hk, Kd.fresh' (Kd.R_lt (by exact Ho.RS <| HO_5.out)) k_ hk, Kd.fresh' (Kd.R_lt (by exact Ho.RS <| HO151.out)) k_ hk⟩))
        (case aO => exact (by exact Ho.RS <| Kd.R_mono HO140.out (fun _ hk => ⟨hk.1.1.2, ⟨hk.1.2, hk.2⟩⟩)))
        (case aS => exact (below_size (by exact eS HB.out)))
        (case aL => have := LMc43.out; omega)
        intro v146 w57 ho hb hg hat
        have HS0_ := cell_grown hg (hHeld) (by (first | rw [add_block] | (show some (Addr.add _ _).block ≠ _; rw [add_block]) | skip); first | exact (fun e_ => ((HO140.out.1 _ e_.symm)) rfl) | exact (fun e_ => ((HO140.out.1 _ e_.symm).1) rfl) | exact (fun e_ => ((HO140.out.1 _ e_.symm).2) rfl) | exact (fun e_ => ((HO140.out.1 _ e_.symm).1.1) rfl) | exact (fun e_ => ((HO140.out.1 _ e_.symm).1.2) rfl) | exact (fun e_ => ((HO140.out.1 _ e_.symm).2.1) rfl) | exact (fun e_ => ((HO140.out.1 _ e_.symm).2.2) rfl) | exact (fun e_ => ((HO140.out.1 _ e_.symm).1.1.1) rfl) | exact (fun e_ => ((HO140.out.1 _ e_.symm).1.1.2) rfl) | exact (fun e_ => ((HO140.out.1 _ e_.symm).1.2.1) rfl) | exact (fun e_ => ((HO140.out.1 _ e_.symm).1.2.2) rfl) | exact (fun e_ => ((HO140.out.1 _ e_.symm).2.1.1) rfl) | exact (fun e_ => ((HO140.out.1 _ e_.symm).2.1.2) rfl) | exact (fun e_ => ((HO140.out.1 _ e_.symm).2.2.1) rfl) | exact (fun e_ => ((HO140.out.1 _ e_.symm).2.2.2) rfl) | exact (fun e_ => ((HO_5.out.1 _ rfl)) e_) | exact (fun e_ => ((HO_5.out.1 _ rfl).1) e_) | exact (fun e_ => ((HO_5.out.1 _ rfl).2) e_) | exact (fun e_ => ((HO_5.out.1 _ rfl).1.1) e_) | exact (fun e_ => ((HO_5.out.1 _ rfl).1.2) e_) | exact (fun e_ => ((HO_5.out.1 _ rfl).2.1) e_) | exact (fun e_ => ((HO_5.out.1 _ rfl).2.2) e_) | exact (fun e_ => ((HO_5.out.1 _ rfl).1.1.1) e_) | exact (fun e_ => ((HO_5.out.1 _ rfl).1.1.2) e_) | exact (fun e_ => ((HO_5.out.1 _ rfl).1.2.1) e_) | exact (fun e_ => ((HO_5.out.1 _ rfl).1.2.2) e_) | exact (fun e_ => ((HO_5.out.1 _ rfl).2.1.1) e_) | exact (fun e_ => ((HO_5.out.1 _ rfl).2.1.2) e_) | exact (fun e_ => ((HO_5.out.1 _ rfl).2.2.1) e_) | exact (fun e_ => ((HO_5.out.1 _ rfl).2.2.2) e_))
        rw [← Ny145.out] at ho
        have n0_ := Aside0.mk (Kd.R_after (ok := (fun k_ => some k_ ≠ (.slice (some ad108) t105.length co12 : Value).ownBlock ∧ some k_ ≠ (v150 : Value).ownBlock)) (by exact Ho.RS <| HO_4.out) hg hat)
        have n1_ := Aside0.mk (Kd.R_after (ok := (fun k_ => some k_ ≠ (.slice Ao13 x4_1.length co13 : Value).ownBlock ∧ some k_ ≠ (v150 : Value).ownBlock)) (by exact Ho.RS <| HO_5.out) hg hat)
        have n2_ := Aside0.mk (Kd.R_after (ok := (fun k_ => some k_ ≠ (.slice Ao13 x4_1.length co13 : Value).ownBlock ∧ some k_ ≠ (.slice (some ad108) t105.length co12 : Value).ownBlock)) (by exact Ho.RS <| Kd.R_mono HO151.out (fun _ hk => ⟨⟨hk.1.1.2, hk.1.2⟩, hk.2⟩)) hg hat)
        have n3_ := Aside0.mk (hb)
        have n4_ := Aside0.mk ((show Kd.C (Kd.int .i64) w57 Ao13 y141.length y141 from by rw [Ny141.out]; exact Kd.C_take (m := (x9_2 : Int).toNat) ((Kd.R_reads' (Kd.R_after (ok := (fun k_ => some k_ ≠ (.slice (some ad108) t105.length co12 : Value).ownBlock ∧ some k_ ≠ (v150 : Value).ownBlock)) (by exact Ho.RS <| HO_4.out) hg hat)).2.2) KL51.out))
        have n5_ := Aside0.mk ((show Kd.C (Kd.int .i64) w57 A52 y155.length y155 from by rw [Ny155.out, KA52.out]; exact Kd.C_drop (m := (x9_2 : Int).toNat) (c := co13) ((Kd.R_reads' (Kd.R_after (ok := (fun k_ => some k_ ≠ (.slice (some ad108) t105.length co12 : Value).ownBlock ∧ some k_ ≠ (v150 : Value).ownBlock)) (by exact Ho.RS <| HO_4.out) hg hat)).2.2) KL52.out ((Kd.R_reads' (Kd.R_after (ok := (fun k_ => some k_ ≠ (.slice (some ad108) t105.length co12 : Value).ownBlock ∧ some k_ ≠ (v150 : Value).ownBlock)) (by exact Ho.RS <| HO_4.out) hg hat)).2.1)))
        have n6_ := Aside0.mk (ho)
        clear HO_4
        clear HO_5
        clear HO151
        clear HB
        clear HR144
        clear HR158
        clear HO140
        have HO_4 := n0_
        have HO_5 := n1_
        have HO151 := n2_
        have HB := n3_
        have HR144 := n4_
        have HR158 := n5_
        have HO147 := n6_
        clear n0_ n1_ n2_ n3_ n4_ n5_ n6_
        clear ho hb hg hat
        refine hK.out _ _ (HS0_) (fun hHeld => ?_)
        clear hK K
        refine norm_ (a' := ?_) ?_ ?_
        rotate_left
        ·show Act.put _ (some 61) _ = _
         simp only [Z]
         rfl
        exact norm_ (by simp only [putAll, Act.put, List.setIfInBounds_toArray, List.set_cons_zero, List.set_cons_succ]) (hCont (v139, v146, v150) _ ⟨hHeld, (by exact Ho.RS <| Kd.R_mono HO147.out (fun _ hk => ⟨hk.2.2, ⟨hk.1, hk.2.1⟩⟩)), (by exact Ho.RS <| Kd.R_mono HO151.out (fun _ hk => ⟨hk.2, ⟨hk.1.1, hk.1.2⟩⟩)), (by exact Ho.RS <| Kd.R_mono HO_4.out (fun _ hk => ⟨hk.2, ⟨hk.1.2, hk.1.1⟩⟩)), (by exact Ho.RS <| Kd.R_mono HO_5.out (fun _ hk => ⟨hk.2, ⟨hk.1.2, hk.1.1⟩⟩)), (by exact eS HB.out)⟩)
      rintro ⟨v139, v146, v150⟩ w58 ⟨hS_, h0_, h1_, h2_, h3_, h4_⟩
      have n0_ : Aside0 (Kd.R (Kd.int .i64) 3 w58 w.heap.size (fun k_ => some k_ ≠ (v150 : Value).ownBlock ∧ some k_ ≠ (.slice Ao13 x4_1.length co13 : Value).ownBlock ∧ some k_ ≠ (.slice (some ad108) t105.length co12 : Value).ownBlock) v146 y145) := ⟨h0_⟩
      have n1_ : Aside0 (Kd.R (Kd.int .i64) 3 w58 w.heap.size (fun k_ => some k_ ≠ (v146 : Value).ownBlock ∧ some k_ ≠ (.slice Ao13 x4_1.length co13 : Value).ownBlock ∧ some k_ ≠ (.slice (some ad108) t105.length co12 : Value).ownBlock) v150 y149) := ⟨h1_⟩
      have n2_ : Aside0 (Kd.R (Kd.int .i64) 3 w58 w.heap.size (fun k_ => some k_ ≠ (v146 : Value).ownBlock ∧ some k_ ≠ (v150 : Value).ownBlock ∧ some k_ ≠ (.slice (some ad108) t105.length co12 : Value).ownBlock) (.slice Ao13 x4_1.length co13) x4_1) := ⟨h2_⟩
      have n3_ : Aside0 (Kd.R (Kd.int .i64) 3 w58 w.heap.size (fun k_ => some k_ ≠ (v146 : Value).ownBlock ∧ some k_ ≠ (v150 : Value).ownBlock ∧ some k_ ≠ (.slice Ao13 x4_1.length co13 : Value).ownBlock) (.slice (some ad108) t105.length co12) t105) := ⟨h3_⟩
      have n4_ : Aside0 (Below w.heap.size w w58) := ⟨h4_⟩
      clear HO_4
      clear HO_5
      clear HB
      clear h0_ h1_ h2_ h3_ h4_
      have HO147 := n0_
      have HO151 := n1_
      have HO_4 := n2_
      have HO_5 := n3_
      have HB := n4_
      clear n0_ n1_ n2_ n3_ n4_
      have hHeld : w58.cell? (ad108.add (x6_1).toNat) = some (.int .i64 (rd t105 x6_1)) := hS_
      have HR144 := Aside0.mk (show Kd.C (Kd.int .i64) w58 Ao13 y141.length y141 from by rw [Ny141.out]; exact Kd.C_take (m := (x9_2 : Int).toNat) ((Kd.R_reads' (HO_4.out)).2.2) KL51.out)
      have HR158 := Aside0.mk (show Kd.C (Kd.int .i64) w58 A52 y155.length y155 from by rw [Ny155.out, KA52.out]; exact Kd.C_drop (m := (x9_2 : Int).toNat) (c := co13) ((Kd.R_reads' (HO_4.out)).2.2) KL52.out ((Kd.R_reads' (HO_4.out)).2.1))
      obtain ⟨Ao60, co60, eo60⟩ := Kd.R_slice HO151.out
      (first | subst eo60 | (injection eo60 with f1_ f2_ f3_; have f4_ := f1_.symm; have f5_ := f3_.symm; clear f1_ f2_ f3_; subst f4_; subst f5_))
      refine norm_ (a' := ?_) ?_ ?_
      rotate_left
      ·simp only [putAll, Act.put, List.setIfInBounds_toArray, List.set_cons_zero, List.set_cons_succ]
       rfl
      refine one_ (i := 10) (N := some 67) #[I,I,I,I,I,I,I,I,I,I,I,I,I,I,O,O] rfl rfl (one_of HT_.out (by kernel_rfl)) (by decide) (fun K hK => ?_)
      refine Kd.R_append_rows_step (Kd.int .i64) (w0 := w) w.heap.size (by rfl) (.tmp 61) (.tmp 66) 22 3 (.int .i64 0) 8 rfl Try.underlying22 info3 rfl (by decide) (by omega) v146 y145 y149 _ _ _ (fun k_ => some k_ ≠ (.slice Ao13 x4_1.length co13 : Value).ownBlock ∧ some k_ ≠ (.slice (some ad108) t105.length co12 : Value).ownBlock ∧ some k_ ≠ (.slice Ao60 y149.length co60 : Value).ownBlock) (fun _ => False) rfl rfl ?aO ?aR (fun _ _ h => h) (fun _ h => h.elim) ?aF ?aB ?aS ?aL ?_
      (case aR => repeat (first | exact (Kd.R_reads' HO151.out).2.2 | (with_reducible refine Kd.C_alloc ?_ _) | (with_reducible refine Kd.C_drewN ?_ _) | (with_reducible refine Kd.C_drew ?_)))
      (case aB => exact (by exact eS HB.out))
      (case aF => exact (fun k_ hk => ⟨Kd.fresh' (Kd.R_lt (by exact Ho.RS <| HO_4.out)) k_ hk, Kd.fresh' (Kd.R_lt (by exact Ho.RS <| HO_5.out)) k_ hk, Kd.fresh' (Kd.R_lt (by exact Ho.RS <| HO151.out)) k_ hk⟩))
      (case aO => exact (by exact Ho.RS <| Kd.R_mono HO147.out (fun _ hk => ⟨hk.2.1, ⟨hk.2.2, hk.1⟩⟩)))
      (case aS => exact (below_size (by exact eS HB.out)))
      (case aL => have := LMc46.out; omega)
      intro v153 w59 ho hb hg hat
      have HS0_ := cell_grown hg (hHeld) (by (first | rw [add_block] | (show some (Addr.add _ _).block ≠ _; rw [add_block]) | skip); first | exact (fun e_ => ((HO147.out.1 _ e_.symm)) rfl) | exact (fun e_ => ((HO147.out.1 _ e_.symm).1) rfl) | exact (fun e_ => ((HO147.out.1 _ e_.symm).2) rfl) | exact (fun e_ => ((HO147.out.1 _ e_.symm).1.1) rfl) | exact (fun e_ => ((HO147.out.1 _ e_.symm).1.2) rfl) | exact (fun e_ => ((HO147.out.1 _ e_.symm).2.1) rfl) | exact (fun e_ => ((HO147.out.1 _ e_.symm).2.2) rfl) | exact (fun e_ => ((HO147.out.1 _ e_.symm).1.1.1) rfl) | exact (fun e_ => ((HO147.out.1 _ e_.symm).1.1.2) rfl) | exact (fun e_ => ((HO147.out.1 _ e_.symm).1.2.1) rfl) | exact (fun e_ => ((HO147.out.1 _ e_.symm).1.2.2) rfl) | exact (fun e_ => ((HO147.out.1 _ e_.symm).2.1.1) rfl) | exact (fun e_ => ((HO147.out.1 _ e_.symm).2.1.2) rfl) | exact (fun e_ => ((HO147.out.1 _ e_.symm).2.2.1) rfl) | exact (fun e_ => ((HO147.out.1 _ e_.symm).2.2.2) rfl) | exact (fun e_ => ((HO_5.out.1 _ rfl)) e_) | exact (fun e_ => ((HO_5.out.1 _ rfl).1) e_) | exact (fun e_ => ((HO_5.out.1 _ rfl).2) e_) | exact (fun e_ => ((HO_5.out.1 _ rfl).1.1) e_) | exact (fun e_ => ((HO_5.out.1 _ rfl).1.2) e_) | exact (fun e_ => ((HO_5.out.1 _ rfl).2.1) e_) | exact (fun e_ => ((HO_5.out.1 _ rfl).2.2) e_) | exact (fun e_ => ((HO_5.out.1 _ rfl).1.1.1) e_) | exact (fun e_ => ((HO_5.out.1 _ rfl).1.1.2) e_) | exact (fun e_ => ((HO_5.out.1 _ rfl).1.2.1) e_) | exact (fun e_ => ((HO_5.out.1 _ rfl).1.2.2) e_) | exact (fun e_ => ((HO_5.out.1 _ rfl).2.1.1) e_) | exact (fun e_ => ((HO_5.out.1 _ rfl).2.1.2) e_) | exact (fun e_ => ((HO_5.out.1 _ rfl).2.2.1) e_) | exact (fun e_ => ((HO_5.out.1 _ rfl).2.2.2) e_))
      rw [← Ny152.out] at ho
      have n0_ := Aside0.mk (Kd.R_after (ok := (fun k_ => some k_ ≠ (.slice (some ad108) t105.length co12 : Value).ownBlock ∧ some k_ ≠ (.slice Ao60 y149.length co60 : Value).ownBlock)) (by exact Ho.RS <| Kd.R_mono HO_4.out (fun _ hk => ⟨⟨hk.2.2, hk.2.1⟩, hk.1⟩)) hg hat)
      have n1_ := Aside0.mk (Kd.R_after (ok := (fun k_ => some k_ ≠ (.slice Ao13 x4_1.length co13 : Value).ownBlock ∧ some k_ ≠ (.slice Ao60 y149.length co60 : Value).ownBlock)) (by exact Ho.RS <| Kd.R_mono HO_5.out (fun _ hk => ⟨⟨hk.2.2, hk.2.1⟩, hk.1⟩)) hg hat)
      have n2_ := Aside0.mk (Kd.R_after (ok := (fun k_ => some k_ ≠ (.slice Ao13 x4_1.length co13 : Value).ownBlock ∧ some k_ ≠ (.slice (some ad108) t105.length co12 : Value).ownBlock)) (by exact Ho.RS <| Kd.R_mono HO151.out (fun _ hk => ⟨⟨hk.2.1, hk.2.2⟩, hk.1⟩)) hg hat)
      have n3_ := Aside0.mk (hb)
      have n4_ := Aside0.mk ((show Kd.C (Kd.int .i64) w59 Ao13 y141.length y141 from by rw [Ny141.out]; exact Kd.C_take (m := (x9_2 : Int).toNat) ((Kd.R_reads' (Kd.R_after (ok := (fun k_ => some k_ ≠ (.slice (some ad108) t105.length co12 : Value).ownBlock ∧ some k_ ≠ (.slice Ao60 y149.length co60 : Value).ownBlock)) (by exact Ho.RS <| Kd.R_mono HO_4.out (fun _ hk => ⟨⟨hk.2.2, hk.2.1⟩, hk.1⟩)) hg hat)).2.2) KL51.out))
      have n5_ := Aside0.mk ((show Kd.C (Kd.int .i64) w59 A52 y155.length y155 from by rw [Ny155.out, KA52.out]; exact Kd.C_drop (m := (x9_2 : Int).toNat) (c := co13) ((Kd.R_reads' (Kd.R_after (ok := (fun k_ => some k_ ≠ (.slice (some ad108) t105.length co12 : Value).ownBlock ∧ some k_ ≠ (.slice Ao60 y149.length co60 : Value).ownBlock)) (by exact Ho.RS <| Kd.R_mono HO_4.out (fun _ hk => ⟨⟨hk.2.2, hk.2.1⟩, hk.1⟩)) hg hat)).2.2) KL52.out ((Kd.R_reads' (Kd.R_after (ok := (fun k_ => some k_ ≠ (.slice (some ad108) t105.length co12 : Value).ownBlock ∧ some k_ ≠ (.slice Ao60 y149.length co60 : Value).ownBlock)) (by exact Ho.RS <| Kd.R_mono HO_4.out (fun _ hk => ⟨⟨hk.2.2, hk.2.1⟩, hk.1⟩)) hg hat)).2.1)))
      have n6_ := Aside0.mk (ho)
      clear HO_4
      clear HO_5
      clear HO151
      clear HB
      clear HR144
      clear HR158
      clear HO147
      have HO_4 := n0_
      have HO_5 := n1_
      have HO151 := n2_
      have HB := n3_
      have HR144 := n4_
      have HR158 := n5_
      have HO154 := n6_
      clear n0_ n1_ n2_ n3_ n4_ n5_ n6_
      clear ho hb hg hat
      refine hK.out _ _ (HS0_) (fun hHeld => ?_)
      clear hK K
      refine norm_ (a' := ?_) ?_ ?_
      rotate_left
      ·show Act.put _ (some 67) _ = _
       simp only [Z]
       rfl
      refine one_ (i := 14) (N := some 71) #[I,I,I,I,I,I,I,I,I,I,I,I,I,I,I,O] rfl rfl (one_of HT_.out (by kernel_rfl)) (by decide) (fun K hK => ?_)
      refine Kd.R_append_rows_step (Kd.int .i64) (w0 := w) w.heap.size (by rfl) (.tmp 67) (.tmp 70) 22 3 (.int .i64 0) 8 rfl Try.underlying22 info3 rfl (by decide) (by omega) v153 y152 y155 _ _ _ (fun k_ => some k_ ≠ (.slice Ao13 x4_1.length co13 : Value).ownBlock ∧ some k_ ≠ (.slice (some ad108) t105.length co12 : Value).ownBlock ∧ some k_ ≠ (.slice Ao60 y149.length co60 : Value).ownBlock) (fun _ => False) rfl rfl ?aO ?aR (fun _ _ h => h) (fun _ h => h.elim) ?aF ?aB ?aS ?aL ?_
      (case aR => repeat (first | exact (by repeat (first | (with_reducible exact HR158.out) | (with_reducible refine Kd.C_alloc ?_ _) | (with_reducible refine Kd.C_drewN ?_ _) | (with_reducible refine Kd.C_drew ?_) | exact HR158.out)) | (with_reducible refine Kd.C_alloc ?_ _) | (with_reducible refine Kd.C_drewN ?_ _) | (with_reducible refine Kd.C_drew ?_)))
      (case aB => exact (by exact eS HB.out))
      (case aF => exact (fun k_ hk => ⟨Kd.fresh' (Kd.R_lt (by exact Ho.RS <| HO_4.out)) k_ hk, Kd.fresh' (Kd.R_lt (by exact Ho.RS <| HO_5.out)) k_ hk, Kd.fresh' (Kd.R_lt (by exact Ho.RS <| HO151.out)) k_ hk⟩))
      (case aO => exact (by exact Ho.RS <| HO154.out))
      (case aS => exact (below_size (by exact eS HB.out)))
      (case aL => have := LMc49.out; omega)
      intro v160 w61 ho hb hg hat
      have HS0_ := cell_grown hg (hHeld) (by (first | rw [add_block] | (show some (Addr.add _ _).block ≠ _; rw [add_block]) | skip); first | exact (fun e_ => ((HO154.out.1 _ e_.symm)) rfl) | exact (fun e_ => ((HO154.out.1 _ e_.symm).1) rfl) | exact (fun e_ => ((HO154.out.1 _ e_.symm).2) rfl) | exact (fun e_ => ((HO154.out.1 _ e_.symm).1.1) rfl) | exact (fun e_ => ((HO154.out.1 _ e_.symm).1.2) rfl) | exact (fun e_ => ((HO154.out.1 _ e_.symm).2.1) rfl) | exact (fun e_ => ((HO154.out.1 _ e_.symm).2.2) rfl) | exact (fun e_ => ((HO154.out.1 _ e_.symm).1.1.1) rfl) | exact (fun e_ => ((HO154.out.1 _ e_.symm).1.1.2) rfl) | exact (fun e_ => ((HO154.out.1 _ e_.symm).1.2.1) rfl) | exact (fun e_ => ((HO154.out.1 _ e_.symm).1.2.2) rfl) | exact (fun e_ => ((HO154.out.1 _ e_.symm).2.1.1) rfl) | exact (fun e_ => ((HO154.out.1 _ e_.symm).2.1.2) rfl) | exact (fun e_ => ((HO154.out.1 _ e_.symm).2.2.1) rfl) | exact (fun e_ => ((HO154.out.1 _ e_.symm).2.2.2) rfl) | exact (fun e_ => ((HO_5.out.1 _ rfl)) e_) | exact (fun e_ => ((HO_5.out.1 _ rfl).1) e_) | exact (fun e_ => ((HO_5.out.1 _ rfl).2) e_) | exact (fun e_ => ((HO_5.out.1 _ rfl).1.1) e_) | exact (fun e_ => ((HO_5.out.1 _ rfl).1.2) e_) | exact (fun e_ => ((HO_5.out.1 _ rfl).2.1) e_) | exact (fun e_ => ((HO_5.out.1 _ rfl).2.2) e_) | exact (fun e_ => ((HO_5.out.1 _ rfl).1.1.1) e_) | exact (fun e_ => ((HO_5.out.1 _ rfl).1.1.2) e_) | exact (fun e_ => ((HO_5.out.1 _ rfl).1.2.1) e_) | exact (fun e_ => ((HO_5.out.1 _ rfl).1.2.2) e_) | exact (fun e_ => ((HO_5.out.1 _ rfl).2.1.1) e_) | exact (fun e_ => ((HO_5.out.1 _ rfl).2.1.2) e_) | exact (fun e_ => ((HO_5.out.1 _ rfl).2.2.1) e_) | exact (fun e_ => ((HO_5.out.1 _ rfl).2.2.2) e_))
      rw [← Ny159.out] at ho
      have n0_ := Aside0.mk (Kd.R_after (ok := (fun k_ => some k_ ≠ (.slice (some ad108) t105.length co12 : Value).ownBlock ∧ some k_ ≠ (.slice Ao60 y149.length co60 : Value).ownBlock)) (by exact Ho.RS <| HO_4.out) hg hat)
      have n1_ := Aside0.mk (Kd.R_after (ok := (fun k_ => some k_ ≠ (.slice Ao13 x4_1.length co13 : Value).ownBlock ∧ some k_ ≠ (.slice Ao60 y149.length co60 : Value).ownBlock)) (by exact Ho.RS <| HO_5.out) hg hat)
      have n2_ := Aside0.mk (Kd.R_after (ok := (fun k_ => some k_ ≠ (.slice Ao13 x4_1.length co13 : Value).ownBlock ∧ some k_ ≠ (.slice (some ad108) t105.length co12 : Value).ownBlock)) (by exact Ho.RS <| HO151.out) hg hat)
      have n3_ := Aside0.mk (hb)
      have n4_ := Aside0.mk ((show Kd.C (Kd.int .i64) w61 Ao13 y141.length y141 from by rw [Ny141.out]; exact Kd.C_take (m := (x9_2 : Int).toNat) ((Kd.R_reads' (Kd.R_after (ok := (fun k_ => some k_ ≠ (.slice (some ad108) t105.length co12 : Value).ownBlock ∧ some k_ ≠ (.slice Ao60 y149.length co60 : Value).ownBlock)) (by exact Ho.RS <| HO_4.out) hg hat)).2.2) KL51.out))
      have n5_ := Aside0.mk ((show Kd.C (Kd.int .i64) w61 A52 y155.length y155 from by rw [Ny155.out, KA52.out]; exact Kd.C_drop (m := (x9_2 : Int).toNat) (c := co13) ((Kd.R_reads' (Kd.R_after (ok := (fun k_ => some k_ ≠ (.slice (some ad108) t105.length co12 : Value).ownBlock ∧ some k_ ≠ (.slice Ao60 y149.length co60 : Value).ownBlock)) (by exact Ho.RS <| HO_4.out) hg hat)).2.2) KL52.out ((Kd.R_reads' (Kd.R_after (ok := (fun k_ => some k_ ≠ (.slice (some ad108) t105.length co12 : Value).ownBlock ∧ some k_ ≠ (.slice Ao60 y149.length co60 : Value).ownBlock)) (by exact Ho.RS <| HO_4.out) hg hat)).2.1)))
      have n6_ := Aside0.mk (ho)
      clear HO_4
      clear HO_5
      clear HO151
      clear HB
      clear HR144
      clear HR158
      clear HO154
      have HO_4 := n0_
      have HO_5 := n1_
      have HO151 := n2_
      have HB := n3_
      have HR144 := n4_
      have HR158 := n5_
      have HO161 := n6_
      clear n0_ n1_ n2_ n3_ n4_ n5_ n6_
      clear ho hb hg hat
      refine hK.out _ _ (HS0_) (fun hHeld => ?_)
      clear hK K
      refine norm_ (a' := ?_) ?_ ?_
      rotate_left
      ·show Act.put _ (some 71) _ = _
       simp only [Z]
       rfl
      refine pure_ (i := 15) (N := some 4) (v := ?_) (a' := ?_) #[I,I,I,I,I,I,I,I,I,I,I,I,I,I,I,I] rfl rfl (any_of HT_.out (by kernel_rfl)) (fun _ _ _ h => h) (Or.inl ⟨by rfl, ?_⟩) ?_ ?_
      rotate_left; (intro w'; go_simp; with_reducible rfl); rotate_left; (simp only [Z]; rfl)
      refine done_ (done_of HT_.out (by kernel_rfl)) ?_
      try go_wp2
      go_roundg k2
      case measure => have := HK1.out; have := HK2.out; omega
      case rel => exact ⟨(y159), (wrap64 (x6_1 + 1)), (by first | rfl | (simp; done) | (simp [*]; done)), H', ⟨by have := HK1.out; have := HK2.out; omega⟩, ⟨by exact Ho.RS <| Kd.R_mono HO161.out (fun _ hk => hk.2.1)⟩, ⟨by exact Ho.RS <| Kd.R_mono HO_5.out (fun _ hk => hk.2)⟩, ⟨by exact eS HB.out⟩⟩
     rw [if_pos c14] at H
     have c14b0 : decide (0 < x9_2) = true := decide_eq_true c14
     clear c14
     obtain ⟨ji15, hji15⟩ : ∃ j_ : Int, (wrap64 (x9_2 - 1)) = j_ := ⟨_, rfl⟩
     replace H : (if 0 ≤ (ji15) then (if (ji15) < (x4_1.length : Int) then ((Fy.f k2 l0 (rd x4_1 (ji15))).bind fun bt112 => (if (wrap64 (bt112.1 * t110)) ≤ (wrap64 (t109 * bt112.2)) then ((some (([] : List Int) : List Int)).bind fun y114 => (if 0 ≤ x9_2 then (if x9_2 ≤ (x4_1.length : Int) then ((some (x4_1.take (x9_2 : Int).toNat : List Int)).bind fun y117 => (if y114.length + y117.length < 17592186044416 then ((some (y114 ++ y117 : List Int)).bind fun y121 => (if 0 ≤ x6_1 then (if x6_1 < (t105.length : Int) then ((some (([rd t105 x6_1] : List Int) : List Int)).bind fun y125 => (if y121.length + y125.length < 17592186044416 then ((some (y121 ++ y125 : List Int)).bind fun y128 => ((some (x4_1.drop (x9_2 : Int).toNat : List Int)).bind fun y131 => (if y128.length + y131.length < 17592186044416 then (Fe.l0 k2 l0 (y128 ++ y131) t105 (wrap64 (x6_1 + 1))) else (none)))) else (none))) else (none)) else (none))) else (none))) else (none)) else (none))) else (Fe.l1 k2 l0 x4_1 t105 x6_1 t109 t110 ji15))) else (none)) else (none)) = some (r1, r2) := by first | (rw [hji15] at H; exact H) | (simp only [hji15] at H ⊢; exact H)
     have hji15w : (IntKind.i64.wrap (x9_2 - 1)) = ji15 := (i64_w _).trans hji15
     by_cases c16 : 0 ≤ (ji15)
     rotate_left
     ·rw [if_neg c16] at H
      exact absurd H (by simp)
     rw [if_pos c16] at H
     have c16b0 : decide (0 ≤ (ji15)) = true := decide_eq_true c16
     clear c16
     by_cases c17 : (ji15) < (x4_1.length : Int)
     rotate_left
     ·rw [if_neg c17] at H
      exact absurd H (by simp)
     rw [if_pos c17] at H
     have c17b0 : decide ((ji15) < (x4_1.length : Int)) = true := decide_eq_true c17
     clear c17
     replace H := Option.bind_eq_some_iff.mp H
     obtain ⟨⟨t112, t113⟩, A180, H⟩ := H
     (try dsimp only at H)
     have A18 := Aside0.mk A180
     clear A180
     by_cases c19 : (wrap64 (t112 * t110)) ≤ (wrap64 (t109 * t113))
     rotate_left
     ·rw [if_neg c19] at H
      have c19b0 : decide ((wrap64 (t112 * t110)) ≤ (wrap64 (t109 * t113))) = false := decide_eq_false c19
      clear c19
      have H' := Aside0.mk H
      clear H
      have p111 : 0 ≤ ((ji15) : Int) := Dz
      have q111 : (ji15) < (x4_1.length : Int) := Dz
      obtain ⟨ad111, e111, hx111_0⟩ := Kd.at_int (Kd.R_reads' HO_4.out).2.2 (ji15) p111 q111
      cases e111
      replace p111 := eq_true p111
      replace q111 := eq_true q111
      go_wp2_with (first | ((with_reducible refine gate_callee (f := 76) rfl ?_); refine goesL_ (some 45) rfl rfl Try.func76 (by kernel_rfl) rfl #[.slice A0 l0.length c0, .int .i64 (rd x4_1 (ji15))] rfl (by (try simp only [List.map_toArray, List.map_cons, List.map_nil]); first | done | (simp only [hji15]; rfl) | rfl | (simp only [List.length_drop, List.length_take]; rfl)) ?_; (with_reducible refine (Fy.calls k2 _ _ l0 (rd x4_1 (ji15)) t112 t113 _ ?side1 ?side2 A18.out).mono ?_); (case side1 => repeat (first | exact (Kd.C_below HR0.out HB.out) | (with_reducible refine Kd.C_alloc ?_ _) | (with_reducible refine Kd.C_drewN ?_ _) | (with_reducible refine Kd.C_drew ?_))); (case side2 => exact HC0.out); rintro e w' ⟨rfl, ⟨nd, rfl⟩⟩; refine ⟨_, rfl, ?_⟩))
      go_roundg k2
      case measure => have := HK1.out; have := HK2.out; omega
      case rel => exact ⟨(ji15), (by first | rfl | (simp; done) | (simp only [← hji15] <;> (first | rfl | simp)) | (simp [*]; done)), H', ⟨by have := HK1.out; have := HK2.out; omega⟩, ⟨by exact Ho.RS <| HO_4.out⟩, ⟨by exact Ho.RS <| HO_5.out⟩, ⟨by exact eS HB.out⟩⟩
     rw [if_pos c19] at H
     have c19b0 : decide ((wrap64 (t112 * t110)) ≤ (wrap64 (t109 * t113))) = true := decide_eq_true c19
     clear c19
     obtain ⟨y114, hy114⟩ : ∃ y_ : List Int, y_ = (([] : List Int)) := ⟨_, rfl⟩
     replace H : (if 0 ≤ x9_2 then (if x9_2 ≤ (x4_1.length : Int) then ((some (x4_1.take (x9_2 : Int).toNat : List Int)).bind fun y117 => (if y114.length + y117.length < 17592186044416 then ((some (y114 ++ y117 : List Int)).bind fun y121 => (if 0 ≤ x6_1 then (if x6_1 < (t105.length : Int) then ((some (([rd t105 x6_1] : List Int) : List Int)).bind fun y125 => (if y121.length + y125.length < 17592186044416 then ((some (y121 ++ y125 : List Int)).bind fun y128 => ((some (x4_1.drop (x9_2 : Int).toNat : List Int)).bind fun y131 => (if y128.length + y131.length < 17592186044416 then (Fe.l0 k2 l0 (y128 ++ y131) t105 (wrap64 (x6_1 + 1))) else (none)))) else (none))) else (none)) else (none))) else (none))) else (none)) else (none)) = some (r1, r2) := by first | (rw [hy114]; with_reducible exact H) | (have H2_ := (Option.bind_some _ _).symm.trans H; rw [hy114]; with_reducible exact H2_) | (have H2_ := (Option.bind_some _ _).symm.trans H; with_reducible exact H2_) | with_reducible exact H | (rw [hy114]; exact H) | exact H
     have Ny114 := Aside0.mk hy114
     clear hy114
     by_cases c20 : 0 ≤ x9_2
     rotate_left
     ·rw [if_neg c20] at H
      exact absurd H (by simp)
     rw [if_pos c20] at H
     have c20b0 := eq_true c20
     have c20b1 : decide (0 ≤ x9_2) = true := decide_eq_true c20
     clear c20
     by_cases c21 : x9_2 ≤ (x4_1.length : Int)
     rotate_left
     ·rw [if_neg c21] at H
      exact absurd H (by simp)
     rw [if_pos c21] at H
     have c21b0 := eq_true c21
     have c21b1 : decide (x9_2 ≤ (x4_1.length : Int)) = true := decide_eq_true c21
     clear c21
     obtain ⟨y117, hy117⟩ : ∃ y_ : List Int, y_ = (x4_1.take (x9_2 : Int).toNat) := ⟨_, rfl⟩
     replace H : (if y114.length + y117.length < 17592186044416 then ((some (y114 ++ y117 : List Int)).bind fun y121 => (if 0 ≤ x6_1 then (if x6_1 < (t105.length : Int) then ((some (([rd t105 x6_1] : List Int) : List Int)).bind fun y125 => (if y121.length + y125.length < 17592186044416 then ((some (y121 ++ y125 : List Int)).bind fun y128 => ((some (x4_1.drop (x9_2 : Int).toNat : List Int)).bind fun y131 => (if y128.length + y131.length < 17592186044416 then (Fe.l0 k2 l0 (y128 ++ y131) t105 (wrap64 (x6_1 + 1))) else (none)))) else (none))) else (none)) else (none))) else (none)) = some (r1, r2) := by first | (rw [hy117]; with_reducible exact H) | (have H2_ := (Option.bind_some _ _).symm.trans H; rw [hy117]; with_reducible exact H2_) | (have H2_ := (Option.bind_some _ _).symm.trans H; with_reducible exact H2_) | with_reducible exact H | (rw [hy117]; exact H) | exact H
     have Ny117 := Aside0.mk hy117
     clear hy117
     by_cases c22 : y114.length + y117.length < 17592186044416
     rotate_left
     ·rw [if_neg c22] at H
      exact absurd H (by simp)
     rw [if_pos c22] at H
     have LMc22 := Aside0.mk c22
     clear c22
     obtain ⟨y121, hy121⟩ : ∃ y_ : List Int, y_ = (y114 ++ y117) := ⟨_, rfl⟩
     replace H : (if 0 ≤ x6_1 then (if x6_1 < (t105.length : Int) then ((some (([rd t105 x6_1] : List Int) : List Int)).bind fun y125 => (if y121.length + y125.length < 17592186044416 then ((some (y121 ++ y125 : List Int)).bind fun y128 => ((some (x4_1.drop (x9_2 : Int).toNat : List Int)).bind fun y131 => (if y128.length + y131.length < 17592186044416 then (Fe.l0 k2 l0 (y128 ++ y131) t105 (wrap64 (x6_1 + 1))) else (none)))) else (none))) else (none)) else (none)) = some (r1, r2) := by first | (rw [hy121]; with_reducible exact H) | (have H2_ := (Option.bind_some _ _).symm.trans H; rw [hy121]; with_reducible exact H2_) | (have H2_ := (Option.bind_some _ _).symm.trans H; with_reducible exact H2_) | with_reducible exact H | (rw [hy121]; exact H) | exact H
     have Ny121 := Aside0.mk hy121
     clear hy121
     by_cases c23 : 0 ≤ x6_1
     rotate_left
     ·rw [if_neg c23] at H
      exact absurd H (by simp)
     rw [if_pos c23] at H
     have c23b0 : decide (0 ≤ x6_1) = true := decide_eq_true c23
     clear c23
     by_cases c24 : x6_1 < (t105.length : Int)
     rotate_left
     ·rw [if_neg c24] at H
      exact absurd H (by simp)
     rw [if_pos c24] at H
     have c24b0 : decide (x6_1 < (t105.length : Int)) = true := decide_eq_true c24
     clear c24
     obtain ⟨y125, hy125⟩ : ∃ y_ : List Int, y_ = (([rd t105 x6_1] : List Int)) := ⟨_, rfl⟩
     replace H : (if y121.length + y125.length < 17592186044416 then ((some (y121 ++ y125 : List Int)).bind fun y128 => ((some (x4_1.drop (x9_2 : Int).toNat : List Int)).bind fun y131 => (if y128.length + y131.length < 17592186044416 then (Fe.l0 k2 l0 (y128 ++ y131) t105 (wrap64 (x6_1 + 1))) else (none)))) else (none)) = some (r1, r2) := by first | (rw [hy125]; with_reducible exact H) | (have H2_ := (Option.bind_some _ _).symm.trans H; rw [hy125]; with_reducible exact H2_) | (have H2_ := (Option.bind_some _ _).symm.trans H; with_reducible exact H2_) | with_reducible exact H | (rw [hy125]; exact H) | exact H
     have Ny125 := Aside0.mk hy125
     clear hy125
     by_cases c25 : y121.length + y125.length < 17592186044416
     rotate_left
     ·rw [if_neg c25] at H
      exact absurd H (by simp)
     rw [if_pos c25] at H
     have LMc25 := Aside0.mk c25
     clear c25
     obtain ⟨y128, hy128⟩ : ∃ y_ : List Int, y_ = (y121 ++ y125) := ⟨_, rfl⟩
     replace H : ((some (x4_1.drop (x9_2 : Int).toNat : List Int)).bind fun y131 => (if y128.length + y131.length < 17592186044416 then (Fe.l0 k2 l0 (y128 ++ y131) t105 (wrap64 (x6_1 + 1))) else (none))) = some (r1, r2) := by first | (rw [hy128]; with_reducible exact H) | (have H2_ := (Option.bind_some _ _).symm.trans H; rw [hy128]; with_reducible exact H2_) | (have H2_ := (Option.bind_some _ _).symm.trans H; with_reducible exact H2_) | with_reducible exact H | (rw [hy128]; exact H) | exact H
     have Ny128 := Aside0.mk hy128
     clear hy128
     have c26b0 := eq_true (Dz : 0 ≤ x9_2)
     have c27b0 := eq_true (Dz : x9_2 ≤ (x4_1.length : Int))
     obtain ⟨y131, hy131⟩ : ∃ y_ : List Int, y_ = (x4_1.drop (x9_2 : Int).toNat) := ⟨_, rfl⟩
     replace H : (if y128.length + y131.length < 17592186044416 then (Fe.l0 k2 l0 (y128 ++ y131) t105 (wrap64 (x6_1 + 1))) else (none)) = some (r1, r2) := by first | (rw [hy131]; with_reducible exact H) | (have H2_ := (Option.bind_some _ _).symm.trans H; rw [hy131]; with_reducible exact H2_) | (have H2_ := (Option.bind_some _ _).symm.trans H; with_reducible exact H2_) | with_reducible exact H | (rw [hy131]; exact H) | exact H
     have Ny131 := Aside0.mk hy131
     clear hy131
     by_cases c28 : y128.length + y131.length < 17592186044416
     rotate_left
     ·rw [if_neg c28] at H
      exact absurd H (by simp)
     rw [if_pos c28] at H
     have LMc28 := Aside0.mk c28
     clear c28
     obtain ⟨y135, hy135⟩ : ∃ y_ : List Int, y_ = (y128 ++ y131) := ⟨_, rfl⟩
     replace H : (Fe.l0 k2 l0 y135 t105 (wrap64 (x6_1 + 1))) = some (r1, r2) := by first | (rw [hy135]; with_reducible exact H) | (have H2_ := (Option.bind_some _ _).symm.trans H; rw [hy135]; with_reducible exact H2_) | (have H2_ := (Option.bind_some _ _).symm.trans H; with_reducible exact H2_) | with_reducible exact H | (rw [hy135]; exact H) | exact H
     have Ny135 := Aside0.mk hy135
     clear hy135
     have H' := Aside0.mk H
     clear H
     have p111 : 0 ≤ ((ji15) : Int) := Dz
     have q111 : (ji15) < (x4_1.length : Int) := Dz
     obtain ⟨ad111, e111, hx111_0⟩ := Kd.at_int (Kd.R_reads' HO_4.out).2.2 (ji15) p111 q111
     cases e111
     replace p111 := eq_true p111
     replace q111 := eq_true q111
     try go_wp2_with (first | ((with_reducible refine gate_callee (f := 76) rfl ?_); refine goesL_ (some 45) rfl rfl Try.func76 (by kernel_rfl) rfl #[.slice A0 l0.length c0, .int .i64 (rd x4_1 (ji15))] rfl (by (try simp only [List.map_toArray, List.map_cons, List.map_nil]); first | done | (simp only [hji15]; rfl) | rfl | (simp only [List.length_drop, List.length_take]; rfl)) ?_; (with_reducible refine (Fy.calls k2 _ _ l0 (rd x4_1 (ji15)) t112 t113 _ ?side1 ?side2 A18.out).mono ?_); (case side1 => repeat (first | exact (Kd.C_below HR0.out HB.out) | (with_reducible refine Kd.C_alloc ?_ _) | (with_reducible refine Kd.C_drewN ?_ _) | (with_reducible refine Kd.C_drew ?_))); (case side2 => exact HC0.out); rintro e w' ⟨rfl, ⟨nd, rfl⟩⟩; refine ⟨_, rfl, ?_⟩))
     (try (rw [drewN_self wr]; generalize hq_ : World.drewN wr _ = wr; have n0_ : Aside0 (Kd.R (Kd.int .i64) 3 wr w.heap.size (fun k_ => some k_ ≠ (.slice (some ad108) t105.length co12 : Value).ownBlock) (.slice (some ad111) x4_1.length co13) x4_1) := ⟨by rw [← hq_]; exact (by exact Ho.RS <| HO_4.out)⟩; have n1_ : Aside0 (Kd.R (Kd.int .i64) 3 wr w.heap.size (fun k_ => some k_ ≠ (.slice (some ad111) x4_1.length co13 : Value).ownBlock) (.slice (some ad108) t105.length co12) t105) := ⟨by rw [← hq_]; exact (by exact Ho.RS <| HO_5.out)⟩; have n2_ : Aside0 (Below w.heap.size w wr) := ⟨by rw [← hq_]; exact (by exact eS HB.out)⟩; clear HO_4 HO_5 HB hq_; have HO_4 := n0_; have HO_5 := n1_; have HB := n2_; clear n0_ n1_ n2_))
     have n0_ := Aside0.mk (Kd.R_drew HO_4.out)
     have n1_ := Aside0.mk (Kd.R_drew HO_5.out)
     have n2_ := Aside0.mk (below_drew1 HB.out)
     clear HO_4
     clear HO_5
     clear HB
     have HO_4 := n0_
     have HO_5 := n1_
     have HB := n2_
     clear n0_ n1_ n2_
     have q30 : (x9_2 : Int) ≤ ((x4_1.length : Int) : Int) := Dz
     obtain ⟨i030, hi030, _, hsz30, _⟩ := info_parts info3
     have hroom30 : x4_1.length ≤ co13 := (Kd.R_reads' HO_4.out).2.1
     have hC30 : Kd.C (Kd.int .i64) _ (some ad111) x4_1.length x4_1 := (Kd.R_reads' HO_4.out).2.2
     have hcut30 := cut_to (P := Try.prog) 22 3 .i64 Try.underlying22 hi030 (some ad111) x4_1.length co13 x9_2 Dz q30 hroom30
     have hr30 := Kd.C_take (m := (x9_2 : Int).toNat) hC30 (by omega)
     have hy30 : y117.length = (x9_2 : Int).toNat := (by rw [Ny117.out, List.length_take]; omega)
     rw [← Ny117.out] at hr30
     rw [← hy30] at hcut30
     have HR120 := Aside0.mk hr30
     have HC120 := Aside0.mk (show y117.length ≤ co13 from by omega)
     clear hr30 hC30 hroom30 hi030 hsz30
     have KY30 := Aside0.mk hy30
     clear hy30
     have KL30 := Aside0.mk (show (x9_2 : Int).toNat ≤ x4_1.length from by omega)
     replace q30 := eq_true q30
     have p124 : 0 ≤ (x6_1 : Int) := Dz
     have q124 : x6_1 < (t105.length : Int) := Dz
     obtain ⟨ad124, e124, hx124_0⟩ := Kd.at_int (Kd.R_reads' HO_5.out).2.2 x6_1 p124 q124
     obtain rfl : ad108 = ad124 := (by injection e124)
     replace p124 := eq_true p124
     replace q124 := eq_true q124
     have q31 : (x9_2 : Int) ≤ ((x4_1.length : Int) : Int) := Dz
     obtain ⟨i031, hi031, _, hsz31, _⟩ := info_parts info3
     have hroom31 : x4_1.length ≤ co13 := (Kd.R_reads' HO_4.out).2.1
     have hC31 : Kd.C (Kd.int .i64) _ (some ad111) x4_1.length x4_1 := (Kd.R_reads' HO_4.out).2.2
     have q031 : (0 : Int) ≤ (x9_2 : Int) := Dz
     have hcut31 := cut_from (P := Try.prog) 22 3 .i64 Try.underlying22 hi031 1 hsz31 (some ad111) x4_1.length co13 x9_2 q031 q31
     have hr31 := Kd.C_drop (m := (x9_2 : Int).toNat) (c := co13) hC31 (by omega) hroom31
     obtain ⟨A31, hA31⟩ : ∃ A1, A1 = (if co13 = (x9_2 : Int).toNat then (some ad111) else ((some ad111) : Option Addr).map (·.add ((x9_2 : Int).toNat * 1))) := ⟨_, rfl⟩
     obtain ⟨c31, hc31⟩ : ∃ c1, c1 = co13 - (x9_2 : Int).toNat := ⟨_, rfl⟩
     have hy31 : y131.length = x4_1.length - (x9_2 : Int).toNat := (by rw [Ny131.out, List.length_drop] <;> omega)
     rw [show (x4_1).drop (x9_2 : Int).toNat = y131 from Ny131.out.symm] at hr31
     replace hr31 : Kd.C (Kd.int .i64) _ A31 y131.length y131 := (by rw [hA31]; exact hr31)
     rw [← hy31, ← hA31, ← hc31] at hcut31
     have HR134 := Aside0.mk hr31
     have HC134 := Aside0.mk (show y131.length ≤ c31 from by rw [hy31, hc31]; exact Nat.sub_le_sub_right hroom31 _)
     clear hr31 hC31 hroom31 hi031 hsz31 hc31
     have KY31 := Aside0.mk hy31
     have KA31 := Aside0.mk hA31
     clear hy31 hA31
     have KL31 := Aside0.mk (show (x9_2 : Int).toNat ≤ x4_1.length from by omega)
     replace q31 := eq_true q31
     refine start_ (n := 16) (S := fun w' => w'.cell? (ad108.add (x6_1).toNat) = some (.int .i64 (rd t105 x6_1))) (ds := []) #[O,O,O,O,O,O,O,O,O,O,O,O,O,O,O,O] (by kernel_rfl) rfl rfl (hx124_0) (fun hHeld => ?_); refine with_tabW Fe.tab14 Fe.bits14 (fun HT_ HW_ => ?_)
     generalize wr.drew = w29 at HO_4 HO_5 HB HR120 HR134 hx124_0 hHeld ⊢
     refine pure_ (i := 1) (N := some 58) (v := ?_) (a' := ?_) #[O,I,O,O,O,O,O,O,O,O,O,O,O,O,O,O] rfl rfl (any_of HT_.out (by kernel_rfl)) (fun _ _ _ h => h) (Or.inl ⟨by rfl, ?_⟩) ?_ ?_
     rotate_left; (intro w'; go_simp; with_reducible rfl); rotate_left; (simp only [Z]; rfl)
     refine pure_ (i := 2) (N := some 59) (v := ?_) (a' := ?_) #[O,I,I,O,O,O,O,O,O,O,O,O,O,O,O,O] rfl rfl (any_of HT_.out (by kernel_rfl)) (fun _ _ _ h => h) (Or.inl ⟨by rfl, ?_⟩) ?_ ?_
     rotate_left; (intro w'; go_simp; with_reducible rfl); rotate_left; (simp only [Z]; rfl)
     refine pure_ (i := 3) (N := some 60) (v := ?_) (a' := ?_) #[O,I,I,I,O,O,O,O,O,O,O,O,O,O,O,O] rfl rfl (any_of HT_.out (by kernel_rfl)) (fun _ _ _ h => h) (Or.inl ⟨by rfl, ?_⟩) ?_ ?_
     rotate_left; (intro w'; go_simp; with_reducible rfl); rotate_left; (simp only [Z]; rfl)
     refine pure_ (i := 5) (N := some 62) (v := ?_) (a' := ?_) #[O,I,I,I,O,I,O,O,O,O,O,O,O,O,O,O] rfl rfl (any_of HT_.out (by kernel_rfl)) (fun _ _ _ h => h) (Or.inl ⟨by rfl, ?_⟩) ?_ ?_
     rotate_left; (intro w'; go_simp; with_reducible rfl); rotate_left; (simp only [Z]; rfl)
     refine pure_ (i := 6) (N := some 63) (v := ?_) (a' := ?_) #[O,I,I,I,O,I,I,O,O,O,O,O,O,O,O,O] rfl rfl (any_of HT_.out (by kernel_rfl)) (fun _ _ _ h => h) (Or.inl ⟨by rfl, ?_⟩) ?_ ?_
     rotate_left; (intro w'; go_simp; with_reducible rfl); rotate_left; (simp only [Z]; rfl)
     refine pure_ (i := 7) (N := some 64) (v := ?_) (a' := ?_) #[O,I,I,I,O,I,I,I,O,O,O,O,O,O,O,O] rfl rfl (any_of HT_.out (by kernel_rfl)) (fun _ _ _ h => h) (Or.inl ⟨by rfl, ?_⟩) ?_ ?_
     rotate_left; (intro w'; go_simp; with_reducible rfl); rotate_left; (simp only [Z]; rfl)
     refine pure_ (i := 11) (N := some 68) (v := ?_) (a' := ?_) #[O,I,I,I,O,I,I,I,O,O,O,I,O,O,O,O] rfl rfl (any_of HT_.out (by kernel_rfl)) (fun _ _ _ h => h) (Or.inl ⟨by rfl, ?_⟩) ?_ ?_
     rotate_left; (intro w'; go_simp; with_reducible rfl); rotate_left; (simp only [Z]; rfl)
     refine pure_ (i := 12) (N := some 69) (v := ?_) (a' := ?_) #[O,I,I,I,O,I,I,I,O,O,O,I,I,O,O,O] rfl rfl (any_of HT_.out (by kernel_rfl)) (fun _ _ _ h => h) (Or.inl ⟨by rfl, ?_⟩) ?_ ?_
     rotate_left; (intro w'; go_simp; with_reducible rfl); rotate_left; (simp only [Z]; rfl)
     refine pure_ (i := 13) (N := some 70) (v := ?_) (a' := ?_) #[O,I,I,I,O,I,I,I,O,O,O,I,I,I,O,O] rfl rfl (any_of HT_.out (by kernel_rfl)) (fun _ _ _ h => h) (Or.inl ⟨by rfl, ?_⟩) ?_ ?_
     rotate_left; (intro w'; go_simp; with_reducible rfl); rotate_left; (simp only [Z]; rfl)
     refine take_ (i := 8) (N := some 65) (v := ?_) (a' := ?_) #[O,I,I,I,O,I,I,I,I,O,O,I,I,I,O,O] rfl rfl (take_ofW HT_.out HW_.out (by kernel_rfl)) (fun _ _ _ h => h) (Or.inl ⟨by rfl, ?_⟩) hHeld ?_ ?_
     rotate_left
     ·intro w' s0
      go_simp
      with_reducible rfl
     rotate_left; (simp only [Z]; rfl)
     refine join_ (σ := Value × Value × Value) 3 #[I,I,I,I,I,I,I,I,I,I,O,I,I,I,O,O] (fun s_ => [(57, s_.1), (61, s_.2.1), (66, s_.2.2)]) (fun s_ w' => (w'.cell? (ad108.add (x6_1).toNat) = some (.int .i64 (rd t105 x6_1))) ∧ (Kd.R (Kd.int .i64) 3 w' w.heap.size (fun k_ => some k_ ≠ (s_.2.2 : Value).ownBlock ∧ some k_ ≠ (.slice (some ad111) x4_1.length co13 : Value).ownBlock ∧ some k_ ≠ (.slice (some ad108) t105.length co12 : Value).ownBlock) s_.2.1 y121) ∧ (Kd.R (Kd.int .i64) 3 w' w.heap.size (fun k_ => some k_ ≠ (s_.2.1 : Value).ownBlock ∧ some k_ ≠ (.slice (some ad111) x4_1.length co13 : Value).ownBlock ∧ some k_ ≠ (.slice (some ad108) t105.length co12 : Value).ownBlock) s_.2.2 y125) ∧ (Kd.R (Kd.int .i64) 3 w' w.heap.size (fun k_ => some k_ ≠ (s_.2.1 : Value).ownBlock ∧ some k_ ≠ (s_.2.2 : Value).ownBlock ∧ some k_ ≠ (.slice (some ad108) t105.length co12 : Value).ownBlock) (.slice (some ad111) x4_1.length co13) x4_1) ∧ (Kd.R (Kd.int .i64) 3 w' w.heap.size (fun k_ => some k_ ≠ (s_.2.1 : Value).ownBlock ∧ some k_ ≠ (s_.2.2 : Value).ownBlock ∧ some k_ ≠ (.slice (some ad111) x4_1.length co13 : Value).ownBlock) (.slice (some ad108) t105.length co12) t105) ∧ (Below w.heap.size w w')) ?_ ?_
     rotate_left
     ·intro hCont
      refine two_ (i := 0) (j := 9) (Ni := some 57) (Nj := some 66) #[I,I,I,I,O,I,I,I,I,O,O,I,I,I,O,O] #[O,I,I,I,O,I,I,I,I,I,O,I,I,I,O,O] rfl rfl rfl rfl (two_of HT_.out (by kernel_rfl)) (by decide) (by decide) (fun K hK => ?_) (fun K hK => ?_)
      ·skip
       refine Kd.R_lit_step (Kd.int .i64) _ 3 ?hg (N := 57) ?hd (xs := ([] : List Int)) (inner := []) (ok := fun _ => True) (okp := fun _ => True) ?hr ?hp (fun _ hk => hk) trivial (Below.refl _ _) (Nat.le_refl _) (by simp) ?_; (case hd => rfl); (case hg => rfl); (case hr => first | (go_simp; done) | (go_simp; rfl)); (case hp => exact (Reps.none _ _))
       intro v115 w32 ho33 hb hg_ hnew_
       have HS0_ := (hb.cell (World.block_lt_of_cell? _ _ (hHeld))).trans (hHeld)
       clear hg_ hnew_
       (first | rw [← Ny114.out] at ho33 | (simp only [Int.reduceToNat] at ho33; rw [← Ny114.out] at ho33))
       have n0_ := Aside0.mk (Kd.R_elder' (by exact Ho.RS <| HO_4.out) (Kd.R_base ho33) hb)
       have n1_ := Aside0.mk (Kd.R_elder' (by exact Ho.RS <| HO_5.out) (Kd.R_base ho33) hb)
       have n2_ := Aside0.mk (Kd.R_lower (Kd.R_new' (Kd.R_new' ho33 (Kd.R_lt (by exact Ho.RS <| HO_4.out))) (Kd.R_lt (by exact Ho.RS <| HO_5.out))) (below_size (by exact eS HB.out)))
       have n3_ := Aside0.mk (Kd.C_below (by repeat (first | (with_reducible exact HR120.out) | (with_reducible refine Kd.C_alloc ?_ _) | (with_reducible refine Kd.C_drewN ?_ _) | (with_reducible refine Kd.C_drew ?_) | exact HR120.out)) hb)
       have n4_ := Aside0.mk (Kd.C_below (by repeat (first | (with_reducible exact HR134.out) | (with_reducible refine Kd.C_alloc ?_ _) | (with_reducible refine Kd.C_drewN ?_ _) | (with_reducible refine Kd.C_drew ?_) | exact HR134.out)) hb)
       have n5_ := Aside0.mk (below_step (by exact eS HB.out) hb)
       clear HO_4
       clear HO_5
       clear HR120
       clear HR134
       clear HB
       have HO_4 := n0_
       have HO_5 := n1_
       have HO116 := n2_
       have HR120 := n3_
       have HR134 := n4_
       have HB := n5_
       clear n0_ n1_ n2_ n3_ n4_ n5_
       clear hb ho33
       refine hK.out _ _ (HS0_) (fun hHeld => ?_)
       clear hK K
       refine norm_ (a' := ?_) ?_ ?_
       rotate_left
       ·show Act.put _ (some 57) _ = _
        simp only [Z]
        rfl
       refine two_ (i := 4) (j := 9) (Ni := some 61) (Nj := some 66) #[I,I,I,I,I,I,I,I,I,O,O,I,I,I,O,O] #[I,I,I,I,O,I,I,I,I,I,O,I,I,I,O,O] rfl rfl rfl rfl (two_of HT_.out (by kernel_rfl)) (by decide) (by decide) (fun K hK => ?_) (fun K hK => ?_)
       ·skip
        refine Kd.R_append_rows_step (Kd.int .i64) (w0 := w) w.heap.size (by rfl) (.tmp 57) (.tmp 60) 22 3 (.int .i64 0) 8 rfl Try.underlying22 info3 rfl (by decide) (by omega) v115 y114 y117 _ _ _ (fun k_ => some k_ ≠ (.slice (some ad111) x4_1.length co13 : Value).ownBlock ∧ some k_ ≠ (.slice (some ad108) t105.length co12 : Value).ownBlock) (fun _ => False) rfl rfl ?aO ?aR (fun _ _ h => h) (fun _ h => h.elim) ?aF ?aB ?aS ?aL ?_
        (case aR => repeat (first | exact (by repeat (first | (with_reducible exact HR120.out) | (with_reducible refine Kd.C_alloc ?_ _) | (with_reducible refine Kd.C_drewN ?_ _) | (with_reducible refine Kd.C_drew ?_) | exact HR120.out)) | (with_reducible refine Kd.C_alloc ?_ _) | (with_reducible refine Kd.C_drewN ?_ _) | (with_reducible refine Kd.C_drew ?_)))
        (case aB => exact (by exact eS HB.out))
        (case aF => exact (fun k_ hk => ⟨Kd.fresh' (Kd.R_lt (by exact Ho.RS <| HO_4.out)) k_ hk, Kd.fresh' (Kd.R_lt (by exact Ho.RS <| HO_5.out)) k_ hk⟩))
        (case aO => exact (by exact Ho.RS <| Kd.R_mono HO116.out (fun _ hk => ⟨hk.1.2, hk.2⟩)))
        (case aS => exact (below_size (by exact eS HB.out)))
        (case aL => have := LMc22.out; omega)
        intro v122 w34 ho hb hg hat
        have HS0_ := cell_grown hg (hHeld) (by (first | rw [add_block] | (show some (Addr.add _ _).block ≠ _; rw [add_block]) | skip); first | exact (fun e_ => ((HO116.out.1 _ e_.symm)) rfl) | exact (fun e_ => ((HO116.out.1 _ e_.symm).1) rfl) | exact (fun e_ => ((HO116.out.1 _ e_.symm).2) rfl) | exact (fun e_ => ((HO116.out.1 _ e_.symm).1.1) rfl) | exact (fun e_ => ((HO116.out.1 _ e_.symm).1.2) rfl) | exact (fun e_ => ((HO116.out.1 _ e_.symm).2.1) rfl) | exact (fun e_ => ((HO116.out.1 _ e_.symm).2.2) rfl) | exact (fun e_ => ((HO116.out.1 _ e_.symm).1.1.1) rfl) | exact (fun e_ => ((HO116.out.1 _ e_.symm).1.1.2) rfl) | exact (fun e_ => ((HO116.out.1 _ e_.symm).1.2.1) rfl) | exact (fun e_ => ((HO116.out.1 _ e_.symm).1.2.2) rfl) | exact (fun e_ => ((HO116.out.1 _ e_.symm).2.1.1) rfl) | exact (fun e_ => ((HO116.out.1 _ e_.symm).2.1.2) rfl) | exact (fun e_ => ((HO116.out.1 _ e_.symm).2.2.1) rfl) | exact (fun e_ => ((HO116.out.1 _ e_.symm).2.2.2) rfl) | exact (fun e_ => ((HO_5.out.1 _ rfl)) e_) | exact (fun e_ => ((HO_5.out.1 _ rfl).1) e_) | exact (fun e_ => ((HO_5.out.1 _ rfl).2) e_) | exact (fun e_ => ((HO_5.out.1 _ rfl).1.1) e_) | exact (fun e_ => ((HO_5.out.1 _ rfl).1.2) e_) | exact (fun e_ => ((HO_5.out.1 _ rfl).2.1) e_) | exact (fun e_ => ((HO_5.out.1 _ rfl).2.2) e_) | exact (fun e_ => ((HO_5.out.1 _ rfl).1.1.1) e_) | exact (fun e_ => ((HO_5.out.1 _ rfl).1.1.2) e_) | exact (fun e_ => ((HO_5.out.1 _ rfl).1.2.1) e_) | exact (fun e_ => ((HO_5.out.1 _ rfl).1.2.2) e_) | exact (fun e_ => ((HO_5.out.1 _ rfl).2.1.1) e_) | exact (fun e_ => ((HO_5.out.1 _ rfl).2.1.2) e_) | exact (fun e_ => ((HO_5.out.1 _ rfl).2.2.1) e_) | exact (fun e_ => ((HO_5.out.1 _ rfl).2.2.2) e_))
        rw [← Ny121.out] at ho
        have n0_ := Aside0.mk (Kd.R_after (ok := (fun k_ => some k_ ≠ (.slice (some ad108) t105.length co12 : Value).ownBlock)) (by exact Ho.RS <| HO_4.out) hg hat)
        have n1_ := Aside0.mk (Kd.R_after (ok := (fun k_ => some k_ ≠ (.slice (some ad111) x4_1.length co13 : Value).ownBlock)) (by exact Ho.RS <| HO_5.out) hg hat)
        have n2_ := Aside0.mk (hb)
        have n3_ := Aside0.mk ((show Kd.C (Kd.int .i64) w34 (some ad111) y117.length y117 from by rw [Ny117.out]; exact Kd.C_take (m := (x9_2 : Int).toNat) ((Kd.R_reads' (Kd.R_after (ok := (fun k_ => some k_ ≠ (.slice (some ad108) t105.length co12 : Value).ownBlock)) (by exact Ho.RS <| HO_4.out) hg hat)).2.2) KL30.out))
        have n4_ := Aside0.mk ((show Kd.C (Kd.int .i64) w34 A31 y131.length y131 from by rw [Ny131.out, KA31.out]; exact Kd.C_drop (m := (x9_2 : Int).toNat) (c := co13) ((Kd.R_reads' (Kd.R_after (ok := (fun k_ => some k_ ≠ (.slice (some ad108) t105.length co12 : Value).ownBlock)) (by exact Ho.RS <| HO_4.out) hg hat)).2.2) KL31.out ((Kd.R_reads' (Kd.R_after (ok := (fun k_ => some k_ ≠ (.slice (some ad108) t105.length co12 : Value).ownBlock)) (by exact Ho.RS <| HO_4.out) hg hat)).2.1)))
        have n5_ := Aside0.mk (ho)
        clear HO_4
        clear HO_5
        clear HB
        clear HR120
        clear HR134
        clear HO116
        have HO_4 := n0_
        have HO_5 := n1_
        have HB := n2_
        have HR120 := n3_
        have HR134 := n4_
        have HO123 := n5_
        clear n0_ n1_ n2_ n3_ n4_ n5_
        clear ho hb hg hat
        refine hK.out _ _ (HS0_) (fun hHeld => ?_)
        clear hK K
        refine norm_ (a' := ?_) ?_ ?_
        rotate_left
        ·show Act.put _ (some 61) _ = _
         simp only [Z]
         rfl
        refine one_ (i := 9) (N := some 66) #[I,I,I,I,I,I,I,I,I,I,O,I,I,I,O,O] rfl rfl (one_of HT_.out (by kernel_rfl)) (by decide) (fun K hK => ?_)
        refine Kd.R_lit_step (Kd.int .i64) _ 3 ?hg (N := 66) ?hd (xs := ([rd t105 x6_1] : List Int)) (inner := [.int .i64 (rd t105 x6_1)]) (ok := fun _ => True) (okp := fun _ => True) ?hr ?hp (fun _ hk => hk) trivial (Below.refl _ _) (Nat.le_refl _) (by simp) ?_; (case hd => rfl); (case hg => rfl); (case hr => first | (go_simp; done) | (go_simp; rfl)); (case hp => exact (Reps.one (show Kd.M (Kd.int .i64) _ _ _ (rd t105 x6_1) [.int .i64 (rd t105 x6_1)] from rfl) (Reps.none _ _)))
        intro v126 w35 ho36 hb hg_ hnew_
        have HS0_ := (hb.cell (World.block_lt_of_cell? _ _ (hHeld))).trans (hHeld)
        clear hg_ hnew_
        (first | rw [← Ny125.out] at ho36 | (simp only [Int.reduceToNat] at ho36; rw [← Ny125.out] at ho36))
        have n0_ := Aside0.mk (Kd.R_elder' (by exact Ho.RS <| HO_4.out) (Kd.R_base ho36) hb)
        have n1_ := Aside0.mk (Kd.R_elder' (by exact Ho.RS <| HO_5.out) (Kd.R_base ho36) hb)
        have n2_ := Aside0.mk (Kd.R_elder' (by exact Ho.RS <| HO123.out) (Kd.R_base ho36) hb)
        have n3_ := Aside0.mk (Kd.R_lower (Kd.R_new' (Kd.R_new' (Kd.R_new' ho36 (Kd.R_lt (by exact Ho.RS <| HO_4.out))) (Kd.R_lt (by exact Ho.RS <| HO_5.out))) (Kd.R_lt (by exact Ho.RS <| HO123.out))) (below_size (by exact eS HB.out)))
        have n4_ := Aside0.mk (Kd.C_below (by repeat (first | (with_reducible exact HR120.out) | (with_reducible refine Kd.C_alloc ?_ _) | (with_reducible refine Kd.C_drewN ?_ _) | (with_reducible refine Kd.C_drew ?_) | exact HR120.out)) hb)
        have n5_ := Aside0.mk (Kd.C_below (by repeat (first | (with_reducible exact HR134.out) | (with_reducible refine Kd.C_alloc ?_ _) | (with_reducible refine Kd.C_drewN ?_ _) | (with_reducible refine Kd.C_drew ?_) | exact HR134.out)) hb)
        have n6_ := Aside0.mk (below_step (by exact eS HB.out) hb)
        clear HO_4
        clear HO_5
        clear HO123
        clear HR120
        clear HR134
        clear HB
        have HO_4 := n0_
        have HO_5 := n1_
        have HO123 := n2_
        have HO127 := n3_
        have HR120 := n4_
        have HR134 := n5_
        have HB := n6_
        clear n0_ n1_ n2_ n3_ n4_ n5_ n6_
        clear hb ho36
        refine hK.out _ _ (HS0_) (fun hHeld => ?_)
        clear hK K
        refine norm_ (a' := ?_) ?_ ?_
        rotate_left
        ·show Act.put _ (some 66) _ = _
         simp only [Z]
         rfl
        exact norm_ (by simp only [putAll, Act.put, List.setIfInBounds_toArray, List.set_cons_zero, List.set_cons_succ]) (hCont (v115, v122, v126) _ ⟨hHeld, (by exact Ho.RS <| Kd.R_mono HO123.out (fun _ hk => ⟨hk.2, ⟨hk.1.1, hk.1.2⟩⟩)), (by exact Ho.RS <| Kd.R_mono HO127.out (fun _ hk => ⟨hk.2, ⟨hk.1.1.2, hk.1.2⟩⟩)), (by exact Ho.RS <| Kd.R_mono HO_4.out (fun _ hk => ⟨hk.1.2, ⟨hk.2, hk.1.1⟩⟩)), (by exact Ho.RS <| Kd.R_mono HO_5.out (fun _ hk => ⟨hk.1.2, ⟨hk.2, hk.1.1⟩⟩)), (by exact eS HB.out)⟩)
       ·skip
        refine Kd.R_lit_step (Kd.int .i64) _ 3 ?hg (N := 66) ?hd (xs := ([rd t105 x6_1] : List Int)) (inner := [.int .i64 (rd t105 x6_1)]) (ok := fun _ => True) (okp := fun _ => True) ?hr ?hp (fun _ hk => hk) trivial (Below.refl _ _) (Nat.le_refl _) (by simp) ?_; (case hd => rfl); (case hg => rfl); (case hr => first | (go_simp; done) | (go_simp; rfl)); (case hp => exact (Reps.one (show Kd.M (Kd.int .i64) _ _ _ (rd t105 x6_1) [.int .i64 (rd t105 x6_1)] from rfl) (Reps.none _ _)))
        intro v126 w34 ho35 hb hg_ hnew_
        have HS0_ := (hb.cell (World.block_lt_of_cell? _ _ (hHeld))).trans (hHeld)
        clear hg_ hnew_
        (first | rw [← Ny125.out] at ho35 | (simp only [Int.reduceToNat] at ho35; rw [← Ny125.out] at ho35))
        have n0_ := Aside0.mk (Kd.R_elder' (by exact Ho.RS <| HO_4.out) (Kd.R_base ho35) hb)
        have n1_ := Aside0.mk (Kd.R_elder' (by exact Ho.RS <| HO_5.out) (Kd.R_base ho35) hb)
        have n2_ := Aside0.mk (Kd.R_elder' (by exact Ho.RS <| HO116.out) (Kd.R_base ho35) hb)
        have n3_ := Aside0.mk (Kd.R_lower (Kd.R_new' (Kd.R_new' (Kd.R_new' ho35 (Kd.R_lt (by exact Ho.RS <| HO_4.out))) (Kd.R_lt (by exact Ho.RS <| HO_5.out))) (Kd.R_lt (by exact Ho.RS <| HO116.out))) (below_size (by exact eS HB.out)))
        have n4_ := Aside0.mk (Kd.C_below (by repeat (first | (with_reducible exact HR120.out) | (with_reducible refine Kd.C_alloc ?_ _) | (with_reducible refine Kd.C_drewN ?_ _) | (with_reducible refine Kd.C_drew ?_) | exact HR120.out)) hb)
        have n5_ := Aside0.mk (Kd.C_below (by repeat (first | (with_reducible exact HR134.out) | (with_reducible refine Kd.C_alloc ?_ _) | (with_reducible refine Kd.C_drewN ?_ _) | (with_reducible refine Kd.C_drew ?_) | exact HR134.out)) hb)
        have n6_ := Aside0.mk (below_step (by exact eS HB.out) hb)
        clear HO_4
        clear HO_5
        clear HO116
        clear HR120
        clear HR134
        clear HB
        have HO_4 := n0_
        have HO_5 := n1_
        have HO116 := n2_
        have HO127 := n3_
        have HR120 := n4_
        have HR134 := n5_
        have HB := n6_
        clear n0_ n1_ n2_ n3_ n4_ n5_ n6_
        clear hb ho35
        refine hK.out _ _ (HS0_) (fun hHeld => ?_)
        clear hK K
        refine norm_ (a' := ?_) ?_ ?_
        rotate_left
        ·show Act.put _ (some 66) _ = _
         simp only [Z]
         rfl
        refine one_ (i := 4) (N := some 61) #[I,I,I,I,I,I,I,I,I,I,O,I,I,I,O,O] rfl rfl (one_of HT_.out (by kernel_rfl)) (by decide) (fun K hK => ?_)
        refine Kd.R_append_rows_step (Kd.int .i64) (w0 := w) w.heap.size (by rfl) (.tmp 57) (.tmp 60) 22 3 (.int .i64 0) 8 rfl Try.underlying22 info3 rfl (by decide) (by omega) v115 y114 y117 _ _ _ (fun k_ => some k_ ≠ (.slice (some ad111) x4_1.length co13 : Value).ownBlock ∧ some k_ ≠ (.slice (some ad108) t105.length co12 : Value).ownBlock ∧ some k_ ≠ (v126 : Value).ownBlock) (fun _ => False) rfl rfl ?aO ?aR (fun _ _ h => h) (fun _ h => h.elim) ?aF ?aB ?aS ?aL ?_
        (case aR => repeat (first | exact (by repeat (first | (with_reducible exact HR120.out) | (with_reducible refine Kd.C_alloc ?_ _) | (with_reducible refine Kd.C_drewN ?_ _) | (with_reducible refine Kd.C_drew ?_) | exact HR120.out)) | (with_reducible refine Kd.C_alloc ?_ _) | (with_reducible refine Kd.C_drewN ?_ _) | (with_reducible refine Kd.C_drew ?_)))
        (case aB => exact (by exact eS HB.out))
        (case aF => exact (fun k_ hk => ⟨Kd.fresh' (Kd.R_lt (by exact Ho.RS <| HO_4.out)) k_ hk, Kd.fresh' (Kd.R_lt (by exact Ho.RS <| HO_5.out)) k_ hk, Kd.fresh' (Kd.R_lt (by exact Ho.RS <| HO127.out)) k_ hk⟩))
        (case aO => exact (by exact Ho.RS <| Kd.R_mono HO116.out (fun _ hk => ⟨hk.1.1.2, ⟨hk.1.2, hk.2⟩⟩)))
        (case aS => exact (below_size (by exact eS HB.out)))
        (case aL => have := LMc22.out; omega)
        intro v122 w36 ho hb hg hat
        have HS0_ := cell_grown hg (hHeld) (by (first | rw [add_block] | (show some (Addr.add _ _).block ≠ _; rw [add_block]) | skip); first | exact (fun e_ => ((HO116.out.1 _ e_.symm)) rfl) | exact (fun e_ => ((HO116.out.1 _ e_.symm).1) rfl) | exact (fun e_ => ((HO116.out.1 _ e_.symm).2) rfl) | exact (fun e_ => ((HO116.out.1 _ e_.symm).1.1) rfl) | exact (fun e_ => ((HO116.out.1 _ e_.symm).1.2) rfl) | exact (fun e_ => ((HO116.out.1 _ e_.symm).2.1) rfl) | exact (fun e_ => ((HO116.out.1 _ e_.symm).2.2) rfl) | exact (fun e_ => ((HO116.out.1 _ e_.symm).1.1.1) rfl) | exact (fun e_ => ((HO116.out.1 _ e_.symm).1.1.2) rfl) | exact (fun e_ => ((HO116.out.1 _ e_.symm).1.2.1) rfl) | exact (fun e_ => ((HO116.out.1 _ e_.symm).1.2.2) rfl) | exact (fun e_ => ((HO116.out.1 _ e_.symm).2.1.1) rfl) | exact (fun e_ => ((HO116.out.1 _ e_.symm).2.1.2) rfl) | exact (fun e_ => ((HO116.out.1 _ e_.symm).2.2.1) rfl) | exact (fun e_ => ((HO116.out.1 _ e_.symm).2.2.2) rfl) | exact (fun e_ => ((HO_5.out.1 _ rfl)) e_) | exact (fun e_ => ((HO_5.out.1 _ rfl).1) e_) | exact (fun e_ => ((HO_5.out.1 _ rfl).2) e_) | exact (fun e_ => ((HO_5.out.1 _ rfl).1.1) e_) | exact (fun e_ => ((HO_5.out.1 _ rfl).1.2) e_) | exact (fun e_ => ((HO_5.out.1 _ rfl).2.1) e_) | exact (fun e_ => ((HO_5.out.1 _ rfl).2.2) e_) | exact (fun e_ => ((HO_5.out.1 _ rfl).1.1.1) e_) | exact (fun e_ => ((HO_5.out.1 _ rfl).1.1.2) e_) | exact (fun e_ => ((HO_5.out.1 _ rfl).1.2.1) e_) | exact (fun e_ => ((HO_5.out.1 _ rfl).1.2.2) e_) | exact (fun e_ => ((HO_5.out.1 _ rfl).2.1.1) e_) | exact (fun e_ => ((HO_5.out.1 _ rfl).2.1.2) e_) | exact (fun e_ => ((HO_5.out.1 _ rfl).2.2.1) e_) | exact (fun e_ => ((HO_5.out.1 _ rfl).2.2.2) e_))
        rw [← Ny121.out] at ho
        have n0_ := Aside0.mk (Kd.R_after (ok := (fun k_ => some k_ ≠ (.slice (some ad108) t105.length co12 : Value).ownBlock ∧ some k_ ≠ (v126 : Value).ownBlock)) (by exact Ho.RS <| Kd.R_mono HO_4.out (fun _ hk => ⟨⟨hk.1.1, hk.2⟩, hk.1.2⟩)) hg hat)
        have n1_ := Aside0.mk (Kd.R_after (ok := (fun k_ => some k_ ≠ (.slice (some ad111) x4_1.length co13 : Value).ownBlock ∧ some k_ ≠ (v126 : Value).ownBlock)) (by exact Ho.RS <| Kd.R_mono HO_5.out (fun _ hk => ⟨⟨hk.1.1, hk.2⟩, hk.1.2⟩)) hg hat)
        have n2_ := Aside0.mk (Kd.R_after (ok := (fun k_ => some k_ ≠ (.slice (some ad111) x4_1.length co13 : Value).ownBlock ∧ some k_ ≠ (.slice (some ad108) t105.length co12 : Value).ownBlock)) (by exact Ho.RS <| Kd.R_mono HO127.out (fun _ hk => ⟨⟨hk.1.1.2, hk.1.2⟩, hk.2⟩)) hg hat)
        have n3_ := Aside0.mk (hb)
        have n4_ := Aside0.mk ((show Kd.C (Kd.int .i64) w36 (some ad111) y117.length y117 from by rw [Ny117.out]; exact Kd.C_take (m := (x9_2 : Int).toNat) ((Kd.R_reads' (Kd.R_after (ok := (fun k_ => some k_ ≠ (.slice (some ad108) t105.length co12 : Value).ownBlock ∧ some k_ ≠ (v126 : Value).ownBlock)) (by exact Ho.RS <| Kd.R_mono HO_4.out (fun _ hk => ⟨⟨hk.1.1, hk.2⟩, hk.1.2⟩)) hg hat)).2.2) KL30.out))
        have n5_ := Aside0.mk ((show Kd.C (Kd.int .i64) w36 A31 y131.length y131 from by rw [Ny131.out, KA31.out]; exact Kd.C_drop (m := (x9_2 : Int).toNat) (c := co13) ((Kd.R_reads' (Kd.R_after (ok := (fun k_ => some k_ ≠ (.slice (some ad108) t105.length co12 : Value).ownBlock ∧ some k_ ≠ (v126 : Value).ownBlock)) (by exact Ho.RS <| Kd.R_mono HO_4.out (fun _ hk => ⟨⟨hk.1.1, hk.2⟩, hk.1.2⟩)) hg hat)).2.2) KL31.out ((Kd.R_reads' (Kd.R_after (ok := (fun k_ => some k_ ≠ (.slice (some ad108) t105.length co12 : Value).ownBlock ∧ some k_ ≠ (v126 : Value).ownBlock)) (by exact Ho.RS <| Kd.R_mono HO_4.out (fun _ hk => ⟨⟨hk.1.1, hk.2⟩, hk.1.2⟩)) hg hat)).2.1)))
        have n6_ := Aside0.mk (ho)
        clear HO_4
        clear HO_5
        clear HO127
        clear HB
        clear HR120
        clear HR134
        clear HO116
        have HO_4 := n0_
        have HO_5 := n1_
        have HO127 := n2_
        have HB := n3_
        have HR120 := n4_
        have HR134 := n5_
        have HO123 := n6_
        clear n0_ n1_ n2_ n3_ n4_ n5_ n6_
        clear ho hb hg hat
        refine hK.out _ _ (HS0_) (fun hHeld => ?_)
        clear hK K
        refine norm_ (a' := ?_) ?_ ?_
        rotate_left
        ·show Act.put _ (some 61) _ = _
         simp only [Z]
         rfl
        exact norm_ (by simp only [putAll, Act.put, List.setIfInBounds_toArray, List.set_cons_zero, List.set_cons_succ]) (hCont (v115, v122, v126) _ ⟨hHeld, (by exact Ho.RS <| Kd.R_mono HO123.out (fun _ hk => ⟨hk.2.2, ⟨hk.1, hk.2.1⟩⟩)), (by exact Ho.RS <| Kd.R_mono HO127.out (fun _ hk => ⟨hk.2, ⟨hk.1.1, hk.1.2⟩⟩)), (by exact Ho.RS <| Kd.R_mono HO_4.out (fun _ hk => ⟨hk.2, ⟨hk.1.2, hk.1.1⟩⟩)), (by exact Ho.RS <| Kd.R_mono HO_5.out (fun _ hk => ⟨hk.2, ⟨hk.1.2, hk.1.1⟩⟩)), (by exact eS HB.out)⟩)
      ·skip
       refine Kd.R_lit_step (Kd.int .i64) _ 3 ?hg (N := 66) ?hd (xs := ([rd t105 x6_1] : List Int)) (inner := [.int .i64 (rd t105 x6_1)]) (ok := fun _ => True) (okp := fun _ => True) ?hr ?hp (fun _ hk => hk) trivial (Below.refl _ _) (Nat.le_refl _) (by simp) ?_; (case hd => rfl); (case hg => rfl); (case hr => first | (go_simp; done) | (go_simp; rfl)); (case hp => exact (Reps.one (show Kd.M (Kd.int .i64) _ _ _ (rd t105 x6_1) [.int .i64 (rd t105 x6_1)] from rfl) (Reps.none _ _)))
       intro v126 w32 ho33 hb hg_ hnew_
       have HS0_ := (hb.cell (World.block_lt_of_cell? _ _ (hHeld))).trans (hHeld)
       clear hg_ hnew_
       (first | rw [← Ny125.out] at ho33 | (simp only [Int.reduceToNat] at ho33; rw [← Ny125.out] at ho33))
       have n0_ := Aside0.mk (Kd.R_elder' (by exact Ho.RS <| HO_4.out) (Kd.R_base ho33) hb)
       have n1_ := Aside0.mk (Kd.R_elder' (by exact Ho.RS <| HO_5.out) (Kd.R_base ho33) hb)
       have n2_ := Aside0.mk (Kd.R_lower (Kd.R_new' (Kd.R_new' ho33 (Kd.R_lt (by exact Ho.RS <| HO_4.out))) (Kd.R_lt (by exact Ho.RS <| HO_5.out))) (below_size (by exact eS HB.out)))
       have n3_ := Aside0.mk (Kd.C_below (by repeat (first | (with_reducible exact HR120.out) | (with_reducible refine Kd.C_alloc ?_ _) | (with_reducible refine Kd.C_drewN ?_ _) | (with_reducible refine Kd.C_drew ?_) | exact HR120.out)) hb)
       have n4_ := Aside0.mk (Kd.C_below (by repeat (first | (with_reducible exact HR134.out) | (with_reducible refine Kd.C_alloc ?_ _) | (with_reducible refine Kd.C_drewN ?_ _) | (with_reducible refine Kd.C_drew ?_) | exact HR134.out)) hb)
       have n5_ := Aside0.mk (below_step (by exact eS HB.out) hb)
       clear HO_4
       clear HO_5
       clear HR120
       clear HR134
       clear HB
       have HO_4 := n0_
       have HO_5 := n1_
       have HO127 := n2_
       have HR120 := n3_
       have HR134 := n4_
       have HB := n5_
       clear n0_ n1_ n2_ n3_ n4_ n5_
       clear hb ho33
       refine hK.out _ _ (HS0_) (fun hHeld => ?_)
       clear hK K
       refine norm_ (a' := ?_) ?_ ?_
       rotate_left
       ·show Act.put _ (some 66) _ = _
        simp only [Z]
        rfl
       refine one_ (i := 0) (N := some 57) #[I,I,I,I,O,I,I,I,I,I,O,I,I,I,O,O] rfl rfl (one_of HT_.out (by kernel_rfl)) (by decide) (fun K hK => ?_)
       refine Kd.R_lit_step (Kd.int .i64) _ 3 ?hg (N := 57) ?hd (xs := ([] : List Int)) (inner := []) (ok := fun _ => True) (okp := fun _ => True) ?hr ?hp (fun _ hk => hk) trivial (Below.refl _ _) (Nat.le_refl _) (by simp) ?_; (case hd => rfl); (case hg => rfl); (case hr => first | (go_simp; done) | (go_simp; rfl)); (case hp => exact (Reps.none _ _))
       intro v115 w34 ho35 hb hg_ hnew_
       have HS0_ := (hb.cell (World.block_lt_of_cell? _ _ (hHeld))).trans (hHeld)
       clear hg_ hnew_
       (first | rw [← Ny114.out] at ho35 | (simp only [Int.reduceToNat] at ho35; rw [← Ny114.out] at ho35))
       have n0_ := Aside0.mk (Kd.R_elder' (by exact Ho.RS <| HO_4.out) (Kd.R_base ho35) hb)
       have n1_ := Aside0.mk (Kd.R_elder' (by exact Ho.RS <| HO_5.out) (Kd.R_base ho35) hb)
       have n2_ := Aside0.mk (Kd.R_elder' (by exact Ho.RS <| HO127.out) (Kd.R_base ho35) hb)
       have n3_ := Aside0.mk (Kd.R_lower (Kd.R_new' (Kd.R_new' (Kd.R_new' ho35 (Kd.R_lt (by exact Ho.RS <| HO_4.out))) (Kd.R_lt (by exact Ho.RS <| HO_5.out))) (Kd.R_lt (by exact Ho.RS <| HO127.out))) (below_size (by exact eS HB.out)))
       have n4_ := Aside0.mk (Kd.C_below (by repeat (first | (with_reducible exact HR120.out) | (with_reducible refine Kd.C_alloc ?_ _) | (with_reducible refine Kd.C_drewN ?_ _) | (with_reducible refine Kd.C_drew ?_) | exact HR120.out)) hb)
       have n5_ := Aside0.mk (Kd.C_below (by repeat (first | (with_reducible exact HR134.out) | (with_reducible refine Kd.C_alloc ?_ _) | (with_reducible refine Kd.C_drewN ?_ _) | (with_reducible refine Kd.C_drew ?_) | exact HR134.out)) hb)
       have n6_ := Aside0.mk (below_step (by exact eS HB.out) hb)
       clear HO_4
       clear HO_5
       clear HO127
       clear HR120
       clear HR134
       clear HB
       have HO_4 := n0_
       have HO_5 := n1_
       have HO127 := n2_
       have HO116 := n3_
       have HR120 := n4_
       have HR134 := n5_
       have HB := n6_
       clear n0_ n1_ n2_ n3_ n4_ n5_ n6_
       clear hb ho35
       refine hK.out _ _ (HS0_) (fun hHeld => ?_)
       clear hK K
       refine norm_ (a' := ?_) ?_ ?_
       rotate_left
       ·show Act.put _ (some 57) _ = _
        simp only [Z]
        rfl
       refine one_ (i := 4) (N := some 61) #[I,I,I,I,I,I,I,I,I,I,O,I,I,I,O,O] rfl rfl (one_of HT_.out (by kernel_rfl)) (by decide) (fun K hK => ?_)
       refine Kd.R_append_rows_step (Kd.int .i64) (w0 := w) w.heap.size (by rfl) (.tmp 57) (.tmp 60) 22 3 (.int .i64 0) 8 rfl Try.underlying22 info3 rfl (by decide) (by omega) v115 y114 y117 _ _ _ (fun k_ => some k_ ≠ (.slice (some ad111) x4_1.length co13 : Value).ownBlock ∧ some k_ ≠ (.slice (some ad108) t105.length co12 : Value).ownBlock ∧ some k_ ≠ (v126 : Value).ownBlock) (fun _ => False) rfl rfl ?aO ?aR (fun _ _ h => h) (fun _ h => h.elim) ?aF ?aB ?aS ?aL ?_
       (case aR => repeat (first | exact (by repeat (first | (with_reducible exact HR120.out) | (with_reducible refine Kd.C_alloc ?_ _) | (with_reducible refine Kd.C_drewN ?_ _) | (with_reducible refine Kd.C_drew ?_) | exact HR120.out)) | (with_reducible refine Kd.C_alloc ?_ _) | (with_reducible refine Kd.C_drewN ?_ _) | (with_reducible refine Kd.C_drew ?_)))
       (case aB => exact (by exact eS HB.out))
       (case aF => exact (fun k_ hk => ⟨Kd.fresh' (Kd.R_lt (by exact Ho.RS <| HO_4.out)) k_ hk, Kd.fresh' (Kd.R_lt (by exact Ho.RS <| HO_5.out)) k_ hk, Kd.fresh' (Kd.R_lt (by exact Ho.RS <| HO127.out)) k_ hk⟩))
       (case aO => exact (by exact Ho.RS <| Kd.R_mono HO116.out (fun _ hk => ⟨hk.1.1.2, ⟨hk.1.2, hk.2⟩⟩)))
       (case aS => exact (below_size (by exact eS HB.out)))
       (case aL => have := LMc22.out; omega)
       intro v122 w36 ho hb hg hat
       have HS0_ := cell_grown hg (hHeld) (by (first | rw [add_block] | (show some (Addr.add _ _).block ≠ _; rw [add_block]) | skip); first | exact (fun e_ => ((HO116.out.1 _ e_.symm)) rfl) | exact (fun e_ => ((HO116.out.1 _ e_.symm).1) rfl) | exact (fun e_ => ((HO116.out.1 _ e_.symm).2) rfl) | exact (fun e_ => ((HO116.out.1 _ e_.symm).1.1) rfl) | exact (fun e_ => ((HO116.out.1 _ e_.symm).1.2) rfl) | exact (fun e_ => ((HO116.out.1 _ e_.symm).2.1) rfl) | exact (fun e_ => ((HO116.out.1 _ e_.symm).2.2) rfl) | exact (fun e_ => ((HO116.out.1 _ e_.symm).1.1.1) rfl) | exact (fun e_ => ((HO116.out.1 _ e_.symm).1.1.2) rfl) | exact (fun e_ => ((HO116.out.1 _ e_.symm).1.2.1) rfl) | exact (fun e_ => ((HO116.out.1 _ e_.symm).1.2.2) rfl) | exact (fun e_ => ((HO116.out.1 _ e_.symm).2.1.1) rfl) | exact (fun e_ => ((HO116.out.1 _ e_.symm).2.1.2) rfl) | exact (fun e_ => ((HO116.out.1 _ e_.symm).2.2.1) rfl) | exact (fun e_ => ((HO116.out.1 _ e_.symm).2.2.2) rfl) | exact (fun e_ => ((HO_5.out.1 _ rfl)) e_) | exact (fun e_ => ((HO_5.out.1 _ rfl).1) e_) | exact (fun e_ => ((HO_5.out.1 _ rfl).2) e_) | exact (fun e_ => ((HO_5.out.1 _ rfl).1.1) e_) | exact (fun e_ => ((HO_5.out.1 _ rfl).1.2) e_) | exact (fun e_ => ((HO_5.out.1 _ rfl).2.1) e_) | exact (fun e_ => ((HO_5.out.1 _ rfl).2.2) e_) | exact (fun e_ => ((HO_5.out.1 _ rfl).1.1.1) e_) | exact (fun e_ => ((HO_5.out.1 _ rfl).1.1.2) e_) | exact (fun e_ => ((HO_5.out.1 _ rfl).1.2.1) e_) | exact (fun e_ => ((HO_5.out.1 _ rfl).1.2.2) e_) | exact (fun e_ => ((HO_5.out.1 _ rfl).2.1.1) e_) | exact (fun e_ => ((HO_5.out.1 _ rfl).2.1.2) e_) | exact (fun e_ => ((HO_5.out.1 _ rfl).2.2.1) e_) | exact (fun e_ => ((HO_5.out.1 _ rfl).2.2.2) e_))
       rw [← Ny121.out] at ho
       have n0_ := Aside0.mk (Kd.R_after (ok := (fun k_ => some k_ ≠ (.slice (some ad108) t105.length co12 : Value).ownBlock ∧ some k_ ≠ (v126 : Value).ownBlock)) (by exact Ho.RS <| HO_4.out) hg hat)
       have n1_ := Aside0.mk (Kd.R_after (ok := (fun k_ => some k_ ≠ (.slice (some ad111) x4_1.length co13 : Value).ownBlock ∧ some k_ ≠ (v126 : Value).ownBlock)) (by exact Ho.RS <| HO_5.out) hg hat)
       have n2_ := Aside0.mk (Kd.R_after (ok := (fun k_ => some k_ ≠ (.slice (some ad111) x4_1.length co13 : Value).ownBlock ∧ some k_ ≠ (.slice (some ad108) t105.length co12 : Value).ownBlock)) (by exact Ho.RS <| Kd.R_mono HO127.out (fun _ hk => ⟨⟨hk.1.1.2, hk.1.2⟩, hk.2⟩)) hg hat)
       have n3_ := Aside0.mk (hb)
       have n4_ := Aside0.mk ((show Kd.C (Kd.int .i64) w36 (some ad111) y117.length y117 from by rw [Ny117.out]; exact Kd.C_take (m := (x9_2 : Int).toNat) ((Kd.R_reads' (Kd.R_after (ok := (fun k_ => some k_ ≠ (.slice (some ad108) t105.length co12 : Value).ownBlock ∧ some k_ ≠ (v126 : Value).ownBlock)) (by exact Ho.RS <| HO_4.out) hg hat)).2.2) KL30.out))
       have n5_ := Aside0.mk ((show Kd.C (Kd.int .i64) w36 A31 y131.length y131 from by rw [Ny131.out, KA31.out]; exact Kd.C_drop (m := (x9_2 : Int).toNat) (c := co13) ((Kd.R_reads' (Kd.R_after (ok := (fun k_ => some k_ ≠ (.slice (some ad108) t105.length co12 : Value).ownBlock ∧ some k_ ≠ (v126 : Value).ownBlock)) (by exact Ho.RS <| HO_4.out) hg hat)).2.2) KL31.out ((Kd.R_reads' (Kd.R_after (ok := (fun k_ => some k_ ≠ (.slice (some ad108) t105.length co12 : Value).ownBlock ∧ some k_ ≠ (v126 : Value).ownBlock)) (by exact Ho.RS <| HO_4.out) hg hat)).2.1)))
       have n6_ := Aside0.mk (ho)
       clear HO_4
       clear HO_5
       clear HO127
       clear HB
       clear HR120
       clear HR134
       clear HO116
       have HO_4 := n0_
       have HO_5 := n1_
       have HO127 := n2_
       have HB := n3_
       have HR120 := n4_
       have HR134 := n5_
       have HO123 := n6_
       clear n0_ n1_ n2_ n3_ n4_ n5_ n6_
       clear ho hb hg hat
       refine hK.out _ _ (HS0_) (fun hHeld => ?_)
       clear hK K
       refine norm_ (a' := ?_) ?_ ?_
       rotate_left
       ·show Act.put _ (some 61) _ = _
        simp only [Z]
        rfl
       exact norm_ (by simp only [putAll, Act.put, List.setIfInBounds_toArray, List.set_cons_zero, List.set_cons_succ]) (hCont (v115, v122, v126) _ ⟨hHeld, (by exact Ho.RS <| Kd.R_mono HO123.out (fun _ hk => ⟨hk.2.2, ⟨hk.1, hk.2.1⟩⟩)), (by exact Ho.RS <| Kd.R_mono HO127.out (fun _ hk => ⟨hk.2, ⟨hk.1.1, hk.1.2⟩⟩)), (by exact Ho.RS <| Kd.R_mono HO_4.out (fun _ hk => ⟨hk.2, ⟨hk.1.2, hk.1.1⟩⟩)), (by exact Ho.RS <| Kd.R_mono HO_5.out (fun _ hk => ⟨hk.2, ⟨hk.1.2, hk.1.1⟩⟩)), (by exact eS HB.out)⟩)
     rintro ⟨v115, v122, v126⟩ w37 ⟨hS_, h0_, h1_, h2_, h3_, h4_⟩
     have n0_ : Aside0 (Kd.R (Kd.int .i64) 3 w37 w.heap.size (fun k_ => some k_ ≠ (v126 : Value).ownBlock ∧ some k_ ≠ (.slice (some ad111) x4_1.length co13 : Value).ownBlock ∧ some k_ ≠ (.slice (some ad108) t105.length co12 : Value).ownBlock) v122 y121) := ⟨h0_⟩
     have n1_ : Aside0 (Kd.R (Kd.int .i64) 3 w37 w.heap.size (fun k_ => some k_ ≠ (v122 : Value).ownBlock ∧ some k_ ≠ (.slice (some ad111) x4_1.length co13 : Value).ownBlock ∧ some k_ ≠ (.slice (some ad108) t105.length co12 : Value).ownBlock) v126 y125) := ⟨h1_⟩
     have n2_ : Aside0 (Kd.R (Kd.int .i64) 3 w37 w.heap.size (fun k_ => some k_ ≠ (v122 : Value).ownBlock ∧ some k_ ≠ (v126 : Value).ownBlock ∧ some k_ ≠ (.slice (some ad108) t105.length co12 : Value).ownBlock) (.slice (some ad111) x4_1.length co13) x4_1) := ⟨h2_⟩
     have n3_ : Aside0 (Kd.R (Kd.int .i64) 3 w37 w.heap.size (fun k_ => some k_ ≠ (v122 : Value).ownBlock ∧ some k_ ≠ (v126 : Value).ownBlock ∧ some k_ ≠ (.slice (some ad111) x4_1.length co13 : Value).ownBlock) (.slice (some ad108) t105.length co12) t105) := ⟨h3_⟩
     have n4_ : Aside0 (Below w.heap.size w w37) := ⟨h4_⟩
     clear HO_4
     clear HO_5
     clear HB
     clear h0_ h1_ h2_ h3_ h4_
     have HO123 := n0_
     have HO127 := n1_
     have HO_4 := n2_
     have HO_5 := n3_
     have HB := n4_
     clear n0_ n1_ n2_ n3_ n4_
     have hHeld : w37.cell? (ad108.add (x6_1).toNat) = some (.int .i64 (rd t105 x6_1)) := hS_
     have HR120 := Aside0.mk (show Kd.C (Kd.int .i64) w37 (some ad111) y117.length y117 from by rw [Ny117.out]; exact Kd.C_take (m := (x9_2 : Int).toNat) ((Kd.R_reads' (HO_4.out)).2.2) KL30.out)
     have HR134 := Aside0.mk (show Kd.C (Kd.int .i64) w37 A31 y131.length y131 from by rw [Ny131.out, KA31.out]; exact Kd.C_drop (m := (x9_2 : Int).toNat) (c := co13) ((Kd.R_reads' (HO_4.out)).2.2) KL31.out ((Kd.R_reads' (HO_4.out)).2.1))
     obtain ⟨Ao39, co39, eo39⟩ := Kd.R_slice HO127.out
     (first | subst eo39 | (injection eo39 with f1_ f2_ f3_; have f4_ := f1_.symm; have f5_ := f3_.symm; clear f1_ f2_ f3_; subst f4_; subst f5_))
     refine norm_ (a' := ?_) ?_ ?_
     rotate_left
     ·simp only [putAll, Act.put, List.setIfInBounds_toArray, List.set_cons_zero, List.set_cons_succ]
      rfl
     refine one_ (i := 10) (N := some 67) #[I,I,I,I,I,I,I,I,I,I,I,I,I,I,O,O] rfl rfl (one_of HT_.out (by kernel_rfl)) (by decide) (fun K hK => ?_)
     refine Kd.R_append_rows_step (Kd.int .i64) (w0 := w) w.heap.size (by rfl) (.tmp 61) (.tmp 66) 22 3 (.int .i64 0) 8 rfl Try.underlying22 info3 rfl (by decide) (by omega) v122 y121 y125 _ _ _ (fun k_ => some k_ ≠ (.slice (some ad111) x4_1.length co13 : Value).ownBlock ∧ some k_ ≠ (.slice (some ad108) t105.length co12 : Value).ownBlock ∧ some k_ ≠ (.slice Ao39 y125.length co39 : Value).ownBlock) (fun _ => False) rfl rfl ?aO ?aR (fun _ _ h => h) (fun _ h => h.elim) ?aF ?aB ?aS ?aL ?_
     (case aR => repeat (first | exact (Kd.R_reads' HO127.out).2.2 | (with_reducible refine Kd.C_alloc ?_ _) | (with_reducible refine Kd.C_drewN ?_ _) | (with_reducible refine Kd.C_drew ?_)))
     (case aB => exact (by exact eS HB.out))
     (case aF => exact (fun k_ hk => ⟨Kd.fresh' (Kd.R_lt (by exact Ho.RS <| HO_4.out)) k_ hk, Kd.fresh' (Kd.R_lt (by exact Ho.RS <| HO_5.out)) k_ hk, Kd.fresh' (Kd.R_lt (by exact Ho.RS <| HO127.out)) k_ hk⟩))
     (case aO => exact (by exact Ho.RS <| Kd.R_mono HO123.out (fun _ hk => ⟨hk.2.1, ⟨hk.2.2, hk.1⟩⟩)))
     (case aS => exact (below_size (by exact eS HB.out)))
     (case aL => have := LMc25.out; omega)
     intro v129 w38 ho hb hg hat
     have HS0_ := cell_grown hg (hHeld) (by (first | rw [add_block] | (show some (Addr.add _ _).block ≠ _; rw [add_block]) | skip); first | exact (fun e_ => ((HO123.out.1 _ e_.symm)) rfl) | exact (fun e_ => ((HO123.out.1 _ e_.symm).1) rfl) | exact (fun e_ => ((HO123.out.1 _ e_.symm).2) rfl) | exact (fun e_ => ((HO123.out.1 _ e_.symm).1.1) rfl) | exact (fun e_ => ((HO123.out.1 _ e_.symm).1.2) rfl) | exact (fun e_ => ((HO123.out.1 _ e_.symm).2.1) rfl) | exact (fun e_ => ((HO123.out.1 _ e_.symm).2.2) rfl) | exact (fun e_ => ((HO123.out.1 _ e_.symm).1.1.1) rfl) | exact (fun e_ => ((HO123.out.1 _ e_.symm).1.1.2) rfl) | exact (fun e_ => ((HO123.out.1 _ e_.symm).1.2.1) rfl) | exact (fun e_ => ((HO123.out.1 _ e_.symm).1.2.2) rfl) | exact (fun e_ => ((HO123.out.1 _ e_.symm).2.1.1) rfl) | exact (fun e_ => ((HO123.out.1 _ e_.symm).2.1.2) rfl) | exact (fun e_ => ((HO123.out.1 _ e_.symm).2.2.1) rfl) | exact (fun e_ => ((HO123.out.1 _ e_.symm).2.2.2) rfl) | exact (fun e_ => ((HO_5.out.1 _ rfl)) e_) | exact (fun e_ => ((HO_5.out.1 _ rfl).1) e_) | exact (fun e_ => ((HO_5.out.1 _ rfl).2) e_) | exact (fun e_ => ((HO_5.out.1 _ rfl).1.1) e_) | exact (fun e_ => ((HO_5.out.1 _ rfl).1.2) e_) | exact (fun e_ => ((HO_5.out.1 _ rfl).2.1) e_) | exact (fun e_ => ((HO_5.out.1 _ rfl).2.2) e_) | exact (fun e_ => ((HO_5.out.1 _ rfl).1.1.1) e_) | exact (fun e_ => ((HO_5.out.1 _ rfl).1.1.2) e_) | exact (fun e_ => ((HO_5.out.1 _ rfl).1.2.1) e_) | exact (fun e_ => ((HO_5.out.1 _ rfl).1.2.2) e_) | exact (fun e_ => ((HO_5.out.1 _ rfl).2.1.1) e_) | exact (fun e_ => ((HO_5.out.1 _ rfl).2.1.2) e_) | exact (fun e_ => ((HO_5.out.1 _ rfl).2.2.1) e_) | exact (fun e_ => ((HO_5.out.1 _ rfl).2.2.2) e_))
     rw [← Ny128.out] at ho
     have n0_ := Aside0.mk (Kd.R_after (ok := (fun k_ => some k_ ≠ (.slice (some ad108) t105.length co12 : Value).ownBlock ∧ some k_ ≠ (.slice Ao39 y125.length co39 : Value).ownBlock)) (by exact Ho.RS <| Kd.R_mono HO_4.out (fun _ hk => ⟨⟨hk.2.2, hk.2.1⟩, hk.1⟩)) hg hat)
     have n1_ := Aside0.mk (Kd.R_after (ok := (fun k_ => some k_ ≠ (.slice (some ad111) x4_1.length co13 : Value).ownBlock ∧ some k_ ≠ (.slice Ao39 y125.length co39 : Value).ownBlock)) (by exact Ho.RS <| Kd.R_mono HO_5.out (fun _ hk => ⟨⟨hk.2.2, hk.2.1⟩, hk.1⟩)) hg hat)
     have n2_ := Aside0.mk (Kd.R_after (ok := (fun k_ => some k_ ≠ (.slice (some ad111) x4_1.length co13 : Value).ownBlock ∧ some k_ ≠ (.slice (some ad108) t105.length co12 : Value).ownBlock)) (by exact Ho.RS <| Kd.R_mono HO127.out (fun _ hk => ⟨⟨hk.2.1, hk.2.2⟩, hk.1⟩)) hg hat)
     have n3_ := Aside0.mk (hb)
     have n4_ := Aside0.mk ((show Kd.C (Kd.int .i64) w38 (some ad111) y117.length y117 from by rw [Ny117.out]; exact Kd.C_take (m := (x9_2 : Int).toNat) ((Kd.R_reads' (Kd.R_after (ok := (fun k_ => some k_ ≠ (.slice (some ad108) t105.length co12 : Value).ownBlock ∧ some k_ ≠ (.slice Ao39 y125.length co39 : Value).ownBlock)) (by exact Ho.RS <| Kd.R_mono HO_4.out (fun _ hk => ⟨⟨hk.2.2, hk.2.1⟩, hk.1⟩)) hg hat)).2.2) KL30.out))
     have n5_ := Aside0.mk ((show Kd.C (Kd.int .i64) w38 A31 y131.length y131 from by rw [Ny131.out, KA31.out]; exact Kd.C_drop (m := (x9_2 : Int).toNat) (c := co13) ((Kd.R_reads' (Kd.R_after (ok := (fun k_ => some k_ ≠ (.slice (some ad108) t105.length co12 : Value).ownBlock ∧ some k_ ≠ (.slice Ao39 y125.length co39 : Value).ownBlock)) (by exact Ho.RS <| Kd.R_mono HO_4.out (fun _ hk => ⟨⟨hk.2.2, hk.2.1⟩, hk.1⟩)) hg hat)).2.2) KL31.out ((Kd.R_reads' (Kd.R_after (ok := (fun k_ => some k_ ≠ (.slice (some ad108) t105.length co12 : Value).ownBlock ∧ some k_ ≠ (.slice Ao39 y125.length co39 : Value).ownBlock)) (by exact Ho.RS <| Kd.R_mono HO_4.out (fun _ hk => ⟨⟨hk.2.2, hk.2.1⟩, hk.1⟩)) hg hat)).2.1)))
     have n6_ := Aside0.mk (ho)
     clear HO_4
     clear HO_5
     clear HO127
     clear HB
     clear HR120
     clear HR134
     clear HO123
     have HO_4 := n0_
     have HO_5 := n1_
     have HO127 := n2_
     have HB := n3_
     have HR120 := n4_
     have HR134 := n5_
     have HO130 := n6_
     clear n0_ n1_ n2_ n3_ n4_ n5_ n6_
     clear ho hb hg hat
     refine hK.out _ _ (HS0_) (fun hHeld => ?_)
     clear hK K
     refine norm_ (a' := ?_) ?_ ?_
     rotate_left
     ·show Act.put _ (some 67) _ = _
      simp only [Z]
      rfl
     refine one_ (i := 14) (N := some 71) #[I,I,I,I,I,I,I,I,I,I,I,I,I,I,I,O] rfl rfl (one_of HT_.out (by kernel_rfl)) (by decide) (fun K hK => ?_)
     refine Kd.R_append_rows_step (Kd.int .i64) (w0 := w) w.heap.size (by rfl) (.tmp 67) (.tmp 70) 22 3 (.int .i64 0) 8 rfl Try.underlying22 info3 rfl (by decide) (by omega) v129 y128 y131 _ _ _ (fun k_ => some k_ ≠ (.slice (some ad111) x4_1.length co13 : Value).ownBlock ∧ some k_ ≠ (.slice (some ad108) t105.length co12 : Value).ownBlock ∧ some k_ ≠ (.slice Ao39 y125.length co39 : Value).ownBlock) (fun _ => False) rfl rfl ?aO ?aR (fun _ _ h => h) (fun _ h => h.elim) ?aF ?aB ?aS ?aL ?_
     (case aR => repeat (first | exact (by repeat (first | (with_reducible exact HR134.out) | (with_reducible refine Kd.C_alloc ?_ _) | (with_reducible refine Kd.C_drewN ?_ _) | (with_reducible refine Kd.C_drew ?_) | exact HR134.out)) | (with_reducible refine Kd.C_alloc ?_ _) | (with_reducible refine Kd.C_drewN ?_ _) | (with_reducible refine Kd.C_drew ?_)))
     (case aB => exact (by exact eS HB.out))
     (case aF => exact (fun k_ hk => ⟨Kd.fresh' (Kd.R_lt (by exact Ho.RS <| HO_4.out)) k_ hk, Kd.fresh' (Kd.R_lt (by exact Ho.RS <| HO_5.out)) k_ hk, Kd.fresh' (Kd.R_lt (by exact Ho.RS <| HO127.out)) k_ hk⟩))
     (case aO => exact (by exact Ho.RS <| HO130.out))
     (case aS => exact (below_size (by exact eS HB.out)))
     (case aL => have := LMc28.out; omega)
     intro v136 w40 ho hb hg hat
     have HS0_ := cell_grown hg (hHeld) (by (first | rw [add_block] | (show some (Addr.add _ _).block ≠ _; rw [add_block]) | skip); first | exact (fun e_ => ((HO130.out.1 _ e_.symm)) rfl) | exact (fun e_ => ((HO130.out.1 _ e_.symm).1) rfl) | exact (fun e_ => ((HO130.out.1 _ e_.symm).2) rfl) | exact (fun e_ => ((HO130.out.1 _ e_.symm).1.1) rfl) | exact (fun e_ => ((HO130.out.1 _ e_.symm).1.2) rfl) | exact (fun e_ => ((HO130.out.1 _ e_.symm).2.1) rfl) | exact (fun e_ => ((HO130.out.1 _ e_.symm).2.2) rfl) | exact (fun e_ => ((HO130.out.1 _ e_.symm).1.1.1) rfl) | exact (fun e_ => ((HO130.out.1 _ e_.symm).1.1.2) rfl) | exact (fun e_ => ((HO130.out.1 _ e_.symm).1.2.1) rfl) | exact (fun e_ => ((HO130.out.1 _ e_.symm).1.2.2) rfl) | exact (fun e_ => ((HO130.out.1 _ e_.symm).2.1.1) rfl) | exact (fun e_ => ((HO130.out.1 _ e_.symm).2.1.2) rfl) | exact (fun e_ => ((HO130.out.1 _ e_.symm).2.2.1) rfl) | exact (fun e_ => ((HO130.out.1 _ e_.symm).2.2.2) rfl) | exact (fun e_ => ((HO_5.out.1 _ rfl)) e_) | exact (fun e_ => ((HO_5.out.1 _ rfl).1) e_) | exact (fun e_ => ((HO_5.out.1 _ rfl).2) e_) | exact (fun e_ => ((HO_5.out.1 _ rfl).1.1) e_) | exact (fun e_ => ((HO_5.out.1 _ rfl).1.2) e_) | exact (fun e_ => ((HO_5.out.1 _ rfl).2.1) e_) | exact (fun e_ => ((HO_5.out.1 _ rfl).2.2) e_) | exact (fun e_ => ((HO_5.out.1 _ rfl).1.1.1) e_) | exact (fun e_ => ((HO_5.out.1 _ rfl).1.1.2) e_) | exact (fun e_ => ((HO_5.out.1 _ rfl).1.2.1) e_) | exact (fun e_ => ((HO_5.out.1 _ rfl).1.2.2) e_) | exact (fun e_ => ((HO_5.out.1 _ rfl).2.1.1) e_) | exact (fun e_ => ((HO_5.out.1 _ rfl).2.1.2) e_) | exact (fun e_ => ((HO_5.out.1 _ rfl).2.2.1) e_) | exact (fun e_ => ((HO_5.out.1 _ rfl).2.2.2) e_))
     rw [← Ny135.out] at ho
     have n0_ := Aside0.mk (Kd.R_after (ok := (fun k_ => some k_ ≠ (.slice (some ad108) t105.length co12 : Value).ownBlock ∧ some k_ ≠ (.slice Ao39 y125.length co39 : Value).ownBlock)) (by exact Ho.RS <| HO_4.out) hg hat)
     have n1_ := Aside0.mk (Kd.R_after (ok := (fun k_ => some k_ ≠ (.slice (some ad111) x4_1.length co13 : Value).ownBlock ∧ some k_ ≠ (.slice Ao39 y125.length co39 : Value).ownBlock)) (by exact Ho.RS <| HO_5.out) hg hat)
     have n2_ := Aside0.mk (Kd.R_after (ok := (fun k_ => some k_ ≠ (.slice (some ad111) x4_1.length co13 : Value).ownBlock ∧ some k_ ≠ (.slice (some ad108) t105.length co12 : Value).ownBlock)) (by exact Ho.RS <| HO127.out) hg hat)
     have n3_ := Aside0.mk (hb)
     have n4_ := Aside0.mk ((show Kd.C (Kd.int .i64) w40 (some ad111) y117.length y117 from by rw [Ny117.out]; exact Kd.C_take (m := (x9_2 : Int).toNat) ((Kd.R_reads' (Kd.R_after (ok := (fun k_ => some k_ ≠ (.slice (some ad108) t105.length co12 : Value).ownBlock ∧ some k_ ≠ (.slice Ao39 y125.length co39 : Value).ownBlock)) (by exact Ho.RS <| HO_4.out) hg hat)).2.2) KL30.out))
     have n5_ := Aside0.mk ((show Kd.C (Kd.int .i64) w40 A31 y131.length y131 from by rw [Ny131.out, KA31.out]; exact Kd.C_drop (m := (x9_2 : Int).toNat) (c := co13) ((Kd.R_reads' (Kd.R_after (ok := (fun k_ => some k_ ≠ (.slice (some ad108) t105.length co12 : Value).ownBlock ∧ some k_ ≠ (.slice Ao39 y125.length co39 : Value).ownBlock)) (by exact Ho.RS <| HO_4.out) hg hat)).2.2) KL31.out ((Kd.R_reads' (Kd.R_after (ok := (fun k_ => some k_ ≠ (.slice (some ad108) t105.length co12 : Value).ownBlock ∧ some k_ ≠ (.slice Ao39 y125.length co39 : Value).ownBlock)) (by exact Ho.RS <| HO_4.out) hg hat)).2.1)))
     have n6_ := Aside0.mk (ho)
     clear HO_4
     clear HO_5
     clear HO127
     clear HB
     clear HR120
     clear HR134
     clear HO130
     have HO_4 := n0_
     have HO_5 := n1_
     have HO127 := n2_
     have HB := n3_
     have HR120 := n4_
     have HR134 := n5_
     have HO137 := n6_
     clear n0_ n1_ n2_ n3_ n4_ n5_ n6_
     clear ho hb hg hat
     refine hK.out _ _ (HS0_) (fun hHeld => ?_)
     clear hK K
     refine norm_ (a' := ?_) ?_ ?_
     rotate_left
     ·show Act.put _ (some 71) _ = _
      simp only [Z]
      rfl
     refine pure_ (i := 15) (N := some 4) (v := ?_) (a' := ?_) #[I,I,I,I,I,I,I,I,I,I,I,I,I,I,I,I] rfl rfl (any_of HT_.out (by kernel_rfl)) (fun _ _ _ h => h) (Or.inl ⟨by rfl, ?_⟩) ?_ ?_
     rotate_left; (intro w'; go_simp; with_reducible rfl); rotate_left; (simp only [Z]; rfl)
     refine done_ (done_of HT_.out (by kernel_rfl)) ?_
     try go_wp2
     go_roundg k2
     case measure => have := HK1.out; have := HK2.out; omega
     case rel => exact ⟨(y135), (wrap64 (x6_1 + 1)), (by first | rfl | (simp; done) | (simp [*]; done)), H', ⟨by have := HK1.out; have := HK2.out; omega⟩, ⟨by exact Ho.RS <| Kd.R_mono HO137.out (fun _ hk => hk.2.1)⟩, ⟨by exact Ho.RS <| Kd.R_mono HO_5.out (fun _ hk => hk.2)⟩, ⟨by exact eS HB.out⟩⟩
/-- A state of type 93 at block g of W; what its slices lead to came in by w0. -/
def IsS93 (w0 W : World) (g : Nat) (f0 : List Int) (f1 : Int) (f2 : Int) : Prop := ∃ A0 c0, W.heap[g]? = some (.cells #[.slice A0 f0.length c0, .int .i64 f1, .int .u64 f2] 93 (0, 0)) ∧ w0.heap.size ≤ g ∧ Kd.C (Kd.int .u8) w0 A0 f0.length f0
theorem IsS93.grown {w0 W : World} {g : Nat} {f0 : List Int} {f1 : Int} {f2 : Int} {W1 : World} {row : Option Nat} (h : IsS93 w0 W g f0 f1 f2) (hw : W.grownBy W1 row) (hne : some g ≠ row) : IsS93 w0 W1 g f0 f1 f2 := by
  obtain ⟨A0, c0, hb, hg, hr0⟩ := h
  exact ⟨A0, c0, blk_grown hb hw hne, hg, hr0⟩
theorem IsS93.own_neN {w0 W : World} {g : Nat} {f0 : List Int} {f1 : Int} {f2 : Int} {α : Type} {d : Kd α} {e : Nat} {base : Nat} {ok : Nat → Prop} {v : Value} {xs : List α} (h : IsS93 w0 W g f0 f1 f2) (ho : Kd.N d e W base ok v xs) (ht : e ≠ 93) : some g ≠ v.ownBlock := by
  obtain ⟨A0, c0, hb, hg, hr0⟩ := h
  exact Kd.N_ne ho hb ht
theorem IsS93.fresh {w0 W : World} {g : Nat} {f0 : List Int} {f1 : Int} {f2 : Int} (h : IsS93 w0 W g f0 f1 f2) : ∀ k, W.heap.size ≤ k → k ≠ g := by
  obtain ⟨A0, c0, hb, hg, hr0⟩ := h
  exact Kd.freshB hb
theorem IsS93.kept {w0 W : World} {g : Nat} {f0 : List Int} {f1 : Int} {f2 : Int} {W1 : World} {S : Nat → Prop} (h : IsS93 w0 W g f0 f1 f2) (hk : Kept W W1 S) (hne : ¬ S g) : IsS93 w0 W1 g f0 f1 f2 := by
  obtain ⟨A0, c0, hb, hg, hr0⟩ := h
  exact ⟨A0, c0, blk_kept hb hk hne, hg, hr0⟩
theorem IsS93.below {w0 W : World} {g : Nat} {f0 : List Int} {f1 : Int} {f2 : Int} {W1 : World} (h : IsS93 w0 W g f0 f1 f2) (hw : Below W.heap.size W W1) : IsS93 w0 W1 g f0 f1 f2 := h.grown (grown_of_below hw none) (by simp)
theorem IsS93.alloc {w0 W : World} {g : Nat} {f0 : List Int} {f1 : Int} {f2 : Int} (h : IsS93 w0 W g f0 f1 f2) (o : Obj) : IsS93 w0 (W.alloc o) g f0 f1 f2 := h.below (below_alloc (Below.refl _ _) o)
theorem IsS93.drewN {w0 W : World} {g : Nat} {f0 : List Int} {f1 : Int} {f2 : Int} (h : IsS93 w0 W g f0 f1 f2) (m : Nat) : IsS93 w0 (W.drewN m) g f0 f1 f2 := h
theorem IsS93.drew {w0 W : World} {g : Nat} {f0 : List Int} {f1 : Int} {f2 : Int} (h : IsS93 w0 W g f0 f1 f2) : IsS93 w0 W.drew g f0 f1 f2 := h
theorem IsS93.at_ {w0 W : World} {g : Nat} {f0 : List Int} {f1 : Int} {f2 : Int} {w' : World} {m : Nat} (hq : W.drewN m = w') (h : IsS93 w0 W g f0 f1 f2) : IsS93 w0 w' g f0 f1 f2 := by subst hq; exact IsS93.drewN h m
theorem IsS93.apart {w0 W : World} {g : Nat} {f0 : List Int} {f1 : Int} {f2 : Int} {α : Type} {d : Kd α} {e : Nat} {base : Nat} {ok : Nat → Prop} {v : Value} {xs : List α} (h : IsS93 w0 W g f0 f1 f2) (ho : d.R e W base ok v xs) (ht : ∀ q, q ∈ e :: d.E → q ≠ 93) : d.R e W base (fun k => ok k ∧ k ≠ g) v xs := by
  obtain ⟨A0, c0, hb, hg, hr0⟩ := h
  exact Kd.R_types ho hb ht
theorem IsS93.own_ne {w0 W : World} {g : Nat} {f0 : List Int} {f1 : Int} {f2 : Int} {α : Type} {d : Kd α} {e : Nat} {base : Nat} {ok : Nat → Prop} {v : Value} {xs : List α} (h : IsS93 w0 W g f0 f1 f2) (ho : d.R e W base ok v xs) (ht : e ≠ 93) : some g ≠ v.ownBlock := by
  obtain ⟨A0, c0, hb, hg, hr0⟩ := h
  exact Kd.R_ne ho hb ht
theorem IsS93.apartQ {w0 W : World} {g : Nat} {f0 : List Int} {f1 : Int} {f2 : Int} {α : Type} {d : Kd α} {e : Nat} {base : Nat} {ok : Nat → Prop} {v : Value} {xs : List α} (h : IsS93 w0 W g f0 f1 f2) (ho : d.Q e W base ok v xs) (ht : ∀ q, q ∈ e :: d.E → q ≠ 93) : d.Q e W base (fun k => ok k ∧ k ≠ g) v xs := by
  obtain ⟨A0, c0, hb, hg, hr0⟩ := h
  exact Kd.Q_types ho hb ht
theorem IsS93.own_neQ {w0 W : World} {g : Nat} {f0 : List Int} {f1 : Int} {f2 : Int} {α : Type} {d : Kd α} {e : Nat} {base : Nat} {ok : Nat → Prop} {v : Value} {xs : List α} (h : IsS93 w0 W g f0 f1 f2) (ho : d.Q e W base ok v xs) (ht : e ≠ 93) : some g ≠ v.ownBlock := by
  obtain ⟨A0, c0, hb, hg, hr0⟩ := h
  exact Kd.Q_ne ho hb ht
theorem IsS93.apartS {w0 W : World} {g : Nat} {f0 : List Int} {f1 : Int} {f2 : Int} {α : Type} {d : Kd α} {e : Nat} {base : Nat} {ok : Nat → Prop} {v : Value} {xs : List α} (h : IsS93 w0 W g f0 f1 f2) (ho : d.S e W base ok v xs) (ht : ∀ q, q ∈ e :: d.E → q ≠ 93) : d.S e W base (fun k => ok k ∧ k ≠ g) v xs := by
  obtain ⟨A0, c0, hb, hg, hr0⟩ := h
  exact Kd.S_types ho hb ht
theorem IsS93.own_neS {w0 W : World} {g : Nat} {f0 : List Int} {f1 : Int} {f2 : Int} {α : Type} {d : Kd α} {e : Nat} {base : Nat} {ok : Nat → Prop} {v : Value} {xs : List α} (h : IsS93 w0 W g f0 f1 f2) (ho : d.S e W base ok v xs) (ht : e ≠ 93) : some g ≠ v.ownBlock := by
  obtain ⟨A0, c0, hb, hg, hr0⟩ := h
  exact Kd.S_ne ho hb ht
theorem IsS93.lt {w0 W : World} {g : Nat} {f0 : List Int} {f1 : Int} {f2 : Int} (h : IsS93 w0 W g f0 f1 f2) : g < W.heap.size := by
  obtain ⟨A0, c0, hb, hg, hr0⟩ := h
  exact blk_lt hb
theorem IsS93.ge {w0 W : World} {g : Nat} {f0 : List Int} {f1 : Int} {f2 : Int} (h : IsS93 w0 W g f0 f1 f2) : w0.heap.size ≤ g := by
  obtain ⟨A0, c0, hb, hg, hr0⟩ := h
  exact hg
theorem IsS93.ne_blk {w0 W : World} {g : Nat} {f0 : List Int} {f1 : Int} {f2 : Int} {a : Nat} {cs : Array Value} {t : TypeId} {fr : Nat × Nat} (h : IsS93 w0 W g f0 f1 f2) (hb2 : W.heap[a]? = some (.cells cs t fr)) (ht : t ≠ 93) : g ≠ a := by
  obtain ⟨A0, c0, hb, hg, hr0⟩ := h
  rintro rfl
  rw [hb] at hb2
  injection hb2 with hb2
  injection hb2 with _ ht2
  exact ht ht2.symm
theorem IsS93.far {w0 W : World} {g : Nat} {f0 : List Int} {f1 : Int} {f2 : Int} {p : Addr} (h : IsS93 w0 W g f0 f1 f2) (hne : g ≠ p.block) (u : Value) : IsS93 w0 (W.setCell p u) g f0 f1 f2 := by
  obtain ⟨A0, c0, hb, hg, hr0⟩ := h
  exact ⟨A0, c0, blk_far hb hne u, hg, hr0⟩
theorem cellS93_0 {W : World} {g : Nat} {A0 : Option Addr} {c0 : Nat} {f0 : List Int} {f1 : Int} {f2 : Int} (h : W.heap[g]? = some (.cells #[.slice A0 f0.length c0, .int .i64 f1, .int .u64 f2] 93 (0, 0))) : W.cell? ⟨g, 0, none⟩ = some (.slice A0 f0.length c0) := (blk_cell h 0).trans rfl
theorem cellS93_1 {W : World} {g : Nat} {A0 : Option Addr} {c0 : Nat} {f0 : List Int} {f1 : Int} {f2 : Int} (h : W.heap[g]? = some (.cells #[.slice A0 f0.length c0, .int .i64 f1, .int .u64 f2] 93 (0, 0))) : W.cell? ⟨g, 1, none⟩ = some (.int .i64 f1) := (blk_cell h 1).trans rfl
theorem IsS93.set_1 {w0 W : World} {g : Nat} {f0 : List Int} {f1 : Int} {f2 : Int} (h : IsS93 w0 W g f0 f1 f2) (x : Int) : IsS93 w0 (W.setCell ⟨g, 1, none⟩ (.int .i64 x)) g f0 x f2 := by
  obtain ⟨A0, c0, hb, hg, hr0⟩ := h
  exact ⟨A0, c0, by simpa using blk_set hb 1 (.int .i64 x), hg, hr0⟩
theorem cellS93_2 {W : World} {g : Nat} {A0 : Option Addr} {c0 : Nat} {f0 : List Int} {f1 : Int} {f2 : Int} (h : W.heap[g]? = some (.cells #[.slice A0 f0.length c0, .int .i64 f1, .int .u64 f2] 93 (0, 0))) : W.cell? ⟨g, 2, none⟩ = some (.int .u64 f2) := (blk_cell h 2).trans rfl
theorem IsS93.set_2 {w0 W : World} {g : Nat} {f0 : List Int} {f1 : Int} {f2 : Int} (h : IsS93 w0 W g f0 f1 f2) (x : Int) : IsS93 w0 (W.setCell ⟨g, 2, none⟩ (.int .u64 x)) g f0 f1 x := by
  obtain ⟨A0, c0, hb, hg, hr0⟩ := h
  exact ⟨A0, c0, by simpa using blk_set hb 2 (.int .u64 x), hg, hr0⟩
theorem IsS93.new (w0 W : World) (A0 : Option Addr) (c0 : Nat) (f0 : List Int) (f1 : Int) (f2 : Int) (hB : Below w0.heap.size w0 W) (hr0 : Kd.C (Kd.int .u8) w0 A0 f0.length f0) : IsS93 w0 (W.alloc (.cells #[.slice A0 f0.length c0, .int .i64 f1, .int .u64 f2] 93)) W.heap.size f0 f1 f2 := ⟨A0, c0, by simpa using heap_alloc_new W _, hB.size, hr0⟩

/-! ### Fao: function 121 -/
def Fao.f (s0_0 : List Int) (s0_1 : Int) (s0_2 : Int) : Option (Int × Int × Int) := if s0_1 < (s0_0.length : Int) then (if 0 ≤ s0_1 then (if (wrap64 (s0_1 + 1)) ≤ (s0_0.length : Int) then (some (wrap64 (rd s0_0 s0_1), wrap64 (s0_1 + 1), IntKind.u64.wrap ((IntKind.u64.wrap ((IntKind.u64.wrap (s0_2 * 6364136223846793005)) + (IntKind.u64.wrap (wrap64 (rd s0_0 s0_1))))) + 102323))) else (some (wrap64 (Go.bits .and .u64 ((IntKind.u64.wrap ((IntKind.u64.wrap ((IntKind.u64.wrap (s0_2 * 6364136223846793005)) + (IntKind.u64.wrap (wrap64 (rd s0_0 s0_1))))) + 102323)) / 1099511627776) 255), wrap64 (s0_1 + 1), IntKind.u64.wrap ((IntKind.u64.wrap ((IntKind.u64.wrap (s0_2 * 6364136223846793005)) + (IntKind.u64.wrap (wrap64 (rd s0_0 s0_1))))) + 102323)))) else (none)) else (if (wrap64 (s0_1 + 1)) ≤ (s0_0.length : Int) then (some (0, wrap64 (s0_1 + 1), IntKind.u64.wrap ((IntKind.u64.wrap ((IntKind.u64.wrap (s0_2 * 6364136223846793005)))) + 102323))) else (some (wrap64 (Go.bits .and .u64 ((IntKind.u64.wrap ((IntKind.u64.wrap ((IntKind.u64.wrap (s0_2 * 6364136223846793005)))) + 102323)) / 1099511627776) 255), wrap64 (s0_1 + 1), IntKind.u64.wrap ((IntKind.u64.wrap ((IntKind.u64.wrap (s0_2 * 6364136223846793005)))) + 102323))))
set_option maxHeartbeats 8000000 in
set_option maxRecDepth 100000 in
theorem Fao.calls (g : Nat) (s0_0 : List Int) (s0_1 : Int) (s0_2 : Int) (r1 : Int) (r2 : Int) (r3 : Int) (w0 w : World) (hI : IsS93 w0 w g s0_0 s0_1 s0_2) (hB : Below w0.heap.size w0 w) (h : Fao.f s0_0 s0_1 s0_2 = some (r1, r2, r3)) :
  Calls Try.prog 121 #[.pointer (some ⟨g, 0, none⟩)] w fun e w' => e = .returned (.int .i64 r1) ∧ IsS93 w0 w' g s0_0 r2 r3 ∧ Below w0.heap.size w0 w' ∧ KeepBut w w' g none := by
 have HI0 := Aside0.mk hI
 have HK := Aside0.mk (KeepBut.refl w g none)
 have HL := Aside0.mk hB.size
 clear hI
 have HW0 := Aside0.mk hB.size
 have HB := Aside0.mk hB
 clear hB
 have H : (if s0_1 < (s0_0.length : Int) then (if 0 ≤ s0_1 then (if (wrap64 (s0_1 + 1)) ≤ (s0_0.length : Int) then (some (wrap64 (rd s0_0 s0_1), wrap64 (s0_1 + 1), IntKind.u64.wrap ((IntKind.u64.wrap ((IntKind.u64.wrap (s0_2 * 6364136223846793005)) + (IntKind.u64.wrap (wrap64 (rd s0_0 s0_1))))) + 102323))) else (some (wrap64 (Go.bits .and .u64 ((IntKind.u64.wrap ((IntKind.u64.wrap ((IntKind.u64.wrap (s0_2 * 6364136223846793005)) + (IntKind.u64.wrap (wrap64 (rd s0_0 s0_1))))) + 102323)) / 1099511627776) 255), wrap64 (s0_1 + 1), IntKind.u64.wrap ((IntKind.u64.wrap ((IntKind.u64.wrap (s0_2 * 6364136223846793005)) + (IntKind.u64.wrap (wrap64 (rd s0_0 s0_1))))) + 102323)))) else (none)) else (if (wrap64 (s0_1 + 1)) ≤ (s0_0.length : Int) then (some (0, wrap64 (s0_1 + 1), IntKind.u64.wrap ((IntKind.u64.wrap ((IntKind.u64.wrap (s0_2 * 6364136223846793005)))) + 102323))) else (some (wrap64 (Go.bits .and .u64 ((IntKind.u64.wrap ((IntKind.u64.wrap ((IntKind.u64.wrap (s0_2 * 6364136223846793005)))) + 102323)) / 1099511627776) 255), wrap64 (s0_1 + 1), IntKind.u64.wrap ((IntKind.u64.wrap ((IntKind.u64.wrap (s0_2 * 6364136223846793005)))) + 102323))))) = some (r1, r2, r3) := h
 clear h
 by_cases c2 : s0_1 < (s0_0.length : Int)
 rotate_left
 ·rw [if_neg c2] at H
  have c2b0 : decide (s0_1 < (s0_0.length : Int)) = false := decide_eq_false c2
  clear c2
  by_cases c7 : (wrap64 (s0_1 + 1)) ≤ (s0_0.length : Int)
  ·rw [if_pos c7] at H
   have c7b0 : decide ((wrap64 (s0_1 + 1)) ≤ (s0_0.length : Int)) = true := decide_eq_true c7
   clear c7
   simp only [Option.some.injEq, Prod.mk.injEq] at H
   obtain ⟨rfl, rfl, rfl⟩ := H
   obtain ⟨ASz8_0, cSz8_0, HGz8, hgz8, HSz8_0⟩ := HI0.out
   have hcz8_0 := cellS93_0 HGz8
   have hcz8_1 := cellS93_1 HGz8
   have hcz8_2 := cellS93_2 HGz8
   have hfz8_1 := blk_frozen HGz8 1
   have hfz8_2 := blk_frozen HGz8 2
   clear HGz8 hgz8
   go_enter Try.func121, Try.ntmps121
   go_wp2
   repeat (go_quiet (fail); try go_wp2)
   go_ret
   exact ⟨by first | rfl | (simp [errW_none, errW_some] <;> rfl) | (simp [*, errW_none, errW_some] <;> rfl), by repeat (first | (with_reducible first | exact HI0.out | apply IsS93.alloc | apply IsS93.drewN | apply IsS93.drew | apply IsS93.set_1 | apply IsS93.set_2) | exact HI0.out), by repeat (first | (with_reducible first | exact HB.out | apply below_alloc | apply pw_below_drewN | apply below_drew1 | refine below_set ?_ (IsS93.ge HI0.out)) | exact HB.out), by repeat (first | (with_reducible first | exact HK.out | apply KeepBut.set_ | apply keep_drewN | apply keep_drew | apply keep_alloc) | exact HK.out)⟩
  rw [if_neg c7] at H
  have c7b0 : decide ((wrap64 (s0_1 + 1)) ≤ (s0_0.length : Int)) = false := decide_eq_false c7
  clear c7
  simp only [Option.some.injEq, Prod.mk.injEq] at H
  obtain ⟨rfl, rfl, rfl⟩ := H
  obtain ⟨ASz9_0, cSz9_0, HGz9, hgz9, HSz9_0⟩ := HI0.out
  have hcz9_0 := cellS93_0 HGz9
  have hcz9_1 := cellS93_1 HGz9
  have hcz9_2 := cellS93_2 HGz9
  have hfz9_1 := blk_frozen HGz9 1
  have hfz9_2 := blk_frozen HGz9 2
  clear HGz9 hgz9
  go_enter Try.func121, Try.ntmps121
  go_wp2
  repeat (go_quiet (fail); try go_wp2)
  go_ret
  exact ⟨by first | rfl | (simp [errW_none, errW_some] <;> rfl) | (simp [*, errW_none, errW_some] <;> rfl), by repeat (first | (with_reducible first | exact HI0.out | apply IsS93.alloc | apply IsS93.drewN | apply IsS93.drew | apply IsS93.set_1 | apply IsS93.set_2) | exact HI0.out), by repeat (first | (with_reducible first | exact HB.out | apply below_alloc | apply pw_below_drewN | apply below_drew1 | refine below_set ?_ (IsS93.ge HI0.out)) | exact HB.out), by repeat (first | (with_reducible first | exact HK.out | apply KeepBut.set_ | apply keep_drewN | apply keep_drew | apply keep_alloc) | exact HK.out)⟩
 rw [if_pos c2] at H
 have c2b0 : decide (s0_1 < (s0_0.length : Int)) = true := decide_eq_true c2
 clear c2
 by_cases c3 : 0 ≤ s0_1
 rotate_left
 ·rw [if_neg c3] at H
  exact absurd H (by simp)
 rw [if_pos c3] at H
 have c3b0 : decide (0 ≤ s0_1) = true := decide_eq_true c3
 clear c3
 by_cases c4 : (wrap64 (s0_1 + 1)) ≤ (s0_0.length : Int)
 ·rw [if_pos c4] at H
  have c4b0 : decide ((wrap64 (s0_1 + 1)) ≤ (s0_0.length : Int)) = true := decide_eq_true c4
  clear c4
  simp only [Option.some.injEq, Prod.mk.injEq] at H
  obtain ⟨rfl, rfl, rfl⟩ := H
  obtain ⟨ASz5_0, cSz5_0, HGz5, hgz5, HSz5_0⟩ := HI0.out
  have hcz5_0 := cellS93_0 HGz5
  have hcz5_1 := cellS93_1 HGz5
  have hcz5_2 := cellS93_2 HGz5
  have hfz5_1 := blk_frozen HGz5 1
  have hfz5_2 := blk_frozen HGz5 2
  clear HGz5 hgz5
  have p101 : 0 ≤ (s0_1 : Int) := of_decide_eq_true (by first | (with_reducible assumption) | assumption)
  have q101 : s0_1 < (s0_0.length : Int) := of_decide_eq_true (by first | (with_reducible assumption) | assumption)
  obtain ⟨ad101, e101, hx101_0⟩ := Kd.at_int HSz5_0 s0_1 p101 q101
  cases e101
  replace hx101_0 := pw_cell_below HB.out hx101_0
  replace p101 := eq_true p101
  replace q101 := eq_true q101
  go_enter Try.func121, Try.ntmps121
  go_wp2
  repeat (go_quiet (fail); try go_wp2)
  go_ret
  exact ⟨by first | rfl | (simp [errW_none, errW_some] <;> rfl) | (simp [*, errW_none, errW_some] <;> rfl), by repeat (first | (with_reducible first | exact HI0.out | apply IsS93.alloc | apply IsS93.drewN | apply IsS93.drew | apply IsS93.set_1 | apply IsS93.set_2) | exact HI0.out), by repeat (first | (with_reducible first | exact HB.out | apply below_alloc | apply pw_below_drewN | apply below_drew1 | refine below_set ?_ (IsS93.ge HI0.out)) | exact HB.out), by repeat (first | (with_reducible first | exact HK.out | apply KeepBut.set_ | apply keep_drewN | apply keep_drew | apply keep_alloc) | exact HK.out)⟩
 rw [if_neg c4] at H
 have c4b0 : decide ((wrap64 (s0_1 + 1)) ≤ (s0_0.length : Int)) = false := decide_eq_false c4
 clear c4
 simp only [Option.some.injEq, Prod.mk.injEq] at H
 obtain ⟨rfl, rfl, rfl⟩ := H
 obtain ⟨ASz6_0, cSz6_0, HGz6, hgz6, HSz6_0⟩ := HI0.out
 have hcz6_0 := cellS93_0 HGz6
 have hcz6_1 := cellS93_1 HGz6
 have hcz6_2 := cellS93_2 HGz6
 have hfz6_1 := blk_frozen HGz6 1
 have hfz6_2 := blk_frozen HGz6 2
 clear HGz6 hgz6
 have p101 : 0 ≤ (s0_1 : Int) := of_decide_eq_true (by first | (with_reducible assumption) | assumption)
 have q101 : s0_1 < (s0_0.length : Int) := of_decide_eq_true (by first | (with_reducible assumption) | assumption)
 obtain ⟨ad101, e101, hx101_0⟩ := Kd.at_int HSz6_0 s0_1 p101 q101
 cases e101
 replace hx101_0 := pw_cell_below HB.out hx101_0
 replace p101 := eq_true p101
 replace q101 := eq_true q101
 go_enter Try.func121, Try.ntmps121
 go_wp2
 repeat (go_quiet (fail); try go_wp2)
 go_ret
 exact ⟨by first | rfl | (simp [errW_none, errW_some] <;> rfl) | (simp [*, errW_none, errW_some] <;> rfl), by repeat (first | (with_reducible first | exact HI0.out | apply IsS93.alloc | apply IsS93.drewN | apply IsS93.drew | apply IsS93.set_1 | apply IsS93.set_2) | exact HI0.out), by repeat (first | (with_reducible first | exact HB.out | apply below_alloc | apply pw_below_drewN | apply below_drew1 | refine below_set ?_ (IsS93.ge HI0.out)) | exact HB.out), by repeat (first | (with_reducible first | exact HK.out | apply KeepBut.set_ | apply keep_drewN | apply keep_drew | apply keep_alloc) | exact HK.out)⟩
end Go.Proofs.Ytbfhphobnngeaaa.X

namespace Go.Proofs.Ytbfhphobnngeaaa.X
open Ho (bS eS)
open Go.RowKit Go.Proofs.YtbfhphobnngeaaaW.PrintWords Go.Proofs.YtbfhphobnngeaaaW.PrintLast Go.Proofs.YtbfhphobnngeaaaW.PrintMore
attribute [local go_sem] max2_int min2_int max_two min_two max_three min_three max_four min_four   -- for this text's walks alone
set_option linter.unusedVariables false
set_option linter.unusedSimpArgs false
open Sq (I O Z Dz)
/-! ### Fx: function 108 -/
def Fx.f (s0_0 : List Int) (s0_1 : Int) (s0_2 : Int) (a1 : Int) : Option (Int × Int × Int) := if a1 ≤ 1 then (some (0, s0_1, s0_2)) else ((Fao.f s0_0 s0_1 s0_2).bind fun bt101 => (if a1 > 200 then ((Fao.f s0_0 bt101.2.1 bt101.2.2).bind fun bt104 => (if a1 = 0 then (none) else (some (Int.tmod (wrap64 ((wrap64 (bt101.1 * 256)) + bt104.1)) a1, bt104.2.1, bt104.2.2)))) else (if a1 = 0 then (none) else (some (Int.tmod bt101.1 a1, bt101.2.1, bt101.2.2)))))
set_option maxHeartbeats 8000000 in
set_option maxRecDepth 100000 in
theorem Fx.calls (g : Nat) (s0_0 : List Int) (s0_1 : Int) (s0_2 : Int) (a1 : Int) (r1 : Int) (r2 : Int) (r3 : Int) (w0 w : World) (hI : IsS93 w0 w g s0_0 s0_1 s0_2) (hB : Below w0.heap.size w0 w) (h : Fx.f s0_0 s0_1 s0_2 a1 = some (r1, r2, r3)) :
  Calls Try.prog 108 #[.pointer (some ⟨g, 0, none⟩), .int .i64 a1] w fun e w' => e = .returned (.int .i64 r1) ∧ IsS93 w0 w' g s0_0 r2 r3 ∧ Below w0.heap.size w0 w' ∧ KeepBut w w' g none := by
 have HI0 := Aside0.mk hI
 have HK := Aside0.mk (KeepBut.refl w g none)
 have HL := Aside0.mk hB.size
 clear hI
 have HW0 := Aside0.mk hB.size
 have HB := Aside0.mk hB
 clear hB
 have H : (if a1 ≤ 1 then (some (0, s0_1, s0_2)) else ((Fao.f s0_0 s0_1 s0_2).bind fun bt101 => (if a1 > 200 then ((Fao.f s0_0 bt101.2.1 bt101.2.2).bind fun bt104 => (if a1 = 0 then (none) else (some (Int.tmod (wrap64 ((wrap64 (bt101.1 * 256)) + bt104.1)) a1, bt104.2.1, bt104.2.2)))) else (if a1 = 0 then (none) else (some (Int.tmod bt101.1 a1, bt101.2.1, bt101.2.2)))))) = some (r1, r2, r3) := h
 clear h
 by_cases c3 : a1 ≤ 1
 ·rw [if_pos c3] at H
  have c3b0 : decide (a1 ≤ 1) = true := decide_eq_true c3
  clear c3
  simp only [Option.some.injEq, Prod.mk.injEq] at H
  obtain ⟨rfl, rfl, rfl⟩ := H
  go_enter Try.func108, Try.ntmps108
  go_wp2
  go_ret
  exact ⟨by first | rfl | (simp [errW_none, errW_some] <;> rfl) | (simp [*, errW_none, errW_some] <;> rfl), by exact IsS93.below HI0.out Ho.Steps.below, by exact eS HB.out, by exact Ho.kS HK.out⟩
 ·rw [if_neg c3] at H
  have c3b0 : decide (a1 ≤ 1) = false := decide_eq_false c3
  clear c3
  replace H := Option.bind_eq_some_iff.mp H
  obtain ⟨⟨t101, t102, t103⟩, A40, H⟩ := H
  replace H : (if a1 > 200 then ((Fao.f s0_0 t102 t103).bind fun bt104 => (if a1 = 0 then (none) else (some (Int.tmod (wrap64 ((wrap64 (t101 * 256)) + bt104.1)) a1, bt104.2.1, bt104.2.2)))) else (if a1 = 0 then (none) else (some (Int.tmod t101 a1, t102, t103)))) = some (r1, r2, r3) := H
  have A4 := Aside0.mk A40
  clear A40
  by_cases c5 : a1 > 200
  ·rw [if_pos c5] at H
   have c5b0 : decide (200 < a1) = true := decide_eq_true c5
   clear c5
   replace H := Option.bind_eq_some_iff.mp H
   obtain ⟨⟨t104, t105, t106⟩, A60, H⟩ := H
   replace H : (if a1 = 0 then (none) else (some (Int.tmod (wrap64 ((wrap64 (t101 * 256)) + t104)) a1, t105, t106))) = some (r1, r2, r3) := H
   have A6 := Aside0.mk A60
   clear A60
   by_cases c7 : a1 = 0
   ·rw [if_pos c7] at H
    exact absurd H (by simp)
   ·rw [if_neg c7] at H
    have c7b0 : (a1 == 0) = false := beq_eq_false_iff_ne.mpr c7
    have c7b1 : (a1 != 0) = true := bne_iff_ne.mpr c7
    simp only [Option.some.injEq, Prod.mk.injEq] at H
    obtain ⟨rfl, rfl, rfl⟩ := H
    go_enter Try.func108, Try.ntmps108
    go_wp2_with (first | ((with_reducible refine gate_callee (f := 121) rfl ?_); refine goesL_ (some 9) rfl rfl Try.func121 (by kernel_rfl) rfl #[.pointer (some ⟨g, 0, none⟩)] rfl (by (try simp only [List.map_toArray, List.map_cons, List.map_nil]); first | done | rfl | (simp only [List.length_drop, List.length_take]; rfl)) ?_; (with_reducible refine (Fao.calls g s0_0 s0_1 s0_2 t101 t102 t103 w0 _ ?side1 ?side2 A4.out).mono ?_); (case side1 => exact IsS93.below HI0.out Ho.Steps.below); (case side2 => exact eS HB.out); rintro e w8 ⟨rfl, hi, hb, hk⟩; refine ⟨_, rfl, ?_⟩; have n0_ := Aside0.mk (KeepBut.trans (by exact Ho.kS HK.out) hk (.inl rfl)); have n1_ := Aside0.mk (hb); have n2_ := Aside0.mk (hi); clear HK; clear HB; clear HI0; have HK := n0_; have HB := n1_; have HI0 := n2_; clear n0_ n1_ n2_; (try clear hb); (try clear hb2); (try clear hk); (try clear hi)) | ((with_reducible refine gate_callee (f := 121) rfl ?_); refine goesL_ (some 15) rfl rfl Try.func121 (by kernel_rfl) rfl #[.pointer (some ⟨g, 0, none⟩)] rfl (by (try simp only [List.map_toArray, List.map_cons, List.map_nil]); first | done | rfl | (simp only [List.length_drop, List.length_take]; rfl)) ?_; (with_reducible refine (Fao.calls g s0_0 t102 t103 t104 t105 t106 w0 _ ?side1 ?side2 A6.out).mono ?_); (case side1 => exact IsS93.below HI0.out Ho.Steps.below); (case side2 => exact eS HB.out); rintro e w9 ⟨rfl, hi, hb, hk⟩; refine ⟨_, rfl, ?_⟩; have n0_ := Aside0.mk (KeepBut.trans (by exact Ho.kS HK.out) hk (.inl rfl)); have n1_ := Aside0.mk (hb); have n2_ := Aside0.mk (hi); clear HK; clear HB; clear HI0; have HK := n0_; have HB := n1_; have HI0 := n2_; clear n0_ n1_ n2_; (try clear hb); (try clear hb2); (try clear hk); (try clear hi)))
    go_ret
    exact ⟨by first | rfl | (simp [errW_none, errW_some] <;> rfl) | (simp [*, errW_none, errW_some] <;> rfl), by exact IsS93.below HI0.out Ho.Steps.below, by exact eS HB.out, by exact Ho.kS HK.out⟩
  ·rw [if_neg c5] at H
   have c5b0 : decide (200 < a1) = false := decide_eq_false c5
   clear c5
   by_cases c10 : a1 = 0
   ·rw [if_pos c10] at H
    exact absurd H (by simp)
   ·rw [if_neg c10] at H
    have c10b0 : (a1 == 0) = false := beq_eq_false_iff_ne.mpr c10
    have c10b1 : (a1 != 0) = true := bne_iff_ne.mpr c10
    simp only [Option.some.injEq, Prod.mk.injEq] at H
    obtain ⟨rfl, rfl, rfl⟩ := H
    go_enter Try.func108, Try.ntmps108
    go_wp2_with (first | ((with_reducible refine gate_callee (f := 121) rfl ?_); refine goesL_ (some 9) rfl rfl Try.func121 (by kernel_rfl) rfl #[.pointer (some ⟨g, 0, none⟩)] rfl (by (try simp only [List.map_toArray, List.map_cons, List.map_nil]); first | done | rfl | (simp only [List.length_drop, List.length_take]; rfl)) ?_; (with_reducible refine (Fao.calls g s0_0 s0_1 s0_2 t101 t102 t103 w0 _ ?side1 ?side2 A4.out).mono ?_); (case side1 => exact IsS93.below HI0.out Ho.Steps.below); (case side2 => exact eS HB.out); rintro e w11 ⟨rfl, hi, hb, hk⟩; refine ⟨_, rfl, ?_⟩; have n0_ := Aside0.mk (KeepBut.trans (by exact Ho.kS HK.out) hk (.inl rfl)); have n1_ := Aside0.mk (hb); have n2_ := Aside0.mk (hi); clear HK; clear HB; clear HI0; have HK := n0_; have HB := n1_; have HI0 := n2_; clear n0_ n1_ n2_; (try clear hb); (try clear hb2); (try clear hk); (try clear hi)))
    go_ret
    exact ⟨by first | rfl | (simp [errW_none, errW_some] <;> rfl) | (simp [*, errW_none, errW_some] <;> rfl), by exact IsS93.below HI0.out Ho.Steps.below, by exact eS HB.out, by exact Ho.kS HK.out⟩
/-! ### Fj: function 82 -/
def Fj.f (s0_0 : List Int) (s0_1 : Int) (s0_2 : Int) (l1 : List Int) : Option (Int × Int × Int) := (Fx.f s0_0 s0_1 s0_2 (l1.length : Int)).bind fun bt101 => (if 0 ≤ bt101.1 then (if bt101.1 < (l1.length : Int) then (some (rd l1 bt101.1, bt101.2.1, bt101.2.2)) else (none)) else (none))
set_option maxHeartbeats 8000000 in
set_option maxRecDepth 100000 in
theorem Fj.calls (g : Nat) (s0_0 : List Int) (s0_1 : Int) (s0_2 : Int) (A1 : Option Addr) (c1 : Nat) (l1 : List Int) (r1 : Int) (r2 : Int) (r3 : Int) (w0 w : World) (hI : IsS93 w0 w g s0_0 s0_1 s0_2) (hB : Below w0.heap.size w0 w) (hr1 : Kd.C (Kd.int .i64) w A1 l1.length l1) (hc1 : l1.length ≤ c1) (hf1 : ∀ ad, A1 = some ad → 0 < l1.length → ad.block ≠ g) (h : Fj.f s0_0 s0_1 s0_2 l1 = some (r1, r2, r3)) :
  Calls Try.prog 82 #[.pointer (some ⟨g, 0, none⟩), .slice A1 l1.length c1] w fun e w' => e = .returned (.int .i64 r1) ∧ IsS93 w0 w' g s0_0 r2 r3 ∧ Below w0.heap.size w0 w' ∧ KeepBut w w' g none := by
 have HR1 := Aside0.mk hr1
 have HC1 := Aside0.mk hc1
 clear hr1 hc1
 have HI0 := Aside0.mk hI
 have HK := Aside0.mk (KeepBut.refl w g none)
 have HL := Aside0.mk hB.size
 clear hI
 have HW0 := Aside0.mk hB.size
 have HB := Aside0.mk hB
 clear hB
 have H : ((Fx.f s0_0 s0_1 s0_2 (l1.length : Int)).bind fun bt101 => (if 0 ≤ bt101.1 then (if bt101.1 < (l1.length : Int) then (some (rd l1 bt101.1, bt101.2.1, bt101.2.2)) else (none)) else (none))) = some (r1, r2, r3) := h
 clear h
 replace H := Option.bind_eq_some_iff.mp H
 obtain ⟨⟨t101, t102, t103⟩, A30, H⟩ := H
 replace H : (if 0 ≤ t101 then (if t101 < (l1.length : Int) then (some (rd l1 t101, t102, t103)) else (none)) else (none)) = some (r1, r2, r3) := H
 have A3 := Aside0.mk A30
 clear A30
 by_cases c4 : 0 ≤ t101
 ·rw [if_pos c4] at H
  have c4b0 : decide (0 ≤ t101) = true := decide_eq_true c4
  clear c4
  by_cases c5 : t101 < (l1.length : Int)
  ·rw [if_pos c5] at H
   have c5b0 : decide (t101 < (l1.length : Int)) = true := decide_eq_true c5
   clear c5
   simp only [Option.some.injEq, Prod.mk.injEq] at H
   obtain ⟨rfl, rfl, rfl⟩ := H
   go_enter Try.func82, Try.ntmps82
   go_wp2_with (first | ((with_reducible refine gate_callee (f := 108) rfl ?_); refine goesL_ (some 9) rfl rfl Try.func108 (by kernel_rfl) rfl #[.pointer (some ⟨g, 0, none⟩), .int .i64 (l1.length : Int)] rfl (by (try simp only [List.map_toArray, List.map_cons, List.map_nil]); first | done | rfl | (simp only [List.length_drop, List.length_take]; rfl)) ?_; (with_reducible refine (Fx.calls g s0_0 s0_1 s0_2 (l1.length : Int) t101 t102 t103 w0 _ ?side1 ?side2 A3.out).mono ?_); (case side1 => exact IsS93.below HI0.out Ho.Steps.below); (case side2 => exact eS HB.out); rintro e w6 ⟨rfl, hi, hb, hk⟩; refine ⟨_, rfl, ?_⟩; have n0_ := Aside0.mk (KeepBut.trans (by exact Ho.kS HK.out) hk (.inl rfl)); have n1_ := Aside0.mk (hb); have n2_ := Aside0.mk (hi); clear HK; clear HB; clear HI0; have HK := n0_; have HB := n1_; have HI0 := n2_; clear n0_ n1_ n2_; (try clear hb); (try clear hb2); (try clear hk); (try clear hi); have p104 : 0 ≤ (t101 : Int) := Dz; have q104 : t101 < (l1.length : Int) := Dz; obtain ⟨ad104, e104, hx104_0⟩ := Kd.at_int HR1.out t101 p104 q104; cases e104; replace hx104_0 := keep_cell HK.out hx104_0 (by first | (rw [add_block]; exact hf1 _ rfl (by omega)) | exact hf1 _ rfl (by omega) | exact hf1 ad104 rfl (by omega)); replace p104 := eq_true p104; replace q104 := eq_true q104))
   go_ret
   exact ⟨by first | rfl | (simp [errW_none, errW_some] <;> rfl) | (simp [*, errW_none, errW_some] <;> rfl), by exact IsS93.below HI0.out Ho.Steps.below, by exact eS HB.out, by exact Ho.kS HK.out⟩
  ·rw [if_neg c5] at H
   exact absurd H (by simp)
 ·rw [if_neg c4] at H
  exact absurd H (by simp)
/-! ### Faq: function 110 -/
def Faq.f (s0_0 : List Int) (s0_1 : Int) (s0_2 : Int) (a1 : Int) : Option (Bool × Int × Int) := (Fx.f s0_0 s0_1 s0_2 a1).bind fun bt101 => (some ((bt101.1 == 0), bt101.2.1, bt101.2.2))
set_option maxHeartbeats 8000000 in
set_option maxRecDepth 100000 in
theorem Faq.calls (g : Nat) (s0_0 : List Int) (s0_1 : Int) (s0_2 : Int) (a1 : Int) (r1 : Bool) (r2 : Int) (r3 : Int) (w0 w : World) (hI : IsS93 w0 w g s0_0 s0_1 s0_2) (hB : Below w0.heap.size w0 w) (h : Faq.f s0_0 s0_1 s0_2 a1 = some (r1, r2, r3)) :
  Calls Try.prog 110 #[.pointer (some ⟨g, 0, none⟩), .int .i64 a1] w fun e w' => e = .returned (.bool r1) ∧ IsS93 w0 w' g s0_0 r2 r3 ∧ Below w0.heap.size w0 w' ∧ KeepBut w w' g none := by
 have HI0 := Aside0.mk hI
 have HK := Aside0.mk (KeepBut.refl w g none)
 have HL := Aside0.mk hB.size
 clear hI
 have HW0 := Aside0.mk hB.size
 have HB := Aside0.mk hB
 clear hB
 have H : ((Fx.f s0_0 s0_1 s0_2 a1).bind fun bt101 => (some ((bt101.1 == 0), bt101.2.1, bt101.2.2))) = some (r1, r2, r3) := h
 clear h
 replace H := Option.bind_eq_some_iff.mp H
 obtain ⟨⟨t101, t102, t103⟩, A30, H⟩ := H
 replace H : (some ((t101 == 0), t102, t103)) = some (r1, r2, r3) := H
 have A3 := Aside0.mk A30
 clear A30
 simp only [Option.some.injEq, Prod.mk.injEq] at H
 obtain ⟨rfl, rfl, rfl⟩ := H
 go_enter Try.func110, Try.ntmps110
 go_wp2_with (first | ((with_reducible refine gate_callee (f := 108) rfl ?_); refine goesL_ (some 7) rfl rfl Try.func108 (by kernel_rfl) rfl #[.pointer (some ⟨g, 0, none⟩), .int .i64 a1] rfl (by (try simp only [List.map_toArray, List.map_cons, List.map_nil]); first | done | rfl | (simp only [List.length_drop, List.length_take]; rfl)) ?_; (with_reducible refine (Fx.calls g s0_0 s0_1 s0_2 a1 t101 t102 t103 w0 _ ?side1 ?side2 A3.out).mono ?_); (case side1 => exact IsS93.below HI0.out Ho.Steps.below); (case side2 => exact eS HB.out); rintro e w4 ⟨rfl, hi, hb, hk⟩; refine ⟨_, rfl, ?_⟩; have n0_ := Aside0.mk (KeepBut.trans (by exact Ho.kS HK.out) hk (.inl rfl)); have n1_ := Aside0.mk (hb); have n2_ := Aside0.mk (hi); clear HK; clear HB; clear HI0; have HK := n0_; have HB := n1_; have HI0 := n2_; clear n0_ n1_ n2_; (try clear hb); (try clear hb2); (try clear hk); (try clear hi)))
 go_ret
 exact ⟨by first | rfl | (simp [errW_none, errW_some] <;> rfl) | (simp [*, errW_none, errW_some] <;> rfl), by exact IsS93.below HI0.out Ho.Steps.below, by exact eS HB.out, by exact Ho.kS HK.out⟩
/-! ### Fat: function 95 -/
def Fat.f (a0 : Int) (a1 : Int) : Option (Int) := if a0 < a1 then (some a0) else (some a1)
set_option maxHeartbeats 8000000 in
set_option maxRecDepth 100000 in
theorem Fat.calls (a0 : Int) (a1 : Int) (r : Int) (w : World) (h : Fat.f a0 a1 = some r) :
  Calls Try.prog 95 #[.int .i64 a0, .int .i64 a1] w fun e w' => e = .returned (.int .i64 r) ∧ Drawn0 w w' := by
 have H : (if a0 < a1 then (some a0) else (some a1)) = some r := h
 clear h
 by_cases c3 : a0 < a1
 ·rw [if_pos c3] at H
  have c3b0 : decide (a0 < a1) = true := decide_eq_true c3
  clear c3
  obtain rfl := Option.some.inj H
  go_enter Try.func95, Try.ntmps95
  go_wp2
  go_ret
  exact ⟨by first | rfl | (simp; done) | (simp [*]; done), by repeat (first | exact Drawn0.refl _ | apply Drawn0.step)⟩
 ·rw [if_neg c3] at H
  have c3b0 : decide (a0 < a1) = false := decide_eq_false c3
  clear c3
  obtain rfl := Option.some.inj H
  go_enter Try.func95, Try.ntmps95
  go_wp2
  go_ret
  exact ⟨by first | rfl | (simp; done) | (simp [*]; done), by repeat (first | exact Drawn0.refl _ | apply Drawn0.step)⟩
end Go.Proofs.Ytbfhphobnngeaaa.X
