/- What the law FnBobbins needs, part 4 of 5: what each function of the program that it reaches returns (printed by this session's own program, checked by Lean), and plain mathematics about it. Conditions: those of each theorem. -/
import Derived.Test.YtiomfignokichaaGreatDoorZFnBobbins2
namespace Go.Proofs.YtiomfignokichaaGreatDoor.X
open Ho (bS eS)
open Sq (I O Z)
open Mx
open Go.RowKit Go.Proofs.YtiomfignokichaaGreatDoorW.PrintWords Go.Proofs.YtiomfignokichaaGreatDoorW.PrintLast Go.Proofs.YtiomfignokichaaGreatDoorW.PrintMore
attribute [local go_sem] max2_int min2_int max_two min_two max_three min_three max_four min_four
set_option linter.unusedVariables false
set_option linter.unusedSimpArgs false
set_option maxHeartbeats 8000000
set_option maxRecDepth 100000
section
attribute [local go_sem ↓] Ho.isSome_setCell_
/-! ### Fh: function 33 -/
def Fh.l0 : Nat → Int → List Int → Int → Int → List (S33) → Int → Int → Int → Int → Option ((List (S33)) × Int × Int × Int × Int × Int × Int)
  | 0, _, _, _, _, _, _, _, _, _ => none
  | k + 1, x5, x1000, x1001, x1002, x117000, x117001, x117002, x117003, x117004 => if x5 > 0 then ((Fb.f k x1000 x1001 x1002 x117000 x117001 x117002 x117003 x117004).bind fun bt120 => ((Fw.f k x117000 x117001 x117002 x117003 x117004 bt120.1 bt120.2.1 bt120.2.2.1 bt120.2.2.2.1).bind fun bt126 => (if bt126.2.2.2.2.2 = true then (Fh.l0 k (wrap64 (x5 - 1)) x1000 bt120.2.2.2.2.1 bt120.2.2.2.2.2 bt126.1 bt126.2.1 bt126.2.2.1 bt126.2.2.2.1 bt126.2.2.2.2.1) else (Fh.l0 k (wrap64 (x5 - 1)) x1000 bt120.2.2.2.2.1 bt120.2.2.2.2.2 x117000 x117001 x117002 x117003 x117004)))) else ((Faf.f x1000 x1001 x1002 24).bind fun bt135 => (if bt135.1 = 0 then ((Fm.f x1000 bt135.2.1 bt135.2.2 (([(-1), 1] : List Int))).bind fun bt141 => (some (x117000, x117001, wrap64 (x117002 + bt141.1), x117003, x117004, bt141.2.1, bt141.2.2))) else (if bt135.1 = 1 then ((Fm.f x1000 bt135.2.1 bt135.2.2 (([0, 1, 999, 1000] : List Int))).bind fun bt147 => (some (x117000, bt147.1, x117002, x117003, x117004, bt147.2.1, bt147.2.2))) else (if bt135.1 = 2 then ((Fm.f x1000 bt135.2.1 bt135.2.2 (([0, 1, 998] : List Int))).bind fun bt153 => ((Fm.f x1000 bt153.2.1 bt153.2.2 (([0, 6] : List Int))).bind fun bt159 => ((Fm.f x1000 bt159.2.1 bt159.2.2 (([0, 5] : List Int))).bind fun bt165 => (if x117000.length < 5864062014805 then (some ((x117000 ++ [(⟨bt153.1, bt159.1, bt165.1⟩ : S33)]), x117001, x117002, x117003, x117004, bt165.2.1, bt165.2.2)) else (none))))) else (some (x117000, x117001, x117002, x117003, x117004, bt135.2.1, bt135.2.2))))))
def Fh.f (k : Nat) (s0_0 : List Int) (s0_1 : Int) (s0_2 : Int) : Option ((List (S33)) × Int × Int × Int × Int × Int × Int) := (Fm.f s0_0 s0_1 s0_2 (([1, 1, 1, 990] : List Int))).bind fun bt105 => ((Fbd.f bt105.1).bind fun bt108 => ((Faf.f s0_0 bt105.2.1 bt105.2.2 14).bind fun bt117 => (Fh.l0 k bt117.1 s0_0 bt117.2.1 bt117.2.2 bt108.1 bt108.2.1 bt108.2.2.1 bt108.2.2.2.1 bt108.2.2.2.2.1)))
theorem Fh.mono_l : ∀ k, (∀ y0 y1 y2 y3 y4 y5 y6 y7 y8, LeO (Fh.l0 k y0 y1 y2 y3 y4 y5 y6 y7 y8) (Fh.l0 (k + 1) y0 y1 y2 y3 y4 y5 y6 y7 y8))
  | 0 => fun _ _ _ _ _ _ _ _ _ r h => by simp [Fh.l0] at h
  | k + 1 => by
    have ih0 := Fh.mono_l k
    · intro y0 y1 y2 y3 y4 y5 y6 y7 y8
      unfold Fh.l0
      repeat' (with_reducible first | exact ih0 _ _ _ _ _ _ _ _ _ | apply Fw.mono | apply Fb.mono | exact LeO.refl _ | exact LeO.none _ | refine LeO.ite ?_ ?_ | refine LeO.bind ?_ (fun _ => ?_))
theorem Fh.mono : ∀ a0 a1 a2 k, LeO (Fh.f k a0 a1 a2) (Fh.f (k + 1) a0 a1 a2) := by
  intro a0 a1 a2 k
  have ih0 := Fh.mono_l k
  unfold Fh.f
  repeat' (with_reducible first | exact ih0 _ _ _ _ _ _ _ _ _ | apply Fw.mono | apply Fb.mono | exact LeO.refl _ | exact LeO.none _ | refine LeO.ite ?_ ?_ | refine LeO.bind ?_ (fun _ => ?_))
def Fh.T5 : Bool × List (List Nat × List Nat) := (true, [([], []), ([], []), ([], []), ([1, 2], [1, 2]), ([0, 3, 3], [0, 3]), ([4], [4]), ([5], [5]), ([5], [5]), ([], []), ([8, 6, 4, 0, 1, 2, 3, 4, 5, 6, 8], [6, 8]), ([7, 9, 0, 1, 2, 3, 4, 5, 6, 7, 8, 9], [7])])
def Fh.B5 : List Nat := [0, 0, 0, 6, 15, 31, 63, 63, 0, 383, 1023]
theorem Fh.tab5 : rtab .any (opsOf Tryz.f33 5) = Fh.T5 := by kernel_rfl
theorem Fh.bits5 : waitsOk Fh.T5.2 Fh.B5 = true := by kernel_rfl
def Fh.T10 : Bool × List (List Nat × List Nat) := (true, [([], []), ([0], [0]), ([], []), ([], []), ([2, 3], [2, 3]), ([1, 4], [1, 4]), ([0, 1, 2, 3, 4, 5], []), ([6, 5, 4, 0, 1, 2, 3, 4, 5], [5, 6])])
def Fh.B10 : List Nat := [0, 1, 0, 0, 12, 31, 63, 127]
theorem Fh.tab10 : rtab .any (opsOf Tryz.f33 10) = Fh.T10 := by kernel_rfl
theorem Fh.bits10 : waitsOk Fh.T10.2 Fh.B10 = true := by kernel_rfl
def Fh.T14 : Bool × List (List Nat × List Nat) := (true, [([], []), ([0], [0]), ([], []), ([], []), ([2, 3], [2, 3]), ([], []), ([], []), ([5, 6, 4], [5, 6]), ([], []), ([], []), ([8, 9, 7], [8, 9]), ([4, 7, 10], [4, 7, 10]), ([11], [11]), ([1, 12, 10], [1, 12]), ([0, 1, 2, 3, 4, 5, 6, 7, 8, 9, 10, 11, 12, 13], []), ([14, 13, 13, 0, 1, 2, 3, 4, 5, 6, 7, 8, 9, 10, 11, 12, 13], [13, 14])])
def Fh.B14 : List Nat := [0, 1, 0, 0, 12, 0, 0, 124, 0, 0, 1020, 2044, 4092, 8191, 16383, 32767]
theorem Fh.tab14 : rtab .any (opsOf Tryz.f33 14) = Fh.T14 := by kernel_rfl
theorem Fh.bits14 : waitsOk Fh.T14.2 Fh.B14 = true := by kernel_rfl
theorem Fh.calls (k : Nat) (g : Nat) (s0_0 : List Int) (s0_1 : Int) (s0_2 : Int) (r1 : List (S33)) (r2 : Int) (r3 : Int) (r4 : Int) (r5 : Int) (r6 : Int) (r7 : Int) (w0 w : World) (hI : IsS54 w0 w g s0_0 s0_1 s0_2) (hB : Below w0.heap.size w0 w) (h : Fh.f k s0_0 s0_1 s0_2 = some (r1, r2, r3, r4, r5, r6, r7)) :
  Calls Tryz.prog 33 #[.pointer (some ⟨g, 0, none⟩)] w fun e w' => ∃ v0_ : Value, e = .returned (.agg #[v0_, .int .i64 r2, .int .i64 r3, .int .i64 r4, .int .i64 r5]) ∧ Kd.R k33 33 w' w.heap.size (fun _ => True) v0_ r1 ∧ IsS54 w0 w' g s0_0 r6 r7 ∧ Below w0.heap.size w0 w' ∧ KeepBut w w' g none := by
 have hu26 := Tryz.underlying26
 have hu33 := Tryz.underlying33
 have HI0 := Aside0.mk hI
 have HK := Aside0.mk (KeepBut.refl w g none)
 have HL := Aside0.mk hB.size
 clear hI
 have HW0 := Aside0.mk hB.size
 have HB := Aside0.mk hB
 clear hB
 have H := h
 clear h
 unfold Fh.f at H
 obtain ⟨y102, hy2⟩ : ∃ y_ : List Int, y_ = (([1, 1, 1, 990] : List Int)) := ⟨_, rfl⟩
 replace H : ((Fm.f s0_0 s0_1 s0_2 y102).bind fun bt105 => ((Fbd.f bt105.1).bind fun bt108 => ((Faf.f s0_0 bt105.2.1 bt105.2.2 14).bind fun bt117 => (Fh.l0 k bt117.1 s0_0 bt117.2.1 bt117.2.2 bt108.1 bt108.2.1 bt108.2.2.1 bt108.2.2.2.1 bt108.2.2.2.2.1)))) = some (r1, r2, r3, r4, r5, r6, r7) := by first | (rw [hy2]; with_reducible exact H) | (have H2_ := (Option.bind_some _ _).symm.trans H; rw [hy2]; with_reducible exact H2_) | (have H2_ := (Option.bind_some _ _).symm.trans H; with_reducible exact H2_) | with_reducible exact H | (rw [hy2]; exact H) | exact H
 have Ny2 := Aside0.mk hy2
 clear hy2
 obtain ⟨⟨t5, t6, t7⟩, A2, H⟩ := bn H
 (try dsimp only at H)
 obtain ⟨⟨t8, t11, t12, t13, t14, t15⟩, A3, H⟩ := bn H
 (try dsimp only at H)
 obtain ⟨⟨t17, t18, t19⟩, A4, H⟩ := bn H
 (try dsimp only at H)
 have H' := Aside0.mk H
 clear H
 go_enter Tryz.func33, Tryz.ntmps33
 go_wp2_with (first | (refine bE 2 26 #[.slice none 0 0, .int .i64 0, .int .i64 0, .int .i64 0, .int .i64 0] ?_; intro g1 hg w5 B1 hb; have G1 := hG HK hg; have E1 := Ak (Nat.le_trans HW0.out (by rw [hg]; exact (keep_size (w := w) (g := g) (row := none) (by exact Ho.kS HK.out)) : w.heap.size ≤ g1) : w0.heap.size ≤ g1); have N0_1 := Ak ((by rw [hg]; exact Nat.ne_of_lt (IsS54.lt (show IsS54 w0 _ g s0_0 s0_1 s0_2 from by exact IsS54.below HI0.out Ho.Steps.below)) : g ≠ g1)); have N1_0 := Ak ((by rw [hg]; exact Nat.ne_of_gt (IsS54.lt (show IsS54 w0 _ g s0_0 s0_1 s0_2 from by exact IsS54.below HI0.out Ho.Steps.below)) : g1 ≠ g)); replace HI0 := Ak (IsS54.below (by exact IsS54.below HI0.out Ho.Steps.below) hb); replace HK := hT HK hb; replace HB := bT HB hb; clear hb hg) | ((with_reducible refine gate_dst (N := 10) rfl ?_); refine Kd.R_lit (Kd.int .i64) _ 3 ?hg (N := 10) ?hd (xs := ([1, 1, 1, 990] : List Int)) (inner := [.int .i64 1, .int .i64 1, .int .i64 1, .int .i64 990]) (ok := fun _ => True) (okp := fun _ => True) ?hr ?hp (fun _ hk => hk) trivial (Below.refl _ _) (Nat.le_refl _) (by simp) ?_; (case hd => rfl); (case hg => rfl); (case hr => first | (go_simp; done) | (go_simp; rfl)); (case hp => exact Rz); intro v3 w6 ho7 hb hg_ hnew_; clear hg_ hnew_; (first | rw [← Ny2.out] at ho7 | (simp only [Int.reduceToNat] at ho7; rw [← Ny2.out] at ho7)); have R4 := Ak (Kd.R_lower ho7 (keep_size (w := w) (g := g) (row := none) (by exact Ho.kS HK.out))); replace HI0 := Ak (IsS54.below (by exact IsS54.below HI0.out Ho.Steps.below) hb); replace B1 := kT B1 hb; replace HK := hT HK hb; replace HB := bT HB hb; clear hb ho7; obtain ⟨Ao8, co8, eo8⟩ := Kd.R_slice R4.out; subst eo8) | (refine cE (some 11) Tryz.func49 #[.pointer (some ⟨g, 0, none⟩), .slice Ao8 y102.length co8] ?_; (with_reducible refine (Fm.calls g s0_0 s0_1 s0_2 _ _ y102 t5 t6 t7 w0 _ ?side1 ?side2 ?side3 ?side4 ?side5 A2.out).mono ?_); (case side1 => exact IsS54.below HI0.out Ho.Steps.below); (case side2 => exact eS HB.out); (case side3 => exact Cs (Kd.R_reads' R4.out).2.2); (case side4 => exact (Kd.R_reads' R4.out).2.1); (case side5 => exact far_slice (IsS54.own_ne HI0.out R4.out (by decide))); rintro e w9 ⟨rfl, hi, hb, hk⟩; refine ⟨_, rfl, ?_⟩; replace B1 := kK B1 hk N1_0; replace R4 := Ak (Kd.R_mono (Kd.R_keep (IsS54.apart (show IsS54 w0 _ g s0_0 s0_1 s0_2 from by exact IsS54.below HI0.out Ho.Steps.below) (by exact Ho.RS <| R4.out) (by decide)) hk (fun _ h => h.2)) (fun _ h => h.1)); replace HK := hU HK hk; replace HB := Ak hb; replace HI0 := Ak hi; clear hb hk hi) | (refine cE (some 12) Tryz.func57 #[.int .i64 t5] ?_; (with_reducible refine (Fbd.calls t5 t8 t11 t12 t13 t14 t15 _ A3.out).mono ?_); rintro e w10 ⟨v9, rfl, ho0, hb⟩; refine ⟨_, rfl, ?_⟩; have R10 := Ak (Kd.R_lower ho0 (keep_size (w := w) (g := g) (row := none) (by exact Ho.kS HK.out))); replace R4 := rT R4 hb; replace HI0 := Ak (IsS54.below (by exact IsS54.below HI0.out Ho.Steps.below) hb); replace B1 := kT B1 hb; replace HK := hT HK hb; replace HB := bT HB hb; clear hb; (try clear ho0)) | (refine bE 3 26 #[.slice none 0 0, .int .i64 0, .int .i64 0, .int .i64 0, .int .i64 0] ?_; intro g16 hg w11 B16 hb; have G16 := hG HK hg; have E16 := Ak (Nat.le_trans HW0.out (by rw [hg]; exact (keep_size (w := w) (g := g) (row := none) (by exact Ho.kS HK.out)) : w.heap.size ≤ g16) : w0.heap.size ≤ g16); obtain ⟨N1_16, N16_1⟩ := nB B1 hg; have N0_16 := Ak ((by rw [hg]; exact Nat.ne_of_lt (IsS54.lt (show IsS54 w0 _ g s0_0 t6 t7 from by exact IsS54.below HI0.out Ho.Steps.below)) : g ≠ g16)); have N16_0 := Ak ((by rw [hg]; exact Nat.ne_of_gt (IsS54.lt (show IsS54 w0 _ g s0_0 t6 t7 from by exact IsS54.below HI0.out Ho.Steps.below)) : g16 ≠ g)); replace R4 := rT R4 hb; replace R10 := rT R10 hb; replace HI0 := Ak (IsS54.below (by exact IsS54.below HI0.out Ho.Steps.below) hb); replace B1 := kT B1 hb; replace HK := hT HK hb; replace HB := bT HB hb; clear hb hg; obtain ⟨Ao12, co12, eo12⟩ := Kd.R_slice R10.out; subst eo12; have hnb13 := nP N16_1; have hnb14 := nP N16_0; have hz15 := Sq.c5 B16.out) | (refine cE (some 16) Tryz.func48 #[.pointer (some ⟨g, 0, none⟩), .int .i64 14] ?_; (with_reducible refine (Faf.calls g s0_0 t6 t7 14 t17 t18 t19 w0 _ ?side1 ?side2 A4.out).mono ?_); (case side1 => repeat (first | (with_reducible first | exact HI0.out | apply IsS54.alloc | apply IsS54.drewN | apply IsS54.drew | apply IsS54.set_1 | apply IsS54.set_2 | refine IsS54.far ?_ N0_1.out _ | refine IsS54.far ?_ N0_16.out _) | exact HI0.out)); (case side2 => repeat (first | (with_reducible first | exact HB.out | apply below_alloc | apply pw_below_drewN | apply below_drew1 | refine below_set ?_ (IsS54.ge HI0.out) | refine below_set ?_ E1.out | refine below_set ?_ E16.out) | exact HB.out)); rintro e w16 ⟨rfl, hi, hb, hk⟩; refine ⟨_, rfl, ?_⟩; replace B1 := Ak (KeepBut.blk hk (g' := g1) (o := .cells #[.slice none 0 0, .int .i64 0, .int .i64 0, .int .i64 0, .int .i64 0] 26 (0, 0)) (Kz) N1_0.out (by simp)); replace R4 := Ak (Kd.R_mono (Kd.R_keep (IsS54.apart (show IsS54 w0 _ g s0_0 t6 t7 from by repeat (first | (with_reducible first | exact HI0.out | apply IsS54.alloc | apply IsS54.drewN | apply IsS54.drew | apply IsS54.set_1 | apply IsS54.set_2 | refine IsS54.far ?_ N0_1.out _ | refine IsS54.far ?_ N0_16.out _) | exact HI0.out)) (by exact Ho.RS <| (Kd.R_mono (Kd.R_far (p := ⟨g16, 4, none⟩) (Kd.R_far (p := ⟨g16, 3, none⟩) (Kd.R_far (p := ⟨g16, 2, none⟩) (Kd.R_far (p := ⟨g16, 1, none⟩) (Kd.R_far (p := ⟨g16, 0, none⟩) (Kd.R_types R4.out B16.out (by decide)) (fun _ hk => hk.2) (.slice Ao12 t8.length co12)) (fun _ hk => hk.2) (.int .i64 t11)) (fun _ hk => hk.2) (.int .i64 t12)) (fun _ hk => hk.2) (.int .i64 t13)) (fun _ hk => hk.2) (.int .i64 t14)) (fun _ h_ => h_.1))) (by decide)) hk (fun _ h => h.2)) (fun _ h => h.1)); replace R10 := Ak (Kd.R_mono (Kd.R_keep (IsS54.apart (show IsS54 w0 _ g s0_0 t6 t7 from by repeat (first | (with_reducible first | exact HI0.out | apply IsS54.alloc | apply IsS54.drewN | apply IsS54.drew | apply IsS54.set_1 | apply IsS54.set_2 | refine IsS54.far ?_ N0_1.out _ | refine IsS54.far ?_ N0_16.out _) | exact HI0.out)) (by exact Ho.RS <| (Kd.R_mono (Kd.R_far (p := ⟨g16, 4, none⟩) (Kd.R_far (p := ⟨g16, 3, none⟩) (Kd.R_far (p := ⟨g16, 2, none⟩) (Kd.R_far (p := ⟨g16, 1, none⟩) (Kd.R_far (p := ⟨g16, 0, none⟩) (Kd.R_types R10.out B16.out (by decide)) (fun _ hk => hk.2) (.slice Ao12 t8.length co12)) (fun _ hk => hk.2) (.int .i64 t11)) (fun _ hk => hk.2) (.int .i64 t12)) (fun _ hk => hk.2) (.int .i64 t13)) (fun _ hk => hk.2) (.int .i64 t14)) (fun _ h_ => h_.1))) (by decide)) hk (fun _ h => h.2)) (fun _ h => h.1)); replace B16 := Ak (KeepBut.blk hk (g' := g16) (o := .cells #[.slice Ao12 t8.length co12, .int .i64 t11, .int .i64 t12, .int .i64 t13, .int .i64 t14] 26 (0, 0)) (by apply Sq.put5; exact bS B16.out) N16_0.out (by simp)); replace HK := Ak (KeepBut.trans (by repeat (first | (with_reducible first | exact HK.out | apply KeepBut.set_ | apply keep_drewN | apply keep_drew | apply keep_alloc | refine keep_far ?_ G1.out _ | refine keep_far ?_ G16.out _) | exact HK.out)) hk (.inl rfl)); replace HB := Ak hb; replace HI0 := Ak hi; clear hb hk hi))
 go_loopg [5] k (fun kq v5 w' => ∃ (x5_1 : Int) (x1001_1 : Int) (x1002_1 : Int) (x117000_1 : List (S33)) (x117001_1 : Int) (x117002_1 : Int) (x117003_1 : Int) (x117004_1 : Int) (u117000 : Value), v5 = .int .i64 x5_1 ∧ Aside0 (Fh.l0 kq x5_1 s0_0 x1001_1 x1002_1 x117000_1 x117001_1 x117002_1 x117003_1 x117004_1 = some (r1, r2, r3, r4, r5, r6, r7)) ∧ Aside0 (kq ≤ k) ∧ Aside0 (Kd.R k33 33 w' w.heap.size (fun _ => True) u117000 x117000_1) ∧ Aside0 (w'.heap[g1]? = some (.cells #[(.slice none 0 0), .int .i64 0, .int .i64 0, .int .i64 0, .int .i64 0] 26 (0, 0))) ∧ Aside0 (w'.heap[g16]? = some (.cells #[u117000, .int .i64 x117001_1, .int .i64 x117002_1, .int .i64 x117003_1, .int .i64 x117004_1] 26 (0, 0))) ∧ Aside0 (IsS54 w0 w' g s0_0 x1001_1 x1002_1) ∧ Aside0 (KeepBut w w' g none) ∧ Aside0 (Below w0.heap.size w0 w'))
 case atStart => exact ⟨(t17), (t18), (t19), (t8), (t11), (t12), (t13), (t14), (.slice Ao12 t8.length co12), Ey, H', ⟨Nat.le_refl _⟩, ⟨rs R10⟩, ⟨ks B1⟩, ⟨ks B16⟩, ⟨by exact IsS54.below HI0.out Ho.Steps.below⟩, ⟨by exact Ho.kS HK.out⟩, ⟨es HB⟩⟩
 case round =>
  clear H'
  try clear c1
  try clear p2
  try clear c3
  try clear c4
  try clear c5
  try clear c13
  try clear c14
  (try clear hz15)
  obtain ⟨x5_1, x1001_1, x1002_1, x117000_1, x117001_1, x117002_1, x117003_1, x117004_1, u117000, rfl, HA, HK1, R_117000, B1, B16, HI0, HK, HB⟩ := hrel
  cases gk with
  | zero => exact absurd HA.out (by simp [Fh.l0])
  | succ k1 =>
   have H := HA.out
   clear HA
   simp only [Fh.l0] at H
   by_cases c17 : x5_1 > 0
   ·rw [if_pos c17] at H
    have c17b0 := decide_eq_true c17
    clear c17
    obtain ⟨⟨t20, t21, t22, t23, t24, t25⟩, A18, H⟩ := bn H
    (try dsimp only at H)
    obtain ⟨⟨t26, t29, t30, t31, t32, t33⟩, A19, H⟩ := bn H
    (try dsimp only at H)
    by_cases c20 : t33 = true
    rotate_left
    ·replace c20 := Bool.eq_false_iff.mpr c20
     subst c20
     rw [if_neg (show ¬ (false = true) by decide)] at H
     have H' := Aside0.mk H
     clear H
     obtain ⟨Ao40, co40, eo40⟩ := Kd.R_slice R_117000.out
     subst eo40
     try go_wp2
     replace R_117000 := rD R_117000
     replace B1 := kD B1
     replace B16 := kD B16
     replace HI0 := Ak (IsS54.drew HI0.out)
     replace HK := hD HK
     replace HB := bD HB
     refine sT 11 (H5 g16 (.slice Ao40 x117000_1.length co40) (.int .i64 x117001_1) (.int .i64 x117002_1) (.int .i64 x117003_1) (.int .i64 x117004_1)) [] Fh.tab5 Fh.bits5 (h5 B16) fun hHeld HT_ HW_ => ?_
     generalize wr.drew = w41 at R_117000 B1 B16 HI0 HK HB hHeld ⊢
     refine Pu 1 ?_
     refine Ta 0 ?_
     refine Ta 2 ?_
     refine join_ (σ := Value × Nat) 2 (Bt 11 511) (fun s_ => [(25, .agg #[.int .i64 t20, .int .i64 t21, .int .i64 t22, .int .i64 t23]), (26, .tuple #[.agg #[s_.1, .int .i64 t29, .int .i64 t30, .int .i64 t31, .int .i64 t32], .bool false]), (6, .pointer (some ⟨s_.2, 0, none⟩)), (21, .tuple #[.agg #[s_.1, .int .i64 t29, .int .i64 t30, .int .i64 t31, .int .i64 t32], .bool false]), (27, .agg #[s_.1, .int .i64 t29, .int .i64 t30, .int .i64 t31, .int .i64 t32]), (28, .bool false)]) (fun s_ w' => (H5 g16 (.slice Ao40 x117000_1.length co40) (.int .i64 x117001_1) (.int .i64 x117002_1) (.int .i64 x117003_1) (.int .i64 x117004_1) w') ∧ (Kd.R k33 33 w' w.heap.size (fun k_ => some k_ ≠ (.slice Ao40 x117000_1.length co40 : Value).ownBlock) s_.1 t26) ∧ (Kd.R k33 33 w' w.heap.size (fun k_ => some k_ ≠ (s_.1 : Value).ownBlock) (.slice Ao40 x117000_1.length co40) x117000_1) ∧ (w'.heap[g1]? = some (.cells #[.slice none 0 0, .int .i64 0, .int .i64 0, .int .i64 0, .int .i64 0] 26 (0, 0))) ∧ (w'.heap[g16]? = some (.cells #[.slice Ao40 x117000_1.length co40, .int .i64 x117001_1, .int .i64 x117002_1, .int .i64 x117003_1, .int .i64 x117004_1] 26 (0, 0))) ∧ (w'.heap[s_.2]? = some (.cells #[.slice none 0 0, .int .i64 0, .int .i64 0, .int .i64 0, .int .i64 0] 26 (0, 0))) ∧ (w.heap.size ≤ s_.2) ∧ (w0.heap.size ≤ s_.2) ∧ (g ≠ s_.2) ∧ (s_.2 ≠ g) ∧ (g1 ≠ s_.2) ∧ (s_.2 ≠ g1) ∧ (g16 ≠ s_.2) ∧ (s_.2 ≠ g16) ∧ (IsS54 w0 w' g s0_0 t24 t25) ∧ (KeepBut w w' g none) ∧ (Below w0.heap.size w0 w')) ?_ ?_
     rotate_left
     ·intro hCont
      refine tw 3 8 (fun K hK => ?_) (fun K hK => ?_)
      ·skip
       refine gO Tryz.func59 #[.pointer (some ⟨g, 0, none⟩), .agg #[.slice Ao40 x117000_1.length co40, .int .i64 x117001_1, .int .i64 x117002_1, .int .i64 x117003_1, .int .i64 x117004_1]] ?_
       with_reducible refine (Fb.calls k1 g s0_0 x1001_1 x1002_1 _ _ x117000_1 x117001_1 x117002_1 x117003_1 x117004_1 t20 t21 t22 t23 t24 t25 w0 _ ?side1 ?side2 ?side3 ?side4 A18.out).mono ?_
       (case side1 => exact IsS54.below HI0.out Ho.Steps.below)
       (case side2 => exact eS HB.out)
       (case side3 => exact Kd.C_foot_own (IsS54.apart (show IsS54 w0 _ g s0_0 x1001_1 x1002_1 from by exact IsS54.below HI0.out Ho.Steps.below) (by exact Ho.RS <| R_117000.out) (by decide)) (fun _ h_ => h_.2))
       (case side4 => exact (Kd.R_reads' R_117000.out).2.1)
       rintro e w42 ⟨rfl, hi, hb, hk⟩
       refine ⟨_, rfl, ?_⟩
       replace R_117000 := Ak (Kd.R_mono (Kd.R_keep (IsS54.apart (show IsS54 w0 _ g s0_0 x1001_1 x1002_1 from by exact IsS54.below HI0.out Ho.Steps.below) (by exact Ho.RS <| R_117000.out) (by decide)) hk (fun _ h => h.2)) (fun _ h => h.1))
       replace B1 := kK B1 hk N1_0
       replace B16 := kK B16 hk N16_0
       replace HK := hU HK hk
       replace HB := Ak hb
       replace HI0 := Ak hi
       clear hb hk hi
       refine hK.out _ _ (h5 B16) (fun hHeld => ?_)
       clear hK K
       refine nO 25 ?_
       refine tw 4 8 (fun K hK => ?_) (fun K hK => ?_)
       ·skip
        refine gO Tryz.func58 #[.agg #[.slice Ao40 x117000_1.length co40, .int .i64 x117001_1, .int .i64 x117002_1, .int .i64 x117003_1, .int .i64 x117004_1], .agg #[.int .i64 t20, .int .i64 t21, .int .i64 t22, .int .i64 t23]] ?_
        with_reducible refine (Fw.calls k1 _ _ x117000_1 x117001_1 x117002_1 x117003_1 x117004_1 t20 t21 t22 t23 t26 t29 t30 t31 t32 false _ ?side1 ?side2 A19.out).mono ?_
        (case side1 => exact Cs (Kd.R_reads' R_117000.out).2.2)
        (case side2 => exact (Kd.R_reads' R_117000.out).2.1)
        rintro e w43 ⟨v27, rfl, ho0, hb⟩
        refine ⟨_, rfl, ?_⟩
        have R28 := Ak (Kd.R_lower (Kd.R_new' ho0 (Kd.R_lt (by exact Ho.RS <| R_117000.out))) (keep_size (w := w) (g := g) (row := none) (by exact Ho.kS HK.out)))
        replace R_117000 := el R_117000 ho0 hb
        replace B1 := kT B1 hb
        replace B16 := kT B16 hb
        replace HI0 := Ak (IsS54.below (by exact IsS54.below HI0.out Ho.Steps.below) hb)
        replace HK := hT HK hb
        replace HB := bT HB hb
        clear hb
        (try clear ho0)
        refine hK.out _ _ (h5 B16) (fun hHeld => ?_)
        clear hK K
        refine nO 26 ?_
        refine Pu 5 ?_
        refine Pu 6 ?_
        refine Pu 7 ?_
        refine oN 8 fun K hK => ?_
        refine bX 6 26 #[.slice none 0 0, .int .i64 0, .int .i64 0, .int .i64 0, .int .i64 0] ?_
        intro g34 hg w44 B34 hb
        have G34 := hG HK hg
        have E34 := Ak (Nat.le_trans HW0.out (by rw [hg]; exact (keep_size (w := w) (g := g) (row := none) (by exact Ho.kS HK.out)) : w.heap.size ≤ g34) : w0.heap.size ≤ g34)
        obtain ⟨N1_34, N34_1⟩ := nB B1 hg
        obtain ⟨N16_34, N34_16⟩ := nB B16 hg
        have N0_34 := Ak ((by rw [hg]; exact Nat.ne_of_lt (IsS54.lt (show IsS54 w0 _ g s0_0 t24 t25 from by exact IsS54.below HI0.out Ho.Steps.below)) : g ≠ g34))
        have N34_0 := Ak ((by rw [hg]; exact Nat.ne_of_gt (IsS54.lt (show IsS54 w0 _ g s0_0 t24 t25 from by exact IsS54.below HI0.out Ho.Steps.below)) : g34 ≠ g))
        replace R_117000 := rT R_117000 hb
        replace R28 := rT R28 hb
        replace B1 := kT B1 hb
        replace B16 := kT B16 hb
        replace HI0 := Ak (IsS54.below (by exact IsS54.below HI0.out Ho.Steps.below) hb)
        replace HK := hT HK hb
        replace HB := bT HB hb
        clear hb hg
        refine hK.out _ _ (h5 B16) (fun hHeld => ?_)
        clear hK K
        refine nO 6 ?_
        exact norm_ Nz (hCont (v27, g34) _ ⟨hHeld, Ho.RS (Kd.R_mono R28.out (fun _ hk => hk.2)), Ho.RS (Kd.R_mono R_117000.out (fun _ hk => hk.2)), ks B1, ks B16, ks B34, G34.out, E34.out, N0_34.out, N34_0.out, N1_34.out, N34_1.out, N16_34.out, N34_16.out, (by exact IsS54.below HI0.out Ho.Steps.below), (by exact Ho.kS HK.out), es HB⟩)
       ·skip
        refine bX 6 26 #[.slice none 0 0, .int .i64 0, .int .i64 0, .int .i64 0, .int .i64 0] ?_
        intro g34 hg w43 B34 hb
        have G34 := hG HK hg
        have E34 := Ak (Nat.le_trans HW0.out (by rw [hg]; exact (keep_size (w := w) (g := g) (row := none) (by exact Ho.kS HK.out)) : w.heap.size ≤ g34) : w0.heap.size ≤ g34)
        obtain ⟨N1_34, N34_1⟩ := nB B1 hg
        obtain ⟨N16_34, N34_16⟩ := nB B16 hg
        have N0_34 := Ak ((by rw [hg]; exact Nat.ne_of_lt (IsS54.lt (show IsS54 w0 _ g s0_0 t24 t25 from by exact IsS54.below HI0.out Ho.Steps.below)) : g ≠ g34))
        have N34_0 := Ak ((by rw [hg]; exact Nat.ne_of_gt (IsS54.lt (show IsS54 w0 _ g s0_0 t24 t25 from by exact IsS54.below HI0.out Ho.Steps.below)) : g34 ≠ g))
        replace R_117000 := rT R_117000 hb
        replace B1 := kT B1 hb
        replace B16 := kT B16 hb
        replace HI0 := Ak (IsS54.below (by exact IsS54.below HI0.out Ho.Steps.below) hb)
        replace HK := hT HK hb
        replace HB := bT HB hb
        clear hb hg
        refine hK.out _ _ (h5 B16) (fun hHeld => ?_)
        clear hK K
        refine nO 6 ?_
        refine oN 4 fun K hK => ?_
        refine gO Tryz.func58 #[.agg #[.slice Ao40 x117000_1.length co40, .int .i64 x117001_1, .int .i64 x117002_1, .int .i64 x117003_1, .int .i64 x117004_1], .agg #[.int .i64 t20, .int .i64 t21, .int .i64 t22, .int .i64 t23]] ?_
        with_reducible refine (Fw.calls k1 _ _ x117000_1 x117001_1 x117002_1 x117003_1 x117004_1 t20 t21 t22 t23 t26 t29 t30 t31 t32 false _ ?side1 ?side2 A19.out).mono ?_
        (case side1 => exact Cs (Kd.R_reads' R_117000.out).2.2)
        (case side2 => exact (Kd.R_reads' R_117000.out).2.1)
        rintro e w44 ⟨v27, rfl, ho0, hb⟩
        refine ⟨_, rfl, ?_⟩
        have R28 := Ak (Kd.R_lower (Kd.R_new' ho0 (Kd.R_lt (by exact Ho.RS <| R_117000.out))) (keep_size (w := w) (g := g) (row := none) (by exact Ho.kS HK.out)))
        replace R_117000 := el R_117000 ho0 hb
        replace B1 := kT B1 hb
        replace B16 := kT B16 hb
        replace HI0 := Ak (IsS54.below (by exact IsS54.below HI0.out Ho.Steps.below) hb)
        replace B34 := kT B34 hb
        replace HK := hT HK hb
        replace HB := bT HB hb
        clear hb
        (try clear ho0)
        refine hK.out _ _ (h5 B16) (fun hHeld => ?_)
        clear hK K
        refine nO 26 ?_
        refine Pu 5 ?_
        refine Pu 6 ?_
        refine Pu 7 ?_
        exact norm_ Nz (hCont (v27, g34) _ ⟨hHeld, Ho.RS (Kd.R_mono R28.out (fun _ hk => hk.2)), Ho.RS (Kd.R_mono R_117000.out (fun _ hk => hk.2)), ks B1, ks B16, ks B34, G34.out, E34.out, N0_34.out, N34_0.out, N1_34.out, N34_1.out, N16_34.out, N34_16.out, (by exact IsS54.below HI0.out Ho.Steps.below), (by exact Ho.kS HK.out), es HB⟩)
      ·skip
       refine bX 6 26 #[.slice none 0 0, .int .i64 0, .int .i64 0, .int .i64 0, .int .i64 0] ?_
       intro g34 hg w42 B34 hb
       have G34 := hG HK hg
       have E34 := Ak (Nat.le_trans HW0.out (by rw [hg]; exact (keep_size (w := w) (g := g) (row := none) (by exact Ho.kS HK.out)) : w.heap.size ≤ g34) : w0.heap.size ≤ g34)
       obtain ⟨N1_34, N34_1⟩ := nB B1 hg
       obtain ⟨N16_34, N34_16⟩ := nB B16 hg
       have N0_34 := Ak ((by rw [hg]; exact Nat.ne_of_lt (IsS54.lt (show IsS54 w0 _ g s0_0 x1001_1 x1002_1 from by exact IsS54.below HI0.out Ho.Steps.below)) : g ≠ g34))
       have N34_0 := Ak ((by rw [hg]; exact Nat.ne_of_gt (IsS54.lt (show IsS54 w0 _ g s0_0 x1001_1 x1002_1 from by exact IsS54.below HI0.out Ho.Steps.below)) : g34 ≠ g))
       replace R_117000 := rT R_117000 hb
       replace B1 := kT B1 hb
       replace B16 := kT B16 hb
       replace HI0 := Ak (IsS54.below (by exact IsS54.below HI0.out Ho.Steps.below) hb)
       replace HK := hT HK hb
       replace HB := bT HB hb
       clear hb hg
       refine hK.out _ _ (h5 B16) (fun hHeld => ?_)
       clear hK K
       refine nO 6 ?_
       refine oN 3 fun K hK => ?_
       refine gO Tryz.func59 #[.pointer (some ⟨g, 0, none⟩), .agg #[.slice Ao40 x117000_1.length co40, .int .i64 x117001_1, .int .i64 x117002_1, .int .i64 x117003_1, .int .i64 x117004_1]] ?_
       with_reducible refine (Fb.calls k1 g s0_0 x1001_1 x1002_1 _ _ x117000_1 x117001_1 x117002_1 x117003_1 x117004_1 t20 t21 t22 t23 t24 t25 w0 _ ?side1 ?side2 ?side3 ?side4 A18.out).mono ?_
       (case side1 => exact IsS54.below HI0.out Ho.Steps.below)
       (case side2 => exact eS HB.out)
       (case side3 => exact Kd.C_foot_own (IsS54.apart (show IsS54 w0 _ g s0_0 x1001_1 x1002_1 from by exact IsS54.below HI0.out Ho.Steps.below) (by exact Ho.RS <| R_117000.out) (by decide)) (fun _ h_ => h_.2))
       (case side4 => exact (Kd.R_reads' R_117000.out).2.1)
       rintro e w43 ⟨rfl, hi, hb, hk⟩
       refine ⟨_, rfl, ?_⟩
       replace R_117000 := Ak (Kd.R_mono (Kd.R_keep (IsS54.apart (show IsS54 w0 _ g s0_0 x1001_1 x1002_1 from by exact IsS54.below HI0.out Ho.Steps.below) (by exact Ho.RS <| R_117000.out) (by decide)) hk (fun _ h => h.2)) (fun _ h => h.1))
       replace B1 := kK B1 hk N1_0
       replace B16 := kK B16 hk N16_0
       replace B34 := kK B34 hk N34_0
       replace HK := hU HK hk
       replace HB := Ak hb
       replace HI0 := Ak hi
       clear hb hk hi
       refine hK.out _ _ (h5 B16) (fun hHeld => ?_)
       clear hK K
       refine nO 25 ?_
       refine oN 4 fun K hK => ?_
       refine gO Tryz.func58 #[.agg #[.slice Ao40 x117000_1.length co40, .int .i64 x117001_1, .int .i64 x117002_1, .int .i64 x117003_1, .int .i64 x117004_1], .agg #[.int .i64 t20, .int .i64 t21, .int .i64 t22, .int .i64 t23]] ?_
       with_reducible refine (Fw.calls k1 _ _ x117000_1 x117001_1 x117002_1 x117003_1 x117004_1 t20 t21 t22 t23 t26 t29 t30 t31 t32 false _ ?side1 ?side2 A19.out).mono ?_
       (case side1 => exact Cs (Kd.R_reads' R_117000.out).2.2)
       (case side2 => exact (Kd.R_reads' R_117000.out).2.1)
       rintro e w44 ⟨v27, rfl, ho0, hb⟩
       refine ⟨_, rfl, ?_⟩
       have R28 := Ak (Kd.R_lower (Kd.R_new' ho0 (Kd.R_lt (by exact Ho.RS <| R_117000.out))) (keep_size (w := w) (g := g) (row := none) (by exact Ho.kS HK.out)))
       replace R_117000 := el R_117000 ho0 hb
       replace B1 := kT B1 hb
       replace B16 := kT B16 hb
       replace HI0 := Ak (IsS54.below (by exact IsS54.below HI0.out Ho.Steps.below) hb)
       replace B34 := kT B34 hb
       replace HK := hT HK hb
       replace HB := bT HB hb
       clear hb
       (try clear ho0)
       refine hK.out _ _ (h5 B16) (fun hHeld => ?_)
       clear hK K
       refine nO 26 ?_
       refine Pu 5 ?_
       refine Pu 6 ?_
       refine Pu 7 ?_
       exact norm_ Nz (hCont (v27, g34) _ ⟨hHeld, Ho.RS (Kd.R_mono R28.out (fun _ hk => hk.2)), Ho.RS (Kd.R_mono R_117000.out (fun _ hk => hk.2)), ks B1, ks B16, ks B34, G34.out, E34.out, N0_34.out, N34_0.out, N1_34.out, N34_1.out, N16_34.out, N34_16.out, (by exact IsS54.below HI0.out Ho.Steps.below), (by exact Ho.kS HK.out), es HB⟩)
     rintro ⟨v27, g34⟩ w45 ⟨hS_, h0_, h1_, h2_, h3_, h4_, h5_, h6_, h7_, h8_, h9_, h10_, h11_, h12_, h13_, h14_, h15_⟩
     have R28 := Ak h0_
     have B34 := Ak h4_
     have G34 := Ak h5_
     have E34 := Ak h6_
     have N0_34 := Ak h7_
     have N34_0 := Ak h8_
     have N1_34 := Ak h9_
     have N34_1 := Ak h10_
     have N16_34 := Ak h11_
     have N34_16 := Ak h12_
     replace R_117000 := Ak h1_
     replace B1 := Ak h2_
     replace B16 := Ak h3_
     replace HI0 := Ak h13_
     replace HK := Ak h14_
     replace HB := Ak h15_
     clear h0_ h10_ h11_ h12_ h13_ h14_ h15_ h1_ h2_ h3_ h4_ h5_ h6_ h7_ h8_ h9_
     have hHeld := hS_
     obtain ⟨Ao46, co46, eo46⟩ := Kd.R_slice R28.out
     (first | subst eo46 | (injection eo46 with f1_ f2_ f3_; have f4_ := f1_.symm; have f5_ := f3_.symm; clear f1_ f2_ f3_; subst f4_; subst f5_))
     refine nQ ?_
     refine oN 9 fun K hK => ?_
     have hs47 := Sq.c5 B34.out
     have hns47_0 := N1_34.out
     have hns47_1 := N16_34.out
     have hms47_0 := N34_1.out
     have hms47_1 := N34_16.out
     refine sK ?_
     refine hK.out _ _ ⟨(cf5 N16_34.out hHeld.1), (cf5 N16_34.out hHeld.2.1), (cf5 N16_34.out hHeld.2.2.1), (cf5 N16_34.out hHeld.2.2.2.1), (cf5 N16_34.out hHeld.2.2.2.2)⟩ (fun hHeld => ?_)
     clear hK K
     refine Pu 10 ?_
     refine dO ?_
     try go_wp2
     go_roundg k1
     case measure => have := HK1.out; omega
     case rel => exact ⟨(wrap64 (x5_1 - 1)), (t24), (t25), (x117000_1), (x117001_1), (x117002_1), (x117003_1), (x117004_1), (.slice Ao40 x117000_1.length co40), Ey, H', ⟨by have := HK1.out; omega⟩, ⟨rY5 R_117000 B34 (fun _ hk => trivial)⟩, ⟨Kz⟩, ⟨Kz⟩, ⟨by repeat (first | (with_reducible first | exact HI0.out | apply IsS54.alloc | apply IsS54.drewN | apply IsS54.drew | apply IsS54.set_1 | apply IsS54.set_2 | refine IsS54.far ?_ N0_1.out _ | refine IsS54.far ?_ N0_16.out _ | refine IsS54.far ?_ N0_34.out _) | exact HI0.out)⟩, ⟨by repeat (first | (with_reducible first | exact HK.out | apply KeepBut.set_ | apply keep_drewN | apply keep_drew | apply keep_alloc | refine keep_far ?_ G1.out _ | refine keep_far ?_ G16.out _ | refine keep_far ?_ G34.out _) | exact HK.out)⟩, ⟨by repeat (first | (with_reducible first | exact HB.out | apply below_alloc | apply pw_below_drewN | apply below_drew1 | refine below_set ?_ (IsS54.ge HI0.out) | refine below_set ?_ E1.out | refine below_set ?_ E16.out | refine below_set ?_ E34.out) | exact HB.out)⟩⟩
    subst c20
    rw [if_pos rfl] at H
    have H' := Aside0.mk H
    clear H
    obtain ⟨Ao21, co21, eo21⟩ := Kd.R_slice R_117000.out
    subst eo21
    try go_wp2
    replace R_117000 := rD R_117000
    replace B1 := kD B1
    replace B16 := kD B16
    replace HI0 := Ak (IsS54.drew HI0.out)
    replace HK := hD HK
    replace HB := bD HB
    refine sT 11 (H5 g16 (.slice Ao21 x117000_1.length co21) (.int .i64 x117001_1) (.int .i64 x117002_1) (.int .i64 x117003_1) (.int .i64 x117004_1)) [] Fh.tab5 Fh.bits5 (h5 B16) fun hHeld HT_ HW_ => ?_
    generalize wr.drew = w22 at R_117000 B1 B16 HI0 HK HB hHeld ⊢
    refine Pu 1 ?_
    refine Ta 0 ?_
    refine Ta 2 ?_
    refine join_ (σ := Value × Nat) 2 (Bt 11 511) (fun s_ => [(25, .agg #[.int .i64 t20, .int .i64 t21, .int .i64 t22, .int .i64 t23]), (26, .tuple #[.agg #[s_.1, .int .i64 t29, .int .i64 t30, .int .i64 t31, .int .i64 t32], .bool true]), (6, .pointer (some ⟨s_.2, 0, none⟩)), (21, .tuple #[.agg #[s_.1, .int .i64 t29, .int .i64 t30, .int .i64 t31, .int .i64 t32], .bool true]), (27, .agg #[s_.1, .int .i64 t29, .int .i64 t30, .int .i64 t31, .int .i64 t32]), (28, .bool true)]) (fun s_ w' => (H5 g16 (.slice Ao21 x117000_1.length co21) (.int .i64 x117001_1) (.int .i64 x117002_1) (.int .i64 x117003_1) (.int .i64 x117004_1) w') ∧ (Kd.R k33 33 w' w.heap.size (fun k_ => some k_ ≠ (.slice Ao21 x117000_1.length co21 : Value).ownBlock) s_.1 t26) ∧ (Kd.R k33 33 w' w.heap.size (fun k_ => some k_ ≠ (s_.1 : Value).ownBlock) (.slice Ao21 x117000_1.length co21) x117000_1) ∧ (w'.heap[g1]? = some (.cells #[.slice none 0 0, .int .i64 0, .int .i64 0, .int .i64 0, .int .i64 0] 26 (0, 0))) ∧ (w'.heap[g16]? = some (.cells #[.slice Ao21 x117000_1.length co21, .int .i64 x117001_1, .int .i64 x117002_1, .int .i64 x117003_1, .int .i64 x117004_1] 26 (0, 0))) ∧ (w'.heap[s_.2]? = some (.cells #[.slice none 0 0, .int .i64 0, .int .i64 0, .int .i64 0, .int .i64 0] 26 (0, 0))) ∧ (w.heap.size ≤ s_.2) ∧ (w0.heap.size ≤ s_.2) ∧ (g ≠ s_.2) ∧ (s_.2 ≠ g) ∧ (g1 ≠ s_.2) ∧ (s_.2 ≠ g1) ∧ (g16 ≠ s_.2) ∧ (s_.2 ≠ g16) ∧ (IsS54 w0 w' g s0_0 t24 t25) ∧ (KeepBut w w' g none) ∧ (Below w0.heap.size w0 w')) ?_ ?_
    rotate_left
    ·intro hCont
     refine tw 3 8 (fun K hK => ?_) (fun K hK => ?_)
     ·skip
      refine gO Tryz.func59 #[.pointer (some ⟨g, 0, none⟩), .agg #[.slice Ao21 x117000_1.length co21, .int .i64 x117001_1, .int .i64 x117002_1, .int .i64 x117003_1, .int .i64 x117004_1]] ?_
      with_reducible refine (Fb.calls k1 g s0_0 x1001_1 x1002_1 _ _ x117000_1 x117001_1 x117002_1 x117003_1 x117004_1 t20 t21 t22 t23 t24 t25 w0 _ ?side1 ?side2 ?side3 ?side4 A18.out).mono ?_
      (case side1 => exact IsS54.below HI0.out Ho.Steps.below)
      (case side2 => exact eS HB.out)
      (case side3 => exact Kd.C_foot_own (IsS54.apart (show IsS54 w0 _ g s0_0 x1001_1 x1002_1 from by exact IsS54.below HI0.out Ho.Steps.below) (by exact Ho.RS <| R_117000.out) (by decide)) (fun _ h_ => h_.2))
      (case side4 => exact (Kd.R_reads' R_117000.out).2.1)
      rintro e w23 ⟨rfl, hi, hb, hk⟩
      refine ⟨_, rfl, ?_⟩
      replace R_117000 := Ak (Kd.R_mono (Kd.R_keep (IsS54.apart (show IsS54 w0 _ g s0_0 x1001_1 x1002_1 from by exact IsS54.below HI0.out Ho.Steps.below) (by exact Ho.RS <| R_117000.out) (by decide)) hk (fun _ h => h.2)) (fun _ h => h.1))
      replace B1 := kK B1 hk N1_0
      replace B16 := kK B16 hk N16_0
      replace HK := hU HK hk
      replace HB := Ak hb
      replace HI0 := Ak hi
      clear hb hk hi
      refine hK.out _ _ (h5 B16) (fun hHeld => ?_)
      clear hK K
      refine nO 25 ?_
      refine tw 4 8 (fun K hK => ?_) (fun K hK => ?_)
      ·skip
       refine gO Tryz.func58 #[.agg #[.slice Ao21 x117000_1.length co21, .int .i64 x117001_1, .int .i64 x117002_1, .int .i64 x117003_1, .int .i64 x117004_1], .agg #[.int .i64 t20, .int .i64 t21, .int .i64 t22, .int .i64 t23]] ?_
       with_reducible refine (Fw.calls k1 _ _ x117000_1 x117001_1 x117002_1 x117003_1 x117004_1 t20 t21 t22 t23 t26 t29 t30 t31 t32 true _ ?side1 ?side2 A19.out).mono ?_
       (case side1 => exact Cs (Kd.R_reads' R_117000.out).2.2)
       (case side2 => exact (Kd.R_reads' R_117000.out).2.1)
       rintro e w24 ⟨v27, rfl, ho0, hb⟩
       refine ⟨_, rfl, ?_⟩
       have R28 := Ak (Kd.R_lower (Kd.R_new' ho0 (Kd.R_lt (by exact Ho.RS <| R_117000.out))) (keep_size (w := w) (g := g) (row := none) (by exact Ho.kS HK.out)))
       replace R_117000 := el R_117000 ho0 hb
       replace B1 := kT B1 hb
       replace B16 := kT B16 hb
       replace HI0 := Ak (IsS54.below (by exact IsS54.below HI0.out Ho.Steps.below) hb)
       replace HK := hT HK hb
       replace HB := bT HB hb
       clear hb
       (try clear ho0)
       refine hK.out _ _ (h5 B16) (fun hHeld => ?_)
       clear hK K
       refine nO 26 ?_
       refine Pu 5 ?_
       refine Pu 6 ?_
       refine Pu 7 ?_
       refine oN 8 fun K hK => ?_
       refine bX 6 26 #[.slice none 0 0, .int .i64 0, .int .i64 0, .int .i64 0, .int .i64 0] ?_
       intro g34 hg w25 B34 hb
       have G34 := hG HK hg
       have E34 := Ak (Nat.le_trans HW0.out (by rw [hg]; exact (keep_size (w := w) (g := g) (row := none) (by exact Ho.kS HK.out)) : w.heap.size ≤ g34) : w0.heap.size ≤ g34)
       obtain ⟨N1_34, N34_1⟩ := nB B1 hg
       obtain ⟨N16_34, N34_16⟩ := nB B16 hg
       have N0_34 := Ak ((by rw [hg]; exact Nat.ne_of_lt (IsS54.lt (show IsS54 w0 _ g s0_0 t24 t25 from by exact IsS54.below HI0.out Ho.Steps.below)) : g ≠ g34))
       have N34_0 := Ak ((by rw [hg]; exact Nat.ne_of_gt (IsS54.lt (show IsS54 w0 _ g s0_0 t24 t25 from by exact IsS54.below HI0.out Ho.Steps.below)) : g34 ≠ g))
       replace R_117000 := rT R_117000 hb
       replace R28 := rT R28 hb
       replace B1 := kT B1 hb
       replace B16 := kT B16 hb
       replace HI0 := Ak (IsS54.below (by exact IsS54.below HI0.out Ho.Steps.below) hb)
       replace HK := hT HK hb
       replace HB := bT HB hb
       clear hb hg
       refine hK.out _ _ (h5 B16) (fun hHeld => ?_)
       clear hK K
       refine nO 6 ?_
       exact norm_ Nz (hCont (v27, g34) _ ⟨hHeld, Ho.RS (Kd.R_mono R28.out (fun _ hk => hk.2)), Ho.RS (Kd.R_mono R_117000.out (fun _ hk => hk.2)), ks B1, ks B16, ks B34, G34.out, E34.out, N0_34.out, N34_0.out, N1_34.out, N34_1.out, N16_34.out, N34_16.out, (by exact IsS54.below HI0.out Ho.Steps.below), (by exact Ho.kS HK.out), es HB⟩)
      ·skip
       refine bX 6 26 #[.slice none 0 0, .int .i64 0, .int .i64 0, .int .i64 0, .int .i64 0] ?_
       intro g34 hg w24 B34 hb
       have G34 := hG HK hg
       have E34 := Ak (Nat.le_trans HW0.out (by rw [hg]; exact (keep_size (w := w) (g := g) (row := none) (by exact Ho.kS HK.out)) : w.heap.size ≤ g34) : w0.heap.size ≤ g34)
       obtain ⟨N1_34, N34_1⟩ := nB B1 hg
       obtain ⟨N16_34, N34_16⟩ := nB B16 hg
       have N0_34 := Ak ((by rw [hg]; exact Nat.ne_of_lt (IsS54.lt (show IsS54 w0 _ g s0_0 t24 t25 from by exact IsS54.below HI0.out Ho.Steps.below)) : g ≠ g34))
       have N34_0 := Ak ((by rw [hg]; exact Nat.ne_of_gt (IsS54.lt (show IsS54 w0 _ g s0_0 t24 t25 from by exact IsS54.below HI0.out Ho.Steps.below)) : g34 ≠ g))
       replace R_117000 := rT R_117000 hb
       replace B1 := kT B1 hb
       replace B16 := kT B16 hb
       replace HI0 := Ak (IsS54.below (by exact IsS54.below HI0.out Ho.Steps.below) hb)
       replace HK := hT HK hb
       replace HB := bT HB hb
       clear hb hg
       refine hK.out _ _ (h5 B16) (fun hHeld => ?_)
       clear hK K
       refine nO 6 ?_
       refine oN 4 fun K hK => ?_
       refine gO Tryz.func58 #[.agg #[.slice Ao21 x117000_1.length co21, .int .i64 x117001_1, .int .i64 x117002_1, .int .i64 x117003_1, .int .i64 x117004_1], .agg #[.int .i64 t20, .int .i64 t21, .int .i64 t22, .int .i64 t23]] ?_
       with_reducible refine (Fw.calls k1 _ _ x117000_1 x117001_1 x117002_1 x117003_1 x117004_1 t20 t21 t22 t23 t26 t29 t30 t31 t32 true _ ?side1 ?side2 A19.out).mono ?_
       (case side1 => exact Cs (Kd.R_reads' R_117000.out).2.2)
       (case side2 => exact (Kd.R_reads' R_117000.out).2.1)
       rintro e w25 ⟨v27, rfl, ho0, hb⟩
       refine ⟨_, rfl, ?_⟩
       have R28 := Ak (Kd.R_lower (Kd.R_new' ho0 (Kd.R_lt (by exact Ho.RS <| R_117000.out))) (keep_size (w := w) (g := g) (row := none) (by exact Ho.kS HK.out)))
       replace R_117000 := el R_117000 ho0 hb
       replace B1 := kT B1 hb
       replace B16 := kT B16 hb
       replace HI0 := Ak (IsS54.below (by exact IsS54.below HI0.out Ho.Steps.below) hb)
       replace B34 := kT B34 hb
       replace HK := hT HK hb
       replace HB := bT HB hb
       clear hb
       (try clear ho0)
       refine hK.out _ _ (h5 B16) (fun hHeld => ?_)
       clear hK K
       refine nO 26 ?_
       refine Pu 5 ?_
       refine Pu 6 ?_
       refine Pu 7 ?_
       exact norm_ Nz (hCont (v27, g34) _ ⟨hHeld, Ho.RS (Kd.R_mono R28.out (fun _ hk => hk.2)), Ho.RS (Kd.R_mono R_117000.out (fun _ hk => hk.2)), ks B1, ks B16, ks B34, G34.out, E34.out, N0_34.out, N34_0.out, N1_34.out, N34_1.out, N16_34.out, N34_16.out, (by exact IsS54.below HI0.out Ho.Steps.below), (by exact Ho.kS HK.out), es HB⟩)
     ·skip
      refine bX 6 26 #[.slice none 0 0, .int .i64 0, .int .i64 0, .int .i64 0, .int .i64 0] ?_
      intro g34 hg w23 B34 hb
      have G34 := hG HK hg
      have E34 := Ak (Nat.le_trans HW0.out (by rw [hg]; exact (keep_size (w := w) (g := g) (row := none) (by exact Ho.kS HK.out)) : w.heap.size ≤ g34) : w0.heap.size ≤ g34)
      obtain ⟨N1_34, N34_1⟩ := nB B1 hg
      obtain ⟨N16_34, N34_16⟩ := nB B16 hg
      have N0_34 := Ak ((by rw [hg]; exact Nat.ne_of_lt (IsS54.lt (show IsS54 w0 _ g s0_0 x1001_1 x1002_1 from by exact IsS54.below HI0.out Ho.Steps.below)) : g ≠ g34))
      have N34_0 := Ak ((by rw [hg]; exact Nat.ne_of_gt (IsS54.lt (show IsS54 w0 _ g s0_0 x1001_1 x1002_1 from by exact IsS54.below HI0.out Ho.Steps.below)) : g34 ≠ g))
      replace R_117000 := rT R_117000 hb
      replace B1 := kT B1 hb
      replace B16 := kT B16 hb
      replace HI0 := Ak (IsS54.below (by exact IsS54.below HI0.out Ho.Steps.below) hb)
      replace HK := hT HK hb
      replace HB := bT HB hb
      clear hb hg
      refine hK.out _ _ (h5 B16) (fun hHeld => ?_)
      clear hK K
      refine nO 6 ?_
      refine oN 3 fun K hK => ?_
      refine gO Tryz.func59 #[.pointer (some ⟨g, 0, none⟩), .agg #[.slice Ao21 x117000_1.length co21, .int .i64 x117001_1, .int .i64 x117002_1, .int .i64 x117003_1, .int .i64 x117004_1]] ?_
      with_reducible refine (Fb.calls k1 g s0_0 x1001_1 x1002_1 _ _ x117000_1 x117001_1 x117002_1 x117003_1 x117004_1 t20 t21 t22 t23 t24 t25 w0 _ ?side1 ?side2 ?side3 ?side4 A18.out).mono ?_
      (case side1 => exact IsS54.below HI0.out Ho.Steps.below)
      (case side2 => exact eS HB.out)
      (case side3 => exact Kd.C_foot_own (IsS54.apart (show IsS54 w0 _ g s0_0 x1001_1 x1002_1 from by exact IsS54.below HI0.out Ho.Steps.below) (by exact Ho.RS <| R_117000.out) (by decide)) (fun _ h_ => h_.2))
      (case side4 => exact (Kd.R_reads' R_117000.out).2.1)
      rintro e w24 ⟨rfl, hi, hb, hk⟩
      refine ⟨_, rfl, ?_⟩
      replace R_117000 := Ak (Kd.R_mono (Kd.R_keep (IsS54.apart (show IsS54 w0 _ g s0_0 x1001_1 x1002_1 from by exact IsS54.below HI0.out Ho.Steps.below) (by exact Ho.RS <| R_117000.out) (by decide)) hk (fun _ h => h.2)) (fun _ h => h.1))
      replace B1 := kK B1 hk N1_0
      replace B16 := kK B16 hk N16_0
      replace B34 := kK B34 hk N34_0
      replace HK := hU HK hk
      replace HB := Ak hb
      replace HI0 := Ak hi
      clear hb hk hi
      refine hK.out _ _ (h5 B16) (fun hHeld => ?_)
      clear hK K
      refine nO 25 ?_
      refine oN 4 fun K hK => ?_
      refine gO Tryz.func58 #[.agg #[.slice Ao21 x117000_1.length co21, .int .i64 x117001_1, .int .i64 x117002_1, .int .i64 x117003_1, .int .i64 x117004_1], .agg #[.int .i64 t20, .int .i64 t21, .int .i64 t22, .int .i64 t23]] ?_
      with_reducible refine (Fw.calls k1 _ _ x117000_1 x117001_1 x117002_1 x117003_1 x117004_1 t20 t21 t22 t23 t26 t29 t30 t31 t32 true _ ?side1 ?side2 A19.out).mono ?_
      (case side1 => exact Cs (Kd.R_reads' R_117000.out).2.2)
      (case side2 => exact (Kd.R_reads' R_117000.out).2.1)
      rintro e w25 ⟨v27, rfl, ho0, hb⟩
      refine ⟨_, rfl, ?_⟩
      have R28 := Ak (Kd.R_lower (Kd.R_new' ho0 (Kd.R_lt (by exact Ho.RS <| R_117000.out))) (keep_size (w := w) (g := g) (row := none) (by exact Ho.kS HK.out)))
      replace R_117000 := el R_117000 ho0 hb
      replace B1 := kT B1 hb
      replace B16 := kT B16 hb
      replace HI0 := Ak (IsS54.below (by exact IsS54.below HI0.out Ho.Steps.below) hb)
      replace B34 := kT B34 hb
      replace HK := hT HK hb
      replace HB := bT HB hb
      clear hb
      (try clear ho0)
      refine hK.out _ _ (h5 B16) (fun hHeld => ?_)
      clear hK K
      refine nO 26 ?_
      refine Pu 5 ?_
      refine Pu 6 ?_
      refine Pu 7 ?_
      exact norm_ Nz (hCont (v27, g34) _ ⟨hHeld, Ho.RS (Kd.R_mono R28.out (fun _ hk => hk.2)), Ho.RS (Kd.R_mono R_117000.out (fun _ hk => hk.2)), ks B1, ks B16, ks B34, G34.out, E34.out, N0_34.out, N34_0.out, N1_34.out, N34_1.out, N16_34.out, N34_16.out, (by exact IsS54.below HI0.out Ho.Steps.below), (by exact Ho.kS HK.out), es HB⟩)
    rintro ⟨v27, g34⟩ w26 ⟨hS_, h0_, h1_, h2_, h3_, h4_, h5_, h6_, h7_, h8_, h9_, h10_, h11_, h12_, h13_, h14_, h15_⟩
    have R28 := Ak h0_
    have B34 := Ak h4_
    have G34 := Ak h5_
    have E34 := Ak h6_
    have N0_34 := Ak h7_
    have N34_0 := Ak h8_
    have N1_34 := Ak h9_
    have N34_1 := Ak h10_
    have N16_34 := Ak h11_
    have N34_16 := Ak h12_
    replace R_117000 := Ak h1_
    replace B1 := Ak h2_
    replace B16 := Ak h3_
    replace HI0 := Ak h13_
    replace HK := Ak h14_
    replace HB := Ak h15_
    clear h0_ h10_ h11_ h12_ h13_ h14_ h15_ h1_ h2_ h3_ h4_ h5_ h6_ h7_ h8_ h9_
    have hHeld := hS_
    obtain ⟨Ao27, co27, eo27⟩ := Kd.R_slice R28.out
    (first | subst eo27 | (injection eo27 with f1_ f2_ f3_; have f4_ := f1_.symm; have f5_ := f3_.symm; clear f1_ f2_ f3_; subst f4_; subst f5_))
    refine nQ ?_
    refine oN 9 fun K hK => ?_
    have hs28 := Sq.c5 B34.out
    have hns28_0 := N1_34.out
    have hns28_1 := N16_34.out
    have hms28_0 := N34_1.out
    have hms28_1 := N34_16.out
    refine sK ?_
    refine hK.out _ _ ⟨(cf5 N16_34.out hHeld.1), (cf5 N16_34.out hHeld.2.1), (cf5 N16_34.out hHeld.2.2.1), (cf5 N16_34.out hHeld.2.2.2.1), (cf5 N16_34.out hHeld.2.2.2.2)⟩ (fun hHeld => ?_)
    clear hK K
    refine Pu 10 ?_
    refine dO ?_
    have hnb33 := nP N34_1
    have hnb34 := nP N34_16
    have hnb35 := nP N34_0
    have hz36 := Sq.c5 B34.out
    have hnb37 := nP N16_1
    have hnb38 := nP N16_0
    have hz39 := Sq.c5 B16.out
    try go_wp2
    go_roundg k1
    case measure => have := HK1.out; omega
    case rel => exact ⟨(wrap64 (x5_1 - 1)), (t24), (t25), (t26), (t29), (t30), (t31), (t32), (.slice Ao27 t26.length co27), Ey, H', ⟨by have := HK1.out; omega⟩, ⟨by exact Ho.RS <| Kd.R_mono (Kd.R_far (p := ⟨g16, 4, none⟩) (Kd.R_far (p := ⟨g16, 3, none⟩) (Kd.R_far (p := ⟨g16, 2, none⟩) (Kd.R_far (p := ⟨g16, 1, none⟩) (Kd.R_far (p := ⟨g16, 0, none⟩) (Kd.R_far (p := ⟨g34, 4, none⟩) (Kd.R_far (p := ⟨g34, 3, none⟩) (Kd.R_far (p := ⟨g34, 2, none⟩) (Kd.R_far (p := ⟨g34, 1, none⟩) (Kd.R_far (p := ⟨g34, 0, none⟩) (Kd.R_types (Kd.R_types R28.out B34.out (by decide)) B16.out (by decide)) (fun _ hk => hk.1.2) (.slice Ao27 t26.length co27)) (fun _ hk => hk.1.2) (.int .i64 t29)) (fun _ hk => hk.1.2) (.int .i64 t30)) (fun _ hk => hk.1.2) (.int .i64 t31)) (fun _ hk => hk.1.2) (.int .i64 t32)) (fun _ hk => hk.2) (.slice Ao27 t26.length co27)) (fun _ hk => hk.2) (.int .i64 t29)) (fun _ hk => hk.2) (.int .i64 t30)) (fun _ hk => hk.2) (.int .i64 t31)) (fun _ hk => hk.2) (.int .i64 t32)) (fun _ hk => trivial)⟩, ⟨Kz⟩, ⟨by apply Sq.put5; exact Kz⟩, ⟨by repeat (first | (with_reducible first | exact HI0.out | apply IsS54.alloc | apply IsS54.drewN | apply IsS54.drew | apply IsS54.set_1 | apply IsS54.set_2 | refine IsS54.far ?_ N0_1.out _ | refine IsS54.far ?_ N0_16.out _ | refine IsS54.far ?_ N0_34.out _) | exact HI0.out)⟩, ⟨by repeat (first | (with_reducible first | exact HK.out | apply KeepBut.set_ | apply keep_drewN | apply keep_drew | apply keep_alloc | refine keep_far ?_ G1.out _ | refine keep_far ?_ G16.out _ | refine keep_far ?_ G34.out _) | exact HK.out)⟩, ⟨by repeat (first | (with_reducible first | exact HB.out | apply below_alloc | apply pw_below_drewN | apply below_drew1 | refine below_set ?_ (IsS54.ge HI0.out) | refine below_set ?_ E1.out | refine below_set ?_ E16.out | refine below_set ?_ E34.out) | exact HB.out)⟩⟩
   rw [if_neg c17] at H
   have c17b0 := decide_eq_false c17
   clear c17
   obtain ⟨⟨t35, t36, t37⟩, A52, H⟩ := bn H
   (try dsimp only at H)
   by_cases c53 : t35 = 0
   ·rw [if_pos c53] at H
    have c53b0 := beq_iff_eq.mpr c53
    have c53b1 := bne_eq_false_iff_eq.mpr c53
    clear c53
    obtain ⟨y38, hy38⟩ : ∃ y_ : List Int, y_ = (([(-1), 1] : List Int)) := ⟨_, rfl⟩
    replace H : ((Fm.f s0_0 t36 t37 y38).bind fun bt141 => (some (x117000_1, x117001_1, wrap64 (x117002_1 + bt141.1), x117003_1, x117004_1, bt141.2.1, bt141.2.2))) = some (r1, r2, r3, r4, r5, r6, r7) := by first | (rw [hy38]; with_reducible exact H) | (have H2_ := (Option.bind_some _ _).symm.trans H; rw [hy38]; with_reducible exact H2_) | (have H2_ := (Option.bind_some _ _).symm.trans H; with_reducible exact H2_) | with_reducible exact H | (rw [hy38]; exact H) | exact H
    have Ny38 := Aside0.mk hy38
    clear hy38
    obtain ⟨⟨t41, t42, t43⟩, A54, H⟩ := bn H
    (try dsimp only at H)
    simp only [Option.some.injEq, Prod.mk.injEq] at H
    obtain ⟨rfl, rfl, rfl, rfl, rfl, rfl, rfl⟩ := H
    try go_wp2_with (first | (refine cE (some 32) Tryz.func48 #[.pointer (some ⟨g, 0, none⟩), .int .i64 24] ?_; (with_reducible refine (Faf.calls g s0_0 x1001_1 x1002_1 24 t35 t36 t37 w0 _ ?side1 ?side2 A52.out).mono ?_); (case side1 => exact IsS54.below HI0.out Ho.Steps.below); (case side2 => exact eS HB.out); rintro e w55 ⟨rfl, hi, hb, hk⟩; refine ⟨_, rfl, ?_⟩; replace R_117000 := Ak (Kd.R_mono (Kd.R_keep (IsS54.apart (show IsS54 w0 _ g s0_0 x1001_1 x1002_1 from by exact IsS54.below HI0.out Ho.Steps.below) (by exact Ho.RS <| R_117000.out) (by decide)) hk (fun _ h => h.2)) (fun _ h => h.1)); replace B1 := kK B1 hk N1_0; replace B16 := kK B16 hk N16_0; replace HK := hU HK hk; replace HB := Ak hb; replace HI0 := Ak hi; clear hb hk hi))
    replace R_117000 := rD R_117000
    replace B1 := kD B1
    replace B16 := kD B16
    replace HI0 := Ak (IsS54.drew HI0.out)
    replace HK := hD HK
    replace HB := bD HB
    refine sT 8 (H5 g16 (u117000) (.int .i64 x117001_1) (.int .i64 x117002_1) (.int .i64 x117003_1) (.int .i64 x117004_1)) [7] Fh.tab10 Fh.bits10 (h5 B16) fun hHeld HT_ HW_ => ?_
    generalize w55.drew = w56 at R_117000 B1 B16 HI0 HK HB hHeld ⊢
    refine Pu 0 ?_
    refine Pu 2 ?_
    refine Ta 1 ?_
    refine oN 3 fun K hK => ?_
    refine Kd.R_lit_step (Kd.int .i64) _ 3 ?hg (N := 38) ?hd (xs := ([(-1), 1] : List Int)) (inner := [.int .i64 (-1), .int .i64 1]) (ok := fun _ => True) (okp := fun _ => True) ?hr ?hp (fun _ hk => hk) trivial (Below.refl _ _) (Nat.le_refl _) (by simp) ?_
    (case hd => rfl)
    (case hg => rfl)
    (case hr => first | (go_simp; done) | (go_simp; rfl))
    (case hp => exact Rz)
    intro v39 w57 ho58 hb hg_ hnew_
    clear hg_ hnew_
    (first | rw [← Ny38.out] at ho58 | (simp only [Int.reduceToNat] at ho58; rw [← Ny38.out] at ho58))
    have R40 := Ak (Kd.R_lower ho58 (keep_size (w := w) (g := g) (row := none) (by exact Ho.kS HK.out)))
    replace R_117000 := rT R_117000 hb
    replace B1 := kT B1 hb
    replace B16 := kT B16 hb
    replace HI0 := Ak (IsS54.below (by exact IsS54.below HI0.out Ho.Steps.below) hb)
    replace HK := hT HK hb
    replace HB := bT HB hb
    clear hb ho58
    obtain ⟨Ao59, co59, eo59⟩ := Kd.R_slice R40.out
    (first | subst eo59 | (injection eo59 with f1_ f2_ f3_; have f4_ := f1_.symm; have f5_ := f3_.symm; clear f1_ f2_ f3_; subst f4_; subst f5_))
    refine hK.out _ _ (h5 B16) (fun hHeld => ?_)
    clear hK K
    refine nO 38 ?_
    refine oN 4 fun K hK => ?_
    refine gO Tryz.func49 #[.pointer (some ⟨g, 0, none⟩), .slice Ao59 y38.length co59] ?_
    with_reducible refine (Fm.calls g s0_0 t36 t37 _ _ y38 t41 t42 t43 w0 _ ?side1 ?side2 ?side3 ?side4 ?side5 A54.out).mono ?_
    (case side1 => exact IsS54.below HI0.out Ho.Steps.below)
    (case side2 => exact eS HB.out)
    (case side3 => exact Cs (Kd.R_reads' R40.out).2.2)
    (case side4 => exact (Kd.R_reads' R40.out).2.1)
    (case side5 => exact far_slice (IsS54.own_ne HI0.out R40.out (by decide)))
    rintro e w60 ⟨rfl, hi, hb, hk⟩
    refine ⟨_, rfl, ?_⟩
    replace R_117000 := Ak (Kd.R_mono (Kd.R_keep (IsS54.apart (show IsS54 w0 _ g s0_0 t36 t37 from by exact IsS54.below HI0.out Ho.Steps.below) (by exact Ho.RS <| R_117000.out) (by decide)) hk (fun _ h => h.2)) (fun _ h => h.1))
    replace B1 := kK B1 hk N1_0
    replace B16 := kK B16 hk N16_0
    replace R40 := Ak (Kd.R_mono (Kd.R_keep (IsS54.apart (show IsS54 w0 _ g s0_0 t36 t37 from by exact IsS54.below HI0.out Ho.Steps.below) (by exact Ho.RS <| R40.out) (by decide)) hk (fun _ h => h.2)) (fun _ h => h.1))
    replace HK := hU HK hk
    replace HB := Ak hb
    replace HI0 := Ak hi
    clear hb hk hi
    refine hK.out _ _ (h5 B16) (fun hHeld => ?_)
    clear hK K
    refine nO 39 ?_
    refine Pu 5 ?_
    refine Pu 6 ?_
    refine last_ (i := 7) (N := none) (Bt 8 255) rfl rfl (one_of HT_.out (by kernel_rfl)) (by decide) (fun K hK => ?_)
    have hs61 : w60.cell? ⟨g16, 2, none⟩ = some (.int .i64 x117002_1) := (blk_cell B16.out 2).trans rfl
    have hfs61 := blk_frozen B16.out 2
    have hns61_0 := nP N1_16
    refine sK ?_
    refine hK.out _ _ ?_
    clear hK K
    refine dO ?_
    have hnb62 := nP N16_1
    have hnb63 := nP N16_0
    have hz64 := Sq.c5 B16.out
    obtain ⟨Ao65, co65, eo65⟩ := Kd.R_slice R_117000.out
    subst eo65
    have hnb66 := nP N1_0
    have hz67 := Sq.c5 B1.out
    try go_wp2
    refine bodyPost_ret (results_cell_row rfl _ _ g1 26 #[.slice Ao65 x117000_1.length co65, .int .i64 x117001_1, .int .i64 (wrap64 (x117002_1 + t41)), .int .i64 x117003_1, .int .i64 x117004_1] (0, 0) _ rfl (by apply Sq.put5; exact Kz) Tryz.underlying26 rfl (by kernel_rfl)) rfl ?_
    exact ⟨_, Ez, by exact Ho.RS <| Kd.R_mono (Kd.R_far (p := ⟨g1, 4, none⟩) (Kd.R_far (p := ⟨g1, 3, none⟩) (Kd.R_far (p := ⟨g1, 2, none⟩) (Kd.R_far (p := ⟨g1, 1, none⟩) (Kd.R_far (p := ⟨g1, 0, none⟩) (Kd.R_far (p := ⟨g16, 2, none⟩) (Kd.R_types (Kd.R_types R_117000.out B16.out (by decide)) B1.out (by decide)) (fun _ hk => hk.1.2) (.int .i64 (wrap64 (x117002_1 + t41)))) (fun _ hk => hk.2) (.slice Ao65 x117000_1.length co65)) (fun _ hk => hk.2) (.int .i64 x117001_1)) (fun _ hk => hk.2) (.int .i64 (wrap64 (x117002_1 + t41)))) (fun _ hk => hk.2) (.int .i64 x117003_1)) (fun _ hk => hk.2) (.int .i64 x117004_1)) (fun _ hk => trivial), by repeat (first | (with_reducible first | exact HI0.out | apply IsS54.alloc | apply IsS54.drewN | apply IsS54.drew | apply IsS54.set_1 | apply IsS54.set_2 | refine IsS54.far ?_ N0_1.out _ | refine IsS54.far ?_ N0_16.out _) | exact HI0.out), by repeat (first | (with_reducible first | exact HB.out | apply below_alloc | apply pw_below_drewN | apply below_drew1 | refine below_set ?_ (IsS54.ge HI0.out) | refine below_set ?_ E1.out | refine below_set ?_ E16.out) | exact HB.out), by repeat (first | (with_reducible first | exact HK.out | apply KeepBut.set_ | apply keep_drewN | apply keep_drew | apply keep_alloc | refine keep_far ?_ G1.out _ | refine keep_far ?_ G16.out _) | exact HK.out)⟩
   rw [if_neg c53] at H
   have c53b0 := beq_eq_false_iff_ne.mpr c53
   have c53b1 := bne_iff_ne.mpr c53
   by_cases c68 : t35 = 1
   ·rw [if_pos c68] at H
    have c68b0 := beq_iff_eq.mpr c68
    have c68b1 := bne_eq_false_iff_eq.mpr c68
    clear c68
    obtain ⟨y44, hy44⟩ : ∃ y_ : List Int, y_ = (([0, 1, 999, 1000] : List Int)) := ⟨_, rfl⟩
    replace H : ((Fm.f s0_0 t36 t37 y44).bind fun bt147 => (some (x117000_1, bt147.1, x117002_1, x117003_1, x117004_1, bt147.2.1, bt147.2.2))) = some (r1, r2, r3, r4, r5, r6, r7) := by first | (rw [hy44]; with_reducible exact H) | (have H2_ := (Option.bind_some _ _).symm.trans H; rw [hy44]; with_reducible exact H2_) | (have H2_ := (Option.bind_some _ _).symm.trans H; with_reducible exact H2_) | with_reducible exact H | (rw [hy44]; exact H) | exact H
    have Ny44 := Aside0.mk hy44
    clear hy44
    obtain ⟨⟨t47, t48, t49⟩, A69, H⟩ := bn H
    (try dsimp only at H)
    simp only [Option.some.injEq, Prod.mk.injEq] at H
    obtain ⟨rfl, rfl, rfl, rfl, rfl, rfl, rfl⟩ := H
    go_wp2_with (first | (refine cE (some 32) Tryz.func48 #[.pointer (some ⟨g, 0, none⟩), .int .i64 24] ?_; (with_reducible refine (Faf.calls g s0_0 x1001_1 x1002_1 24 t35 t36 t37 w0 _ ?side1 ?side2 A52.out).mono ?_); (case side1 => exact IsS54.below HI0.out Ho.Steps.below); (case side2 => exact eS HB.out); rintro e w70 ⟨rfl, hi, hb, hk⟩; refine ⟨_, rfl, ?_⟩; replace R_117000 := Ak (Kd.R_mono (Kd.R_keep (IsS54.apart (show IsS54 w0 _ g s0_0 x1001_1 x1002_1 from by exact IsS54.below HI0.out Ho.Steps.below) (by exact Ho.RS <| R_117000.out) (by decide)) hk (fun _ h => h.2)) (fun _ h => h.1)); replace B1 := kK B1 hk N1_0; replace B16 := kK B16 hk N16_0; replace HK := hU HK hk; replace HB := Ak hb; replace HI0 := Ak hi; clear hb hk hi) | ((with_reducible refine gate_dst (N := 45) rfl ?_); refine Kd.R_lit (Kd.int .i64) _ 3 ?hg (N := 45) ?hd (xs := ([0, 1, 999, 1000] : List Int)) (inner := [.int .i64 0, .int .i64 1, .int .i64 999, .int .i64 1000]) (ok := fun _ => True) (okp := fun _ => True) ?hr ?hp (fun _ hk => hk) trivial (Below.refl _ _) (Nat.le_refl _) (by simp) ?_; (case hd => rfl); (case hg => rfl); (case hr => first | (go_simp; done) | (go_simp; rfl)); (case hp => exact Rz); intro v45 w71 ho72 hb hg_ hnew_; clear hg_ hnew_; (first | rw [← Ny44.out] at ho72 | (simp only [Int.reduceToNat] at ho72; rw [← Ny44.out] at ho72)); have R46 := Ak (Kd.R_lower ho72 (keep_size (w := w) (g := g) (row := none) (by exact Ho.kS HK.out))); replace R_117000 := rT R_117000 hb; replace B1 := kT B1 hb; replace B16 := kT B16 hb; replace HI0 := Ak (IsS54.below (by exact IsS54.below HI0.out Ho.Steps.below) hb); replace HK := hT HK hb; replace HB := bT HB hb; clear hb ho72; obtain ⟨Ao73, co73, eo73⟩ := Kd.R_slice R46.out; subst eo73) | (refine cE (some 46) Tryz.func49 #[.pointer (some ⟨g, 0, none⟩), .slice Ao73 y44.length co73] ?_; (with_reducible refine (Fm.calls g s0_0 t36 t37 _ _ y44 t47 t48 t49 w0 _ ?side1 ?side2 ?side3 ?side4 ?side5 A69.out).mono ?_); (case side1 => exact IsS54.below HI0.out Ho.Steps.below); (case side2 => exact eS HB.out); (case side3 => exact Cs (Kd.R_reads' R46.out).2.2); (case side4 => exact (Kd.R_reads' R46.out).2.1); (case side5 => exact far_slice (IsS54.own_ne HI0.out R46.out (by decide))); rintro e w74 ⟨rfl, hi, hb, hk⟩; refine ⟨_, rfl, ?_⟩; replace R_117000 := Ak (Kd.R_mono (Kd.R_keep (IsS54.apart (show IsS54 w0 _ g s0_0 t36 t37 from by exact IsS54.below HI0.out Ho.Steps.below) (by exact Ho.RS <| R_117000.out) (by decide)) hk (fun _ h => h.2)) (fun _ h => h.1)); replace B1 := kK B1 hk N1_0; replace B16 := kK B16 hk N16_0; replace R46 := Ak (Kd.R_mono (Kd.R_keep (IsS54.apart (show IsS54 w0 _ g s0_0 t36 t37 from by exact IsS54.below HI0.out Ho.Steps.below) (by exact Ho.RS <| R46.out) (by decide)) hk (fun _ h => h.2)) (fun _ h => h.1)); replace HK := hU HK hk; replace HB := Ak hb; replace HI0 := Ak hi; clear hb hk hi; have hnb75 := nP N16_1; have hnb76 := nP N16_0; have hz77 := Sq.c5 B16.out; obtain ⟨Ao78, co78, eo78⟩ := Kd.R_slice R_117000.out; subst eo78; have hnb79 := nP N1_0; have hz80 := Sq.c5 B1.out))
    refine bodyPost_ret (results_cell_row rfl _ _ g1 26 #[.slice Ao78 x117000_1.length co78, .int .i64 t47, .int .i64 x117002_1, .int .i64 x117003_1, .int .i64 x117004_1] (0, 0) _ rfl (by apply Sq.put5; exact Kz) Tryz.underlying26 rfl (by kernel_rfl)) rfl ?_
    exact ⟨_, Ez, by exact Ho.RS <| Kd.R_mono (Kd.R_far (p := ⟨g1, 4, none⟩) (Kd.R_far (p := ⟨g1, 3, none⟩) (Kd.R_far (p := ⟨g1, 2, none⟩) (Kd.R_far (p := ⟨g1, 1, none⟩) (Kd.R_far (p := ⟨g1, 0, none⟩) (Kd.R_far (p := ⟨g16, 1, none⟩) (Kd.R_types (Kd.R_types R_117000.out B16.out (by decide)) B1.out (by decide)) (fun _ hk => hk.1.2) (.int .i64 t47)) (fun _ hk => hk.2) (.slice Ao78 x117000_1.length co78)) (fun _ hk => hk.2) (.int .i64 t47)) (fun _ hk => hk.2) (.int .i64 x117002_1)) (fun _ hk => hk.2) (.int .i64 x117003_1)) (fun _ hk => hk.2) (.int .i64 x117004_1)) (fun _ hk => trivial), by repeat (first | (with_reducible first | exact HI0.out | apply IsS54.alloc | apply IsS54.drewN | apply IsS54.drew | apply IsS54.set_1 | apply IsS54.set_2 | refine IsS54.far ?_ N0_1.out _ | refine IsS54.far ?_ N0_16.out _) | exact HI0.out), by repeat (first | (with_reducible first | exact HB.out | apply below_alloc | apply pw_below_drewN | apply below_drew1 | refine below_set ?_ (IsS54.ge HI0.out) | refine below_set ?_ E1.out | refine below_set ?_ E16.out) | exact HB.out), by repeat (first | (with_reducible first | exact HK.out | apply KeepBut.set_ | apply keep_drewN | apply keep_drew | apply keep_alloc | refine keep_far ?_ G1.out _ | refine keep_far ?_ G16.out _) | exact HK.out)⟩
   rw [if_neg c68] at H
   have c68b0 := beq_eq_false_iff_ne.mpr c68
   have c68b1 := bne_iff_ne.mpr c68
   by_cases c81 : t35 = 2
   rotate_left
   ·rw [if_neg c81] at H
    have c81b0 := beq_eq_false_iff_ne.mpr c81
    have c81b1 := bne_iff_ne.mpr c81
    simp only [Option.some.injEq, Prod.mk.injEq] at H
    obtain ⟨rfl, rfl, rfl, rfl, rfl, rfl, rfl⟩ := H
    go_wp2_with (first | (refine cE (some 32) Tryz.func48 #[.pointer (some ⟨g, 0, none⟩), .int .i64 24] ?_; (with_reducible refine (Faf.calls g s0_0 x1001_1 x1002_1 24 t35 t36 t37 w0 _ ?side1 ?side2 A52.out).mono ?_); (case side1 => exact IsS54.below HI0.out Ho.Steps.below); (case side2 => exact eS HB.out); rintro e w110 ⟨rfl, hi, hb, hk⟩; refine ⟨_, rfl, ?_⟩; replace R_117000 := Ak (Kd.R_mono (Kd.R_keep (IsS54.apart (show IsS54 w0 _ g s0_0 x1001_1 x1002_1 from by exact IsS54.below HI0.out Ho.Steps.below) (by exact Ho.RS <| R_117000.out) (by decide)) hk (fun _ h => h.2)) (fun _ h => h.1)); replace B1 := kK B1 hk N1_0; replace B16 := kK B16 hk N16_0; replace HK := hU HK hk; replace HB := Ak hb; replace HI0 := Ak hi; clear hb hk hi; have n11 := nP N16_1; have n12 := nP N16_0; have z13 := Sq.c5 B16.out; obtain ⟨Ao14, co14, eo14⟩ := Kd.R_slice R_117000.out; subst eo14; have n15 := nP N1_0; have z16 := Sq.c5 B1.out))
    refine bodyPost_ret (results_cell_row rfl _ _ g1 26 #[.slice Ao14 x117000_1.length co14, .int .i64 x117001_1, .int .i64 x117002_1, .int .i64 x117003_1, .int .i64 x117004_1] (0, 0) _ rfl (by apply Sq.put5; exact bS B1.out) Tryz.underlying26 rfl (by kernel_rfl)) rfl ?_
    exact ⟨_, Ez, rY5 R_117000 B1 (fun _ hk => trivial), by repeat (first | (with_reducible first | exact HI0.out | apply IsS54.alloc | apply IsS54.drewN | apply IsS54.drew | apply IsS54.set_1 | apply IsS54.set_2 | refine IsS54.far ?_ N0_1.out _ | refine IsS54.far ?_ N0_16.out _) | exact HI0.out), by repeat (first | (with_reducible first | exact HB.out | apply below_alloc | apply pw_below_drewN | apply below_drew1 | refine below_set ?_ (IsS54.ge HI0.out) | refine below_set ?_ E1.out | refine below_set ?_ E16.out) | exact HB.out), by repeat (first | (with_reducible first | exact HK.out | apply KeepBut.set_ | apply keep_drewN | apply keep_drew | apply keep_alloc | refine keep_far ?_ G1.out _ | refine keep_far ?_ G16.out _) | exact HK.out)⟩
   rw [if_pos c81] at H
   have c81b0 := beq_iff_eq.mpr c81
   have c81b1 := bne_eq_false_iff_eq.mpr c81
   clear c81
   obtain ⟨y50, hy50⟩ : ∃ y_ : List Int, y_ = (([0, 1, 998] : List Int)) := ⟨_, rfl⟩
   replace H : ((Fm.f s0_0 t36 t37 y50).bind fun bt153 => ((Fm.f s0_0 bt153.2.1 bt153.2.2 (([0, 6] : List Int))).bind fun bt159 => ((Fm.f s0_0 bt159.2.1 bt159.2.2 (([0, 5] : List Int))).bind fun bt165 => (if x117000_1.length < 5864062014805 then (some ((x117000_1 ++ [(⟨bt153.1, bt159.1, bt165.1⟩ : S33)]), x117001_1, x117002_1, x117003_1, x117004_1, bt165.2.1, bt165.2.2)) else (none))))) = some (r1, r2, r3, r4, r5, r6, r7) := by first | (rw [hy50]; with_reducible exact H) | (have H2_ := (Option.bind_some _ _).symm.trans H; rw [hy50]; with_reducible exact H2_) | (have H2_ := (Option.bind_some _ _).symm.trans H; with_reducible exact H2_) | with_reducible exact H | (rw [hy50]; exact H) | exact H
   have Ny50 := Aside0.mk hy50
   clear hy50
   obtain ⟨⟨t53, t54, t55⟩, A82, H⟩ := bn H
   (try dsimp only at H)
   obtain ⟨y56, hy56⟩ : ∃ y_ : List Int, y_ = (([0, 6] : List Int)) := ⟨_, rfl⟩
   replace H : ((Fm.f s0_0 t54 t55 y56).bind fun bt159 => ((Fm.f s0_0 bt159.2.1 bt159.2.2 (([0, 5] : List Int))).bind fun bt165 => (if x117000_1.length < 5864062014805 then (some ((x117000_1 ++ [(⟨t53, bt159.1, bt165.1⟩ : S33)]), x117001_1, x117002_1, x117003_1, x117004_1, bt165.2.1, bt165.2.2)) else (none)))) = some (r1, r2, r3, r4, r5, r6, r7) := by first | (rw [hy56]; with_reducible exact H) | (have H2_ := (Option.bind_some _ _).symm.trans H; rw [hy56]; with_reducible exact H2_) | (have H2_ := (Option.bind_some _ _).symm.trans H; with_reducible exact H2_) | with_reducible exact H | (rw [hy56]; exact H) | exact H
   have Ny56 := Aside0.mk hy56
   clear hy56
   obtain ⟨⟨t59, t60, t61⟩, A83, H⟩ := bn H
   (try dsimp only at H)
   obtain ⟨y62, hy62⟩ : ∃ y_ : List Int, y_ = (([0, 5] : List Int)) := ⟨_, rfl⟩
   replace H : ((Fm.f s0_0 t60 t61 y62).bind fun bt165 => (if x117000_1.length < 5864062014805 then (some ((x117000_1 ++ [(⟨t53, t59, bt165.1⟩ : S33)]), x117001_1, x117002_1, x117003_1, x117004_1, bt165.2.1, bt165.2.2)) else (none))) = some (r1, r2, r3, r4, r5, r6, r7) := by first | (rw [hy62]; with_reducible exact H) | (have H2_ := (Option.bind_some _ _).symm.trans H; rw [hy62]; with_reducible exact H2_) | (have H2_ := (Option.bind_some _ _).symm.trans H; with_reducible exact H2_) | with_reducible exact H | (rw [hy62]; exact H) | exact H
   have Ny62 := Aside0.mk hy62
   clear hy62
   obtain ⟨⟨t65, t66, t67⟩, A84, H⟩ := bn H
   (try dsimp only at H)
   by_cases c85 : x117000_1.length < 5864062014805
   rotate_left
   ·rw [if_neg c85] at H
    exact absurd H (by simp)
   rw [if_pos c85] at H
   have LMc85 := Aside0.mk c85
   clear c85
   obtain ⟨y68, hy68⟩ : ∃ y_ : List (S33), y_ = (x117000_1 ++ [(⟨t53, t59, t65⟩ : S33)]) := ⟨_, rfl⟩
   replace H : (some (y68, x117001_1, x117002_1, x117003_1, x117004_1, t66, t67)) = some (r1, r2, r3, r4, r5, r6, r7) := by first | (rw [hy68]; with_reducible exact H) | (have H2_ := (Option.bind_some _ _).symm.trans H; rw [hy68]; with_reducible exact H2_) | (have H2_ := (Option.bind_some _ _).symm.trans H; with_reducible exact H2_) | with_reducible exact H | (rw [hy68]; exact H) | exact H
   have Ny68 := Aside0.mk hy68
   clear hy68
   simp only [Option.some.injEq, Prod.mk.injEq] at H
   obtain ⟨rfl, rfl, rfl, rfl, rfl, rfl, rfl⟩ := H
   try go_wp2_with (first | (refine cE (some 32) Tryz.func48 #[.pointer (some ⟨g, 0, none⟩), .int .i64 24] ?_; (with_reducible refine (Faf.calls g s0_0 x1001_1 x1002_1 24 t35 t36 t37 w0 _ ?side1 ?side2 A52.out).mono ?_); (case side1 => exact IsS54.below HI0.out Ho.Steps.below); (case side2 => exact eS HB.out); rintro e w86 ⟨rfl, hi, hb, hk⟩; refine ⟨_, rfl, ?_⟩; replace R_117000 := Ak (Kd.R_mono (Kd.R_keep (IsS54.apart (show IsS54 w0 _ g s0_0 x1001_1 x1002_1 from by exact IsS54.below HI0.out Ho.Steps.below) (by exact Ho.RS <| R_117000.out) (by decide)) hk (fun _ h => h.2)) (fun _ h => h.1)); replace B1 := kK B1 hk N1_0; replace B16 := kK B16 hk N16_0; replace HK := hU HK hk; replace HB := Ak hb; replace HI0 := Ak hi; clear hb hk hi; obtain ⟨Ao87, co87, eo87⟩ := Kd.R_slice R_117000.out; subst eo87))
   replace R_117000 := rD R_117000
   replace B1 := kD B1
   replace B16 := kD B16
   replace HI0 := Ak (IsS54.drew HI0.out)
   replace HK := hD HK
   replace HB := bD HB
   refine sT 16 (H5 g16 (.slice Ao87 x117000_1.length co87) (.int .i64 x117001_1) (.int .i64 x117002_1) (.int .i64 x117003_1) (.int .i64 x117004_1)) [15] Fh.tab14 Fh.bits14 (h5 B16) fun hHeld HT_ HW_ => ?_
   generalize w86.drew = w88 at R_117000 B1 B16 HI0 HK HB hHeld ⊢
   refine Pu 0 ?_
   refine Pu 2 ?_
   refine Pu 5 ?_
   refine Pu 8 ?_
   refine Ta 1 ?_
   refine join_ (σ := Value × Value × Value) 6 (Bt 16 1023) (fun s_ => [(53, s_.1), (54, .int .i64 t53), (56, s_.2.1), (57, .int .i64 t59), (59, s_.2.2)]) (fun s_ w' => (H5 g16 (.slice Ao87 x117000_1.length co87) (.int .i64 x117001_1) (.int .i64 x117002_1) (.int .i64 x117003_1) (.int .i64 x117004_1) w') ∧ (Kd.R (Kd.int .i64) 3 w' w.heap.size (fun k_ => some k_ ≠ (s_.2.1 : Value).ownBlock ∧ some k_ ≠ (s_.2.2 : Value).ownBlock) s_.1 y50) ∧ (Kd.R (Kd.int .i64) 3 w' w.heap.size (fun k_ => some k_ ≠ (s_.1 : Value).ownBlock ∧ some k_ ≠ (s_.2.2 : Value).ownBlock) s_.2.1 y56) ∧ (Kd.R (Kd.int .i64) 3 w' w.heap.size (fun k_ => some k_ ≠ (s_.1 : Value).ownBlock ∧ some k_ ≠ (s_.2.1 : Value).ownBlock) s_.2.2 y62) ∧ (Kd.R k33 33 w' w.heap.size (fun _ => True) (.slice Ao87 x117000_1.length co87) x117000_1) ∧ (w'.heap[g1]? = some (.cells #[.slice none 0 0, .int .i64 0, .int .i64 0, .int .i64 0, .int .i64 0] 26 (0, 0))) ∧ (w'.heap[g16]? = some (.cells #[.slice Ao87 x117000_1.length co87, .int .i64 x117001_1, .int .i64 x117002_1, .int .i64 x117003_1, .int .i64 x117004_1] 26 (0, 0))) ∧ (IsS54 w0 w' g s0_0 t60 t61) ∧ (KeepBut w w' g none) ∧ (Below w0.heap.size w0 w')) ?_ ?_
   rotate_left
   ·intro hJ3_4_6_7_9
    refine join_ (σ := Value × Value) 7 (Bt 16 511) (fun s_ => [(53, s_.1), (54, .int .i64 t53), (56, s_.2), (57, .int .i64 t59)]) (fun s_ w' => (H5 g16 (.slice Ao87 x117000_1.length co87) (.int .i64 x117001_1) (.int .i64 x117002_1) (.int .i64 x117003_1) (.int .i64 x117004_1) w') ∧ (Kd.R (Kd.int .i64) 3 w' w.heap.size (fun k_ => some k_ ≠ (s_.2 : Value).ownBlock) s_.1 y50) ∧ (Kd.R (Kd.int .i64) 3 w' w.heap.size (fun k_ => some k_ ≠ (s_.1 : Value).ownBlock) s_.2 y56) ∧ (Kd.R k33 33 w' w.heap.size (fun _ => True) (.slice Ao87 x117000_1.length co87) x117000_1) ∧ (w'.heap[g1]? = some (.cells #[.slice none 0 0, .int .i64 0, .int .i64 0, .int .i64 0, .int .i64 0] 26 (0, 0))) ∧ (w'.heap[g16]? = some (.cells #[.slice Ao87 x117000_1.length co87, .int .i64 x117001_1, .int .i64 x117002_1, .int .i64 x117003_1, .int .i64 x117004_1] 26 (0, 0))) ∧ (IsS54 w0 w' g s0_0 t60 t61) ∧ (KeepBut w w' g none) ∧ (Below w0.heap.size w0 w')) ?_ ?_
    rotate_left
    ·intro hJ3_4_6_7
     refine join_ (σ := Value × Value × Value) 7 (Bt 16 895) (fun s_ => [(53, s_.1), (54, .int .i64 t53), (56, s_.2.1), (59, s_.2.2)]) (fun s_ w' => (H5 g16 (.slice Ao87 x117000_1.length co87) (.int .i64 x117001_1) (.int .i64 x117002_1) (.int .i64 x117003_1) (.int .i64 x117004_1) w') ∧ (Kd.R (Kd.int .i64) 3 w' w.heap.size (fun k_ => some k_ ≠ (s_.2.1 : Value).ownBlock ∧ some k_ ≠ (s_.2.2 : Value).ownBlock) s_.1 y50) ∧ (Kd.R (Kd.int .i64) 3 w' w.heap.size (fun k_ => some k_ ≠ (s_.1 : Value).ownBlock ∧ some k_ ≠ (s_.2.2 : Value).ownBlock) s_.2.1 y56) ∧ (Kd.R (Kd.int .i64) 3 w' w.heap.size (fun k_ => some k_ ≠ (s_.1 : Value).ownBlock ∧ some k_ ≠ (s_.2.1 : Value).ownBlock) s_.2.2 y62) ∧ (Kd.R k33 33 w' w.heap.size (fun _ => True) (.slice Ao87 x117000_1.length co87) x117000_1) ∧ (w'.heap[g1]? = some (.cells #[.slice none 0 0, .int .i64 0, .int .i64 0, .int .i64 0, .int .i64 0] 26 (0, 0))) ∧ (w'.heap[g16]? = some (.cells #[.slice Ao87 x117000_1.length co87, .int .i64 x117001_1, .int .i64 x117002_1, .int .i64 x117003_1, .int .i64 x117004_1] 26 (0, 0))) ∧ (IsS54 w0 w' g s0_0 t54 t55) ∧ (KeepBut w w' g none) ∧ (Below w0.heap.size w0 w')) ?_ ?_
     rotate_left
     ·intro hJ3_4_6_9
      refine join_ (σ := Value × Value) 8 (Bt 16 383) (fun s_ => [(53, s_.1), (54, .int .i64 t53), (56, s_.2)]) (fun s_ w' => (H5 g16 (.slice Ao87 x117000_1.length co87) (.int .i64 x117001_1) (.int .i64 x117002_1) (.int .i64 x117003_1) (.int .i64 x117004_1) w') ∧ (Kd.R (Kd.int .i64) 3 w' w.heap.size (fun k_ => some k_ ≠ (s_.2 : Value).ownBlock) s_.1 y50) ∧ (Kd.R (Kd.int .i64) 3 w' w.heap.size (fun k_ => some k_ ≠ (s_.1 : Value).ownBlock) s_.2 y56) ∧ (Kd.R k33 33 w' w.heap.size (fun _ => True) (.slice Ao87 x117000_1.length co87) x117000_1) ∧ (w'.heap[g1]? = some (.cells #[.slice none 0 0, .int .i64 0, .int .i64 0, .int .i64 0, .int .i64 0] 26 (0, 0))) ∧ (w'.heap[g16]? = some (.cells #[.slice Ao87 x117000_1.length co87, .int .i64 x117001_1, .int .i64 x117002_1, .int .i64 x117003_1, .int .i64 x117004_1] 26 (0, 0))) ∧ (IsS54 w0 w' g s0_0 t54 t55) ∧ (KeepBut w w' g none) ∧ (Below w0.heap.size w0 w')) ?_ ?_
      rotate_left
      ·intro hJ3_4_6
       refine join_ (σ := Value × Value) 8 (Bt 16 831) (fun s_ => [(53, s_.1), (54, .int .i64 t53), (59, s_.2)]) (fun s_ w' => (H5 g16 (.slice Ao87 x117000_1.length co87) (.int .i64 x117001_1) (.int .i64 x117002_1) (.int .i64 x117003_1) (.int .i64 x117004_1) w') ∧ (Kd.R (Kd.int .i64) 3 w' w.heap.size (fun k_ => some k_ ≠ (s_.2 : Value).ownBlock) s_.1 y50) ∧ (Kd.R (Kd.int .i64) 3 w' w.heap.size (fun k_ => some k_ ≠ (s_.1 : Value).ownBlock) s_.2 y62) ∧ (Kd.R k33 33 w' w.heap.size (fun _ => True) (.slice Ao87 x117000_1.length co87) x117000_1) ∧ (w'.heap[g1]? = some (.cells #[.slice none 0 0, .int .i64 0, .int .i64 0, .int .i64 0, .int .i64 0] 26 (0, 0))) ∧ (w'.heap[g16]? = some (.cells #[.slice Ao87 x117000_1.length co87, .int .i64 x117001_1, .int .i64 x117002_1, .int .i64 x117003_1, .int .i64 x117004_1] 26 (0, 0))) ∧ (IsS54 w0 w' g s0_0 t54 t55) ∧ (KeepBut w w' g none) ∧ (Below w0.heap.size w0 w')) ?_ ?_
       rotate_left
       ·intro hJ3_4_9
        refine join_ (σ := Value × Value × Value) 8 (Bt 16 879) (fun s_ => [(53, s_.1), (56, s_.2.1), (59, s_.2.2)]) (fun s_ w' => (H5 g16 (.slice Ao87 x117000_1.length co87) (.int .i64 x117001_1) (.int .i64 x117002_1) (.int .i64 x117003_1) (.int .i64 x117004_1) w') ∧ (Kd.R (Kd.int .i64) 3 w' w.heap.size (fun k_ => some k_ ≠ (s_.2.1 : Value).ownBlock ∧ some k_ ≠ (s_.2.2 : Value).ownBlock) s_.1 y50) ∧ (Kd.R (Kd.int .i64) 3 w' w.heap.size (fun k_ => some k_ ≠ (s_.1 : Value).ownBlock ∧ some k_ ≠ (s_.2.2 : Value).ownBlock) s_.2.1 y56) ∧ (Kd.R (Kd.int .i64) 3 w' w.heap.size (fun k_ => some k_ ≠ (s_.1 : Value).ownBlock ∧ some k_ ≠ (s_.2.1 : Value).ownBlock) s_.2.2 y62) ∧ (Kd.R k33 33 w' w.heap.size (fun _ => True) (.slice Ao87 x117000_1.length co87) x117000_1) ∧ (w'.heap[g1]? = some (.cells #[.slice none 0 0, .int .i64 0, .int .i64 0, .int .i64 0, .int .i64 0] 26 (0, 0))) ∧ (w'.heap[g16]? = some (.cells #[.slice Ao87 x117000_1.length co87, .int .i64 x117001_1, .int .i64 x117002_1, .int .i64 x117003_1, .int .i64 x117004_1] 26 (0, 0))) ∧ (IsS54 w0 w' g s0_0 t36 t37) ∧ (KeepBut w w' g none) ∧ (Below w0.heap.size w0 w')) ?_ ?_
        rotate_left
        ·intro hJ3_6_9
         refine join_ (σ := Value) 9 (Bt 16 319) (fun s_ => [(53, s_), (54, .int .i64 t53)]) (fun s_ w' => (H5 g16 (.slice Ao87 x117000_1.length co87) (.int .i64 x117001_1) (.int .i64 x117002_1) (.int .i64 x117003_1) (.int .i64 x117004_1) w') ∧ (Kd.R (Kd.int .i64) 3 w' w.heap.size (fun _ => True) s_ y50) ∧ (Kd.R k33 33 w' w.heap.size (fun _ => True) (.slice Ao87 x117000_1.length co87) x117000_1) ∧ (w'.heap[g1]? = some (.cells #[.slice none 0 0, .int .i64 0, .int .i64 0, .int .i64 0, .int .i64 0] 26 (0, 0))) ∧ (w'.heap[g16]? = some (.cells #[.slice Ao87 x117000_1.length co87, .int .i64 x117001_1, .int .i64 x117002_1, .int .i64 x117003_1, .int .i64 x117004_1] 26 (0, 0))) ∧ (IsS54 w0 w' g s0_0 t54 t55) ∧ (KeepBut w w' g none) ∧ (Below w0.heap.size w0 w')) ?_ ?_
         rotate_left
         ·intro hJ3_4
          refine join_ (σ := Value × Value) 9 (Bt 16 367) (fun s_ => [(53, s_.1), (56, s_.2)]) (fun s_ w' => (H5 g16 (.slice Ao87 x117000_1.length co87) (.int .i64 x117001_1) (.int .i64 x117002_1) (.int .i64 x117003_1) (.int .i64 x117004_1) w') ∧ (Kd.R (Kd.int .i64) 3 w' w.heap.size (fun k_ => some k_ ≠ (s_.2 : Value).ownBlock) s_.1 y50) ∧ (Kd.R (Kd.int .i64) 3 w' w.heap.size (fun k_ => some k_ ≠ (s_.1 : Value).ownBlock) s_.2 y56) ∧ (Kd.R k33 33 w' w.heap.size (fun _ => True) (.slice Ao87 x117000_1.length co87) x117000_1) ∧ (w'.heap[g1]? = some (.cells #[.slice none 0 0, .int .i64 0, .int .i64 0, .int .i64 0, .int .i64 0] 26 (0, 0))) ∧ (w'.heap[g16]? = some (.cells #[.slice Ao87 x117000_1.length co87, .int .i64 x117001_1, .int .i64 x117002_1, .int .i64 x117003_1, .int .i64 x117004_1] 26 (0, 0))) ∧ (IsS54 w0 w' g s0_0 t36 t37) ∧ (KeepBut w w' g none) ∧ (Below w0.heap.size w0 w')) ?_ ?_
          rotate_left
          ·intro hJ3_6
           refine join_ (σ := Value × Value) 9 (Bt 16 815) (fun s_ => [(53, s_.1), (59, s_.2)]) (fun s_ w' => (H5 g16 (.slice Ao87 x117000_1.length co87) (.int .i64 x117001_1) (.int .i64 x117002_1) (.int .i64 x117003_1) (.int .i64 x117004_1) w') ∧ (Kd.R (Kd.int .i64) 3 w' w.heap.size (fun k_ => some k_ ≠ (s_.2 : Value).ownBlock) s_.1 y50) ∧ (Kd.R (Kd.int .i64) 3 w' w.heap.size (fun k_ => some k_ ≠ (s_.1 : Value).ownBlock) s_.2 y62) ∧ (Kd.R k33 33 w' w.heap.size (fun _ => True) (.slice Ao87 x117000_1.length co87) x117000_1) ∧ (w'.heap[g1]? = some (.cells #[.slice none 0 0, .int .i64 0, .int .i64 0, .int .i64 0, .int .i64 0] 26 (0, 0))) ∧ (w'.heap[g16]? = some (.cells #[.slice Ao87 x117000_1.length co87, .int .i64 x117001_1, .int .i64 x117002_1, .int .i64 x117003_1, .int .i64 x117004_1] 26 (0, 0))) ∧ (IsS54 w0 w' g s0_0 t36 t37) ∧ (KeepBut w w' g none) ∧ (Below w0.heap.size w0 w')) ?_ ?_
           rotate_left
           ·intro hJ3_9
            refine join_ (σ := Value × Value) 9 (Bt 16 871) (fun s_ => [(56, s_.1), (59, s_.2)]) (fun s_ w' => (H5 g16 (.slice Ao87 x117000_1.length co87) (.int .i64 x117001_1) (.int .i64 x117002_1) (.int .i64 x117003_1) (.int .i64 x117004_1) w') ∧ (Kd.R (Kd.int .i64) 3 w' w.heap.size (fun k_ => some k_ ≠ (s_.2 : Value).ownBlock) s_.1 y56) ∧ (Kd.R (Kd.int .i64) 3 w' w.heap.size (fun k_ => some k_ ≠ (s_.1 : Value).ownBlock) s_.2 y62) ∧ (Kd.R k33 33 w' w.heap.size (fun _ => True) (.slice Ao87 x117000_1.length co87) x117000_1) ∧ (w'.heap[g1]? = some (.cells #[.slice none 0 0, .int .i64 0, .int .i64 0, .int .i64 0, .int .i64 0] 26 (0, 0))) ∧ (w'.heap[g16]? = some (.cells #[.slice Ao87 x117000_1.length co87, .int .i64 x117001_1, .int .i64 x117002_1, .int .i64 x117003_1, .int .i64 x117004_1] 26 (0, 0))) ∧ (IsS54 w0 w' g s0_0 t36 t37) ∧ (KeepBut w w' g none) ∧ (Below w0.heap.size w0 w')) ?_ ?_
            rotate_left
            ·intro hJ6_9
             refine join_ (σ := Value) 10 (Bt 16 303) (fun s_ => [(53, s_)]) (fun s_ w' => (H5 g16 (.slice Ao87 x117000_1.length co87) (.int .i64 x117001_1) (.int .i64 x117002_1) (.int .i64 x117003_1) (.int .i64 x117004_1) w') ∧ (Kd.R (Kd.int .i64) 3 w' w.heap.size (fun _ => True) s_ y50) ∧ (Kd.R k33 33 w' w.heap.size (fun _ => True) (.slice Ao87 x117000_1.length co87) x117000_1) ∧ (w'.heap[g1]? = some (.cells #[.slice none 0 0, .int .i64 0, .int .i64 0, .int .i64 0, .int .i64 0] 26 (0, 0))) ∧ (w'.heap[g16]? = some (.cells #[.slice Ao87 x117000_1.length co87, .int .i64 x117001_1, .int .i64 x117002_1, .int .i64 x117003_1, .int .i64 x117004_1] 26 (0, 0))) ∧ (IsS54 w0 w' g s0_0 t36 t37) ∧ (KeepBut w w' g none) ∧ (Below w0.heap.size w0 w')) ?_ ?_
             rotate_left
             ·intro hJ3
              refine join_ (σ := Value) 10 (Bt 16 359) (fun s_ => [(56, s_)]) (fun s_ w' => (H5 g16 (.slice Ao87 x117000_1.length co87) (.int .i64 x117001_1) (.int .i64 x117002_1) (.int .i64 x117003_1) (.int .i64 x117004_1) w') ∧ (Kd.R (Kd.int .i64) 3 w' w.heap.size (fun _ => True) s_ y56) ∧ (Kd.R k33 33 w' w.heap.size (fun _ => True) (.slice Ao87 x117000_1.length co87) x117000_1) ∧ (w'.heap[g1]? = some (.cells #[.slice none 0 0, .int .i64 0, .int .i64 0, .int .i64 0, .int .i64 0] 26 (0, 0))) ∧ (w'.heap[g16]? = some (.cells #[.slice Ao87 x117000_1.length co87, .int .i64 x117001_1, .int .i64 x117002_1, .int .i64 x117003_1, .int .i64 x117004_1] 26 (0, 0))) ∧ (IsS54 w0 w' g s0_0 t36 t37) ∧ (KeepBut w w' g none) ∧ (Below w0.heap.size w0 w')) ?_ ?_
              rotate_left
              ·intro hJ6
               refine join_ (σ := Value) 10 (Bt 16 807) (fun s_ => [(59, s_)]) (fun s_ w' => (H5 g16 (.slice Ao87 x117000_1.length co87) (.int .i64 x117001_1) (.int .i64 x117002_1) (.int .i64 x117003_1) (.int .i64 x117004_1) w') ∧ (Kd.R (Kd.int .i64) 3 w' w.heap.size (fun _ => True) s_ y62) ∧ (Kd.R k33 33 w' w.heap.size (fun _ => True) (.slice Ao87 x117000_1.length co87) x117000_1) ∧ (w'.heap[g1]? = some (.cells #[.slice none 0 0, .int .i64 0, .int .i64 0, .int .i64 0, .int .i64 0] 26 (0, 0))) ∧ (w'.heap[g16]? = some (.cells #[.slice Ao87 x117000_1.length co87, .int .i64 x117001_1, .int .i64 x117002_1, .int .i64 x117003_1, .int .i64 x117004_1] 26 (0, 0))) ∧ (IsS54 w0 w' g s0_0 t36 t37) ∧ (KeepBut w w' g none) ∧ (Below w0.heap.size w0 w')) ?_ ?_
               rotate_left
               ·intro hJ9
                refine th 3 6 9 (fun K hK => ?_) (fun K hK => ?_) (fun K hK => ?_)
                ·skip
                 refine Kd.R_lit_step (Kd.int .i64) _ 3 ?hg (N := 53) ?hd (xs := ([0, 1, 998] : List Int)) (inner := [.int .i64 0, .int .i64 1, .int .i64 998]) (ok := fun _ => True) (okp := fun _ => True) ?hr ?hp (fun _ hk => hk) trivial (Below.refl _ _) (Nat.le_refl _) (by simp) ?_
                 (case hd => rfl)
                 (case hg => rfl)
                 (case hr => first | (go_simp; done) | (go_simp; rfl))
                 (case hp => exact Rz)
                 intro v51 w89 ho90 hb hg_ hnew_
                 clear hg_ hnew_
                 (first | rw [← Ny50.out] at ho90 | (simp only [Int.reduceToNat] at ho90; rw [← Ny50.out] at ho90))
                 have R52 := Ak (Kd.R_lower ho90 (keep_size (w := w) (g := g) (row := none) (by exact Ho.kS HK.out)))
                 replace R_117000 := rT R_117000 hb
                 replace B1 := kT B1 hb
                 replace B16 := kT B16 hb
                 replace HI0 := Ak (IsS54.below (by exact IsS54.below HI0.out Ho.Steps.below) hb)
                 replace HK := hT HK hb
                 replace HB := bT HB hb
                 clear hb ho90
                 refine hK.out _ _ (h5 B16) (fun hHeld => ?_)
                 clear hK K
                 refine nO 53 ?_
                 exact norm_ Ny (hJ3 (v51) _ ⟨hHeld, rs R52, rs R_117000, ks B1, ks B16, (by exact IsS54.below HI0.out Ho.Steps.below), (by exact Ho.kS HK.out), es HB⟩)
                ·skip
                 refine Kd.R_lit_step (Kd.int .i64) _ 3 ?hg (N := 56) ?hd (xs := ([0, 6] : List Int)) (inner := [.int .i64 0, .int .i64 6]) (ok := fun _ => True) (okp := fun _ => True) ?hr ?hp (fun _ hk => hk) trivial (Below.refl _ _) (Nat.le_refl _) (by simp) ?_
                 (case hd => rfl)
                 (case hg => rfl)
                 (case hr => first | (go_simp; done) | (go_simp; rfl))
                 (case hp => exact Rz)
                 intro v57 w89 ho90 hb hg_ hnew_
                 clear hg_ hnew_
                 (first | rw [← Ny56.out] at ho90 | (simp only [Int.reduceToNat] at ho90; rw [← Ny56.out] at ho90))
                 have R58 := Ak (Kd.R_lower ho90 (keep_size (w := w) (g := g) (row := none) (by exact Ho.kS HK.out)))
                 replace R_117000 := rT R_117000 hb
                 replace B1 := kT B1 hb
                 replace B16 := kT B16 hb
                 replace HI0 := Ak (IsS54.below (by exact IsS54.below HI0.out Ho.Steps.below) hb)
                 replace HK := hT HK hb
                 replace HB := bT HB hb
                 clear hb ho90
                 refine hK.out _ _ (h5 B16) (fun hHeld => ?_)
                 clear hK K
                 refine nO 56 ?_
                 exact norm_ Ny (hJ6 (v57) _ ⟨hHeld, rs R58, rs R_117000, ks B1, ks B16, (by exact IsS54.below HI0.out Ho.Steps.below), (by exact Ho.kS HK.out), es HB⟩)
                ·skip
                 refine Kd.R_lit_step (Kd.int .i64) _ 3 ?hg (N := 59) ?hd (xs := ([0, 5] : List Int)) (inner := [.int .i64 0, .int .i64 5]) (ok := fun _ => True) (okp := fun _ => True) ?hr ?hp (fun _ hk => hk) trivial (Below.refl _ _) (Nat.le_refl _) (by simp) ?_
                 (case hd => rfl)
                 (case hg => rfl)
                 (case hr => first | (go_simp; done) | (go_simp; rfl))
                 (case hp => exact Rz)
                 intro v63 w89 ho90 hb hg_ hnew_
                 clear hg_ hnew_
                 (first | rw [← Ny62.out] at ho90 | (simp only [Int.reduceToNat] at ho90; rw [← Ny62.out] at ho90))
                 have R64 := Ak (Kd.R_lower ho90 (keep_size (w := w) (g := g) (row := none) (by exact Ho.kS HK.out)))
                 replace R_117000 := rT R_117000 hb
                 replace B1 := kT B1 hb
                 replace B16 := kT B16 hb
                 replace HI0 := Ak (IsS54.below (by exact IsS54.below HI0.out Ho.Steps.below) hb)
                 replace HK := hT HK hb
                 replace HB := bT HB hb
                 clear hb ho90
                 refine hK.out _ _ (h5 B16) (fun hHeld => ?_)
                 clear hK K
                 refine nO 59 ?_
                 exact norm_ Ny (hJ9 (v63) _ ⟨hHeld, rs R64, rs R_117000, ks B1, ks B16, (by exact IsS54.below HI0.out Ho.Steps.below), (by exact Ho.kS HK.out), es HB⟩)
               ·skip
                rintro v63 w91 ⟨hS_, h0_, h1_, h2_, h3_, h4_, h5_, h6_⟩
                have R64 := Ak h0_
                replace R_117000 := Ak h1_
                replace B1 := Ak h2_
                replace B16 := Ak h3_
                replace HI0 := Ak h4_
                replace HK := Ak h5_
                replace HB := Ak h6_
                clear h0_ h1_ h2_ h3_ h4_ h5_ h6_
                have hHeld := hS_
                refine nQ ?_
                refine tw 3 6 (fun K hK => ?_) (fun K hK => ?_)
                ·skip
                 refine Kd.R_lit_step (Kd.int .i64) _ 3 ?hg (N := 53) ?hd (xs := ([0, 1, 998] : List Int)) (inner := [.int .i64 0, .int .i64 1, .int .i64 998]) (ok := fun _ => True) (okp := fun _ => True) ?hr ?hp (fun _ hk => hk) trivial (Below.refl _ _) (Nat.le_refl _) (by simp) ?_
                 (case hd => rfl)
                 (case hg => rfl)
                 (case hr => first | (go_simp; done) | (go_simp; rfl))
                 (case hp => exact Rz)
                 intro v51 w92 ho93 hb hg_ hnew_
                 clear hg_ hnew_
                 (first | rw [← Ny50.out] at ho93 | (simp only [Int.reduceToNat] at ho93; rw [← Ny50.out] at ho93))
                 have R52 := Ak (Kd.R_lower (Kd.R_new' ho93 (Kd.R_lt (by exact Ho.RS <| R64.out))) (keep_size (w := w) (g := g) (row := none) (by exact Ho.kS HK.out)))
                 replace R_117000 := rT R_117000 hb
                 replace R64 := el R64 ho93 hb
                 replace B1 := kT B1 hb
                 replace B16 := kT B16 hb
                 replace HI0 := Ak (IsS54.below (by exact IsS54.below HI0.out Ho.Steps.below) hb)
                 replace HK := hT HK hb
                 replace HB := bT HB hb
                 clear hb ho93
                 refine hK.out _ _ (h5 B16) (fun hHeld => ?_)
                 clear hK K
                 refine nO 53 ?_
                 exact norm_ Ny (hJ3_9 (v51, v63) _ ⟨hHeld, Ho.RS (Kd.R_mono R52.out (fun _ hk => hk.2)), Ho.RS (Kd.R_mono R64.out (fun _ hk => hk.2)), rs R_117000, ks B1, ks B16, (by exact IsS54.below HI0.out Ho.Steps.below), (by exact Ho.kS HK.out), es HB⟩)
                ·skip
                 refine Kd.R_lit_step (Kd.int .i64) _ 3 ?hg (N := 56) ?hd (xs := ([0, 6] : List Int)) (inner := [.int .i64 0, .int .i64 6]) (ok := fun _ => True) (okp := fun _ => True) ?hr ?hp (fun _ hk => hk) trivial (Below.refl _ _) (Nat.le_refl _) (by simp) ?_
                 (case hd => rfl)
                 (case hg => rfl)
                 (case hr => first | (go_simp; done) | (go_simp; rfl))
                 (case hp => exact Rz)
                 intro v57 w92 ho93 hb hg_ hnew_
                 clear hg_ hnew_
                 (first | rw [← Ny56.out] at ho93 | (simp only [Int.reduceToNat] at ho93; rw [← Ny56.out] at ho93))
                 have R58 := Ak (Kd.R_lower (Kd.R_new' ho93 (Kd.R_lt (by exact Ho.RS <| R64.out))) (keep_size (w := w) (g := g) (row := none) (by exact Ho.kS HK.out)))
                 replace R_117000 := rT R_117000 hb
                 replace R64 := el R64 ho93 hb
                 replace B1 := kT B1 hb
                 replace B16 := kT B16 hb
                 replace HI0 := Ak (IsS54.below (by exact IsS54.below HI0.out Ho.Steps.below) hb)
                 replace HK := hT HK hb
                 replace HB := bT HB hb
                 clear hb ho93
                 refine hK.out _ _ (h5 B16) (fun hHeld => ?_)
                 clear hK K
                 refine nO 56 ?_
                 exact norm_ Ny (hJ6_9 (v57, v63) _ ⟨hHeld, Ho.RS (Kd.R_mono R58.out (fun _ hk => hk.2)), Ho.RS (Kd.R_mono R64.out (fun _ hk => hk.2)), rs R_117000, ks B1, ks B16, (by exact IsS54.below HI0.out Ho.Steps.below), (by exact Ho.kS HK.out), es HB⟩)
              ·skip
               rintro v57 w91 ⟨hS_, h0_, h1_, h2_, h3_, h4_, h5_, h6_⟩
               have R58 := Ak h0_
               replace R_117000 := Ak h1_
               replace B1 := Ak h2_
               replace B16 := Ak h3_
               replace HI0 := Ak h4_
               replace HK := Ak h5_
               replace HB := Ak h6_
               clear h0_ h1_ h2_ h3_ h4_ h5_ h6_
               have hHeld := hS_
               refine nQ ?_
               refine tw 3 9 (fun K hK => ?_) (fun K hK => ?_)
               ·skip
                refine Kd.R_lit_step (Kd.int .i64) _ 3 ?hg (N := 53) ?hd (xs := ([0, 1, 998] : List Int)) (inner := [.int .i64 0, .int .i64 1, .int .i64 998]) (ok := fun _ => True) (okp := fun _ => True) ?hr ?hp (fun _ hk => hk) trivial (Below.refl _ _) (Nat.le_refl _) (by simp) ?_
                (case hd => rfl)
                (case hg => rfl)
                (case hr => first | (go_simp; done) | (go_simp; rfl))
                (case hp => exact Rz)
                intro v51 w92 ho93 hb hg_ hnew_
                clear hg_ hnew_
                (first | rw [← Ny50.out] at ho93 | (simp only [Int.reduceToNat] at ho93; rw [← Ny50.out] at ho93))
                have R52 := Ak (Kd.R_lower (Kd.R_new' ho93 (Kd.R_lt (by exact Ho.RS <| R58.out))) (keep_size (w := w) (g := g) (row := none) (by exact Ho.kS HK.out)))
                replace R_117000 := rT R_117000 hb
                replace R58 := el R58 ho93 hb
                replace B1 := kT B1 hb
                replace B16 := kT B16 hb
                replace HI0 := Ak (IsS54.below (by exact IsS54.below HI0.out Ho.Steps.below) hb)
                replace HK := hT HK hb
                replace HB := bT HB hb
                clear hb ho93
                refine hK.out _ _ (h5 B16) (fun hHeld => ?_)
                clear hK K
                refine nO 53 ?_
                exact norm_ Ny (hJ3_6 (v51, v57) _ ⟨hHeld, Ho.RS (Kd.R_mono R52.out (fun _ hk => hk.2)), Ho.RS (Kd.R_mono R58.out (fun _ hk => hk.2)), rs R_117000, ks B1, ks B16, (by exact IsS54.below HI0.out Ho.Steps.below), (by exact Ho.kS HK.out), es HB⟩)
               ·skip
                refine Kd.R_lit_step (Kd.int .i64) _ 3 ?hg (N := 59) ?hd (xs := ([0, 5] : List Int)) (inner := [.int .i64 0, .int .i64 5]) (ok := fun _ => True) (okp := fun _ => True) ?hr ?hp (fun _ hk => hk) trivial (Below.refl _ _) (Nat.le_refl _) (by simp) ?_
                (case hd => rfl)
                (case hg => rfl)
                (case hr => first | (go_simp; done) | (go_simp; rfl))
                (case hp => exact Rz)
                intro v63 w92 ho93 hb hg_ hnew_
                clear hg_ hnew_
                (first | rw [← Ny62.out] at ho93 | (simp only [Int.reduceToNat] at ho93; rw [← Ny62.out] at ho93))
                have R64 := Ak (Kd.R_lower (Kd.R_new' ho93 (Kd.R_lt (by exact Ho.RS <| R58.out))) (keep_size (w := w) (g := g) (row := none) (by exact Ho.kS HK.out)))
                replace R_117000 := rT R_117000 hb
                replace R58 := el R58 ho93 hb
                replace B1 := kT B1 hb
                replace B16 := kT B16 hb
                replace HI0 := Ak (IsS54.below (by exact IsS54.below HI0.out Ho.Steps.below) hb)
                replace HK := hT HK hb
                replace HB := bT HB hb
                clear hb ho93
                refine hK.out _ _ (h5 B16) (fun hHeld => ?_)
                clear hK K
                refine nO 59 ?_
                exact norm_ Ny (hJ6_9 (v57, v63) _ ⟨hHeld, Ho.RS (Kd.R_mono R58.out (fun _ hk => hk.2)), Ho.RS (Kd.R_mono R64.out (fun _ hk => hk.2)), rs R_117000, ks B1, ks B16, (by exact IsS54.below HI0.out Ho.Steps.below), (by exact Ho.kS HK.out), es HB⟩)
             ·skip
              rintro v51 w91 ⟨hS_, h0_, h1_, h2_, h3_, h4_, h5_, h6_⟩
              have R52 := Ak h0_
              replace R_117000 := Ak h1_
              replace B1 := Ak h2_
              replace B16 := Ak h3_
              replace HI0 := Ak h4_
              replace HK := Ak h5_
              replace HB := Ak h6_
              clear h0_ h1_ h2_ h3_ h4_ h5_ h6_
              have hHeld := hS_
              obtain ⟨Ao92, co92, eo92⟩ := Kd.R_slice R52.out
              (first | subst eo92 | (injection eo92 with f1_ f2_ f3_; have f4_ := f1_.symm; have f5_ := f3_.symm; clear f1_ f2_ f3_; subst f4_; subst f5_))
              refine nQ ?_
              refine th 4 6 9 (fun K hK => ?_) (fun K hK => ?_) (fun K hK => ?_)
              ·skip
               refine gO Tryz.func49 #[.pointer (some ⟨g, 0, none⟩), .slice Ao92 y50.length co92] ?_
               with_reducible refine (Fm.calls g s0_0 t36 t37 _ _ y50 t53 t54 t55 w0 _ ?side1 ?side2 ?side3 ?side4 ?side5 A82.out).mono ?_
               (case side1 => exact IsS54.below HI0.out Ho.Steps.below)
               (case side2 => exact eS HB.out)
               (case side3 => exact Cs (Kd.R_reads' R52.out).2.2)
               (case side4 => exact (Kd.R_reads' R52.out).2.1)
               (case side5 => exact far_slice (IsS54.own_ne HI0.out R52.out (by decide)))
               rintro e w93 ⟨rfl, hi, hb, hk⟩
               refine ⟨_, rfl, ?_⟩
               replace R_117000 := Ak (Kd.R_mono (Kd.R_keep (IsS54.apart (show IsS54 w0 _ g s0_0 t36 t37 from by exact IsS54.below HI0.out Ho.Steps.below) (by exact Ho.RS <| R_117000.out) (by decide)) hk (fun _ h => h.2)) (fun _ h => h.1))
               replace B1 := kK B1 hk N1_0
               replace B16 := kK B16 hk N16_0
               replace R52 := Ak (Kd.R_mono (Kd.R_keep (IsS54.apart (show IsS54 w0 _ g s0_0 t36 t37 from by exact IsS54.below HI0.out Ho.Steps.below) (by exact Ho.RS <| R52.out) (by decide)) hk (fun _ h => h.2)) (fun _ h => h.1))
               replace HK := hU HK hk
               replace HB := Ak hb
               replace HI0 := Ak hi
               clear hb hk hi
               refine hK.out _ _ (h5 B16) (fun hHeld => ?_)
               clear hK K
               refine nO 54 ?_
               exact norm_ Ny (hJ3_4 (.slice Ao92 y50.length co92) _ ⟨hHeld, rs R52, rs R_117000, ks B1, ks B16, (by exact IsS54.below HI0.out Ho.Steps.below), (by exact Ho.kS HK.out), es HB⟩)
              ·skip
               refine Kd.R_lit_step (Kd.int .i64) _ 3 ?hg (N := 56) ?hd (xs := ([0, 6] : List Int)) (inner := [.int .i64 0, .int .i64 6]) (ok := fun _ => True) (okp := fun _ => True) ?hr ?hp (fun _ hk => hk) trivial (Below.refl _ _) (Nat.le_refl _) (by simp) ?_
               (case hd => rfl)
               (case hg => rfl)
               (case hr => first | (go_simp; done) | (go_simp; rfl))
               (case hp => exact Rz)
               intro v57 w92 ho93 hb hg_ hnew_
               clear hg_ hnew_
               (first | rw [← Ny56.out] at ho93 | (simp only [Int.reduceToNat] at ho93; rw [← Ny56.out] at ho93))
               have R58 := Ak (Kd.R_lower (Kd.R_new' ho93 (Kd.R_lt (by exact Ho.RS <| R52.out))) (keep_size (w := w) (g := g) (row := none) (by exact Ho.kS HK.out)))
               replace R_117000 := rT R_117000 hb
               replace R52 := el R52 ho93 hb
               replace B1 := kT B1 hb
               replace B16 := kT B16 hb
               replace HI0 := Ak (IsS54.below (by exact IsS54.below HI0.out Ho.Steps.below) hb)
               replace HK := hT HK hb
               replace HB := bT HB hb
               clear hb ho93
               refine hK.out _ _ (h5 B16) (fun hHeld => ?_)
               clear hK K
               refine nO 56 ?_
               exact norm_ Ny (hJ3_6 ((.slice Ao92 y50.length co92), v57) _ ⟨hHeld, Ho.RS (Kd.R_mono R52.out (fun _ hk => hk.2)), Ho.RS (Kd.R_mono R58.out (fun _ hk => hk.2)), rs R_117000, ks B1, ks B16, (by exact IsS54.below HI0.out Ho.Steps.below), (by exact Ho.kS HK.out), es HB⟩)
              ·skip
               refine Kd.R_lit_step (Kd.int .i64) _ 3 ?hg (N := 59) ?hd (xs := ([0, 5] : List Int)) (inner := [.int .i64 0, .int .i64 5]) (ok := fun _ => True) (okp := fun _ => True) ?hr ?hp (fun _ hk => hk) trivial (Below.refl _ _) (Nat.le_refl _) (by simp) ?_
               (case hd => rfl)
               (case hg => rfl)
               (case hr => first | (go_simp; done) | (go_simp; rfl))
               (case hp => exact Rz)
               intro v63 w92 ho93 hb hg_ hnew_
               clear hg_ hnew_
               (first | rw [← Ny62.out] at ho93 | (simp only [Int.reduceToNat] at ho93; rw [← Ny62.out] at ho93))
               have R64 := Ak (Kd.R_lower (Kd.R_new' ho93 (Kd.R_lt (by exact Ho.RS <| R52.out))) (keep_size (w := w) (g := g) (row := none) (by exact Ho.kS HK.out)))
               replace R_117000 := rT R_117000 hb
               replace R52 := el R52 ho93 hb
               replace B1 := kT B1 hb
               replace B16 := kT B16 hb
               replace HI0 := Ak (IsS54.below (by exact IsS54.below HI0.out Ho.Steps.below) hb)
               replace HK := hT HK hb
               replace HB := bT HB hb
               clear hb ho93
               refine hK.out _ _ (h5 B16) (fun hHeld => ?_)
               clear hK K
               refine nO 59 ?_
               exact norm_ Ny (hJ3_9 ((.slice Ao92 y50.length co92), v63) _ ⟨hHeld, Ho.RS (Kd.R_mono R52.out (fun _ hk => hk.2)), Ho.RS (Kd.R_mono R64.out (fun _ hk => hk.2)), rs R_117000, ks B1, ks B16, (by exact IsS54.below HI0.out Ho.Steps.below), (by exact Ho.kS HK.out), es HB⟩)
            ·skip
             rintro ⟨v57, v63⟩ w93 ⟨hS_, h0_, h1_, h2_, h3_, h4_, h5_, h6_, h7_⟩
             have R58 := Ak h0_
             have R64 := Ak h1_
             replace R_117000 := Ak h2_
             replace B1 := Ak h3_
             replace B16 := Ak h4_
             replace HI0 := Ak h5_
             replace HK := Ak h6_
             replace HB := Ak h7_
             clear h0_ h1_ h2_ h3_ h4_ h5_ h6_ h7_
             have hHeld := hS_
             refine nQ ?_
             refine oN 3 fun K hK => ?_
             refine Kd.R_lit_step (Kd.int .i64) _ 3 ?hg (N := 53) ?hd (xs := ([0, 1, 998] : List Int)) (inner := [.int .i64 0, .int .i64 1, .int .i64 998]) (ok := fun _ => True) (okp := fun _ => True) ?hr ?hp (fun _ hk => hk) trivial (Below.refl _ _) (Nat.le_refl _) (by simp) ?_
             (case hd => rfl)
             (case hg => rfl)
             (case hr => first | (go_simp; done) | (go_simp; rfl))
             (case hp => exact Rz)
             intro v51 w94 ho95 hb hg_ hnew_
             clear hg_ hnew_
             (first | rw [← Ny50.out] at ho95 | (simp only [Int.reduceToNat] at ho95; rw [← Ny50.out] at ho95))
             have R52 := Ak (Kd.R_lower (Kd.R_new' (Kd.R_new' ho95 (Kd.R_lt (by exact Ho.RS <| R58.out))) (Kd.R_lt (by exact Ho.RS <| R64.out))) (keep_size (w := w) (g := g) (row := none) (by exact Ho.kS HK.out)))
             replace R_117000 := rT R_117000 hb
             replace R58 := el R58 ho95 hb
             replace R64 := el R64 ho95 hb
             replace B1 := kT B1 hb
             replace B16 := kT B16 hb
             replace HI0 := Ak (IsS54.below (by exact IsS54.below HI0.out Ho.Steps.below) hb)
             replace HK := hT HK hb
             replace HB := bT HB hb
             clear hb ho95
             refine hK.out _ _ (h5 B16) (fun hHeld => ?_)
             clear hK K
             refine nO 53 ?_
             exact norm_ Ny (hJ3_6_9 (v51, v57, v63) _ ⟨hHeld, Ho.RS (Kd.R_mono R52.out (fun _ hk => ⟨hk.1.2, hk.2⟩)), Ho.RS (Kd.R_mono R58.out (fun _ hk => ⟨hk.2, hk.1⟩)), Ho.RS (Kd.R_mono R64.out (fun _ hk => ⟨hk.2, hk.1⟩)), rs R_117000, ks B1, ks B16, (by exact IsS54.below HI0.out Ho.Steps.below), (by exact Ho.kS HK.out), es HB⟩)
           ·skip
            rintro ⟨v51, v63⟩ w93 ⟨hS_, h0_, h1_, h2_, h3_, h4_, h5_, h6_, h7_⟩
            have R52 := Ak h0_
            have R64 := Ak h1_
            replace R_117000 := Ak h2_
            replace B1 := Ak h3_
            replace B16 := Ak h4_
            replace HI0 := Ak h5_
            replace HK := Ak h6_
            replace HB := Ak h7_
            clear h0_ h1_ h2_ h3_ h4_ h5_ h6_ h7_
            have hHeld := hS_
            obtain ⟨Ao94, co94, eo94⟩ := Kd.R_slice R52.out
            (first | subst eo94 | (injection eo94 with f1_ f2_ f3_; have f4_ := f1_.symm; have f5_ := f3_.symm; clear f1_ f2_ f3_; subst f4_; subst f5_))
            refine nQ ?_
            refine tw 4 6 (fun K hK => ?_) (fun K hK => ?_)
            ·skip
             refine gO Tryz.func49 #[.pointer (some ⟨g, 0, none⟩), .slice Ao94 y50.length co94] ?_
             with_reducible refine (Fm.calls g s0_0 t36 t37 _ _ y50 t53 t54 t55 w0 _ ?side1 ?side2 ?side3 ?side4 ?side5 A82.out).mono ?_
             (case side1 => exact IsS54.below HI0.out Ho.Steps.below)
             (case side2 => exact eS HB.out)
             (case side3 => exact Cs (Kd.R_reads' R52.out).2.2)
             (case side4 => exact (Kd.R_reads' R52.out).2.1)
             (case side5 => exact far_slice (IsS54.own_ne HI0.out R52.out (by decide)))
             rintro e w95 ⟨rfl, hi, hb, hk⟩
             refine ⟨_, rfl, ?_⟩
             replace R_117000 := Ak (Kd.R_mono (Kd.R_keep (IsS54.apart (show IsS54 w0 _ g s0_0 t36 t37 from by exact IsS54.below HI0.out Ho.Steps.below) (by exact Ho.RS <| R_117000.out) (by decide)) hk (fun _ h => h.2)) (fun _ h => h.1))
             replace B1 := kK B1 hk N1_0
             replace B16 := kK B16 hk N16_0
             replace R52 := Ak (Kd.R_mono (Kd.R_keep (IsS54.apart (show IsS54 w0 _ g s0_0 t36 t37 from by exact IsS54.below HI0.out Ho.Steps.below) (by exact Ho.RS <| R52.out) (by decide)) hk (fun _ h => h.2)) (fun _ h => h.1))
             replace R64 := Ak (Kd.R_mono (Kd.R_keep (IsS54.apart (show IsS54 w0 _ g s0_0 t36 t37 from by exact IsS54.below HI0.out Ho.Steps.below) (by exact Ho.RS <| R64.out) (by decide)) hk (fun _ h => h.2)) (fun _ h => h.1))
             replace HK := hU HK hk
             replace HB := Ak hb
             replace HI0 := Ak hi
             clear hb hk hi
             refine hK.out _ _ (h5 B16) (fun hHeld => ?_)
             clear hK K
             refine nO 54 ?_
             exact norm_ Ny (hJ3_4_9 (.slice Ao94 y50.length co94, v63) _ ⟨hHeld, rs R52, rs R64, rs R_117000, ks B1, ks B16, (by exact IsS54.below HI0.out Ho.Steps.below), (by exact Ho.kS HK.out), es HB⟩)
            ·skip
             refine Kd.R_lit_step (Kd.int .i64) _ 3 ?hg (N := 56) ?hd (xs := ([0, 6] : List Int)) (inner := [.int .i64 0, .int .i64 6]) (ok := fun _ => True) (okp := fun _ => True) ?hr ?hp (fun _ hk => hk) trivial (Below.refl _ _) (Nat.le_refl _) (by simp) ?_
             (case hd => rfl)
             (case hg => rfl)
             (case hr => first | (go_simp; done) | (go_simp; rfl))
             (case hp => exact Rz)
             intro v57 w94 ho95 hb hg_ hnew_
             clear hg_ hnew_
             (first | rw [← Ny56.out] at ho95 | (simp only [Int.reduceToNat] at ho95; rw [← Ny56.out] at ho95))
             have R58 := Ak (Kd.R_lower (Kd.R_new' (Kd.R_new' ho95 (Kd.R_lt (by exact Ho.RS <| R52.out))) (Kd.R_lt (by exact Ho.RS <| R64.out))) (keep_size (w := w) (g := g) (row := none) (by exact Ho.kS HK.out)))
             replace R_117000 := rT R_117000 hb
             replace R52 := el R52 ho95 hb
             replace R64 := el R64 ho95 hb
             replace B1 := kT B1 hb
             replace B16 := kT B16 hb
             replace HI0 := Ak (IsS54.below (by exact IsS54.below HI0.out Ho.Steps.below) hb)
             replace HK := hT HK hb
             replace HB := bT HB hb
             clear hb ho95
             refine hK.out _ _ (h5 B16) (fun hHeld => ?_)
             clear hK K
             refine nO 56 ?_
             exact norm_ Ny (hJ3_6_9 ((.slice Ao94 y50.length co94), v57, v63) _ ⟨hHeld, Ho.RS (Kd.R_mono R52.out (fun _ hk => ⟨hk.2, hk.1⟩)), Ho.RS (Kd.R_mono R58.out (fun _ hk => ⟨hk.1.2, hk.2⟩)), rs R64, rs R_117000, ks B1, ks B16, (by exact IsS54.below HI0.out Ho.Steps.below), (by exact Ho.kS HK.out), es HB⟩)
          ·skip
           rintro ⟨v51, v57⟩ w93 ⟨hS_, h0_, h1_, h2_, h3_, h4_, h5_, h6_, h7_⟩
           have R52 := Ak h0_
           have R58 := Ak h1_
           replace R_117000 := Ak h2_
           replace B1 := Ak h3_
           replace B16 := Ak h4_
           replace HI0 := Ak h5_
           replace HK := Ak h6_
           replace HB := Ak h7_
           clear h0_ h1_ h2_ h3_ h4_ h5_ h6_ h7_
           have hHeld := hS_
           obtain ⟨Ao94, co94, eo94⟩ := Kd.R_slice R52.out
           (first | subst eo94 | (injection eo94 with f1_ f2_ f3_; have f4_ := f1_.symm; have f5_ := f3_.symm; clear f1_ f2_ f3_; subst f4_; subst f5_))
           refine nQ ?_
           refine tw 4 9 (fun K hK => ?_) (fun K hK => ?_)
           ·skip
            refine gO Tryz.func49 #[.pointer (some ⟨g, 0, none⟩), .slice Ao94 y50.length co94] ?_
            with_reducible refine (Fm.calls g s0_0 t36 t37 _ _ y50 t53 t54 t55 w0 _ ?side1 ?side2 ?side3 ?side4 ?side5 A82.out).mono ?_
            (case side1 => exact IsS54.below HI0.out Ho.Steps.below)
            (case side2 => exact eS HB.out)
            (case side3 => exact Cs (Kd.R_reads' R52.out).2.2)
            (case side4 => exact (Kd.R_reads' R52.out).2.1)
            (case side5 => exact far_slice (IsS54.own_ne HI0.out R52.out (by decide)))
            rintro e w95 ⟨rfl, hi, hb, hk⟩
            refine ⟨_, rfl, ?_⟩
            replace R_117000 := Ak (Kd.R_mono (Kd.R_keep (IsS54.apart (show IsS54 w0 _ g s0_0 t36 t37 from by exact IsS54.below HI0.out Ho.Steps.below) (by exact Ho.RS <| R_117000.out) (by decide)) hk (fun _ h => h.2)) (fun _ h => h.1))
            replace B1 := kK B1 hk N1_0
            replace B16 := kK B16 hk N16_0
            replace R52 := Ak (Kd.R_mono (Kd.R_keep (IsS54.apart (show IsS54 w0 _ g s0_0 t36 t37 from by exact IsS54.below HI0.out Ho.Steps.below) (by exact Ho.RS <| R52.out) (by decide)) hk (fun _ h => h.2)) (fun _ h => h.1))
            replace R58 := Ak (Kd.R_mono (Kd.R_keep (IsS54.apart (show IsS54 w0 _ g s0_0 t36 t37 from by exact IsS54.below HI0.out Ho.Steps.below) (by exact Ho.RS <| R58.out) (by decide)) hk (fun _ h => h.2)) (fun _ h => h.1))
            replace HK := hU HK hk
            replace HB := Ak hb
            replace HI0 := Ak hi
            clear hb hk hi
            refine hK.out _ _ (h5 B16) (fun hHeld => ?_)
            clear hK K
            refine nO 54 ?_
            exact norm_ Ny (hJ3_4_6 (.slice Ao94 y50.length co94, v57) _ ⟨hHeld, rs R52, rs R58, rs R_117000, ks B1, ks B16, (by exact IsS54.below HI0.out Ho.Steps.below), (by exact Ho.kS HK.out), es HB⟩)
           ·skip
            refine Kd.R_lit_step (Kd.int .i64) _ 3 ?hg (N := 59) ?hd (xs := ([0, 5] : List Int)) (inner := [.int .i64 0, .int .i64 5]) (ok := fun _ => True) (okp := fun _ => True) ?hr ?hp (fun _ hk => hk) trivial (Below.refl _ _) (Nat.le_refl _) (by simp) ?_
            (case hd => rfl)
            (case hg => rfl)
            (case hr => first | (go_simp; done) | (go_simp; rfl))
            (case hp => exact Rz)
            intro v63 w94 ho95 hb hg_ hnew_
            clear hg_ hnew_
            (first | rw [← Ny62.out] at ho95 | (simp only [Int.reduceToNat] at ho95; rw [← Ny62.out] at ho95))
            have R64 := Ak (Kd.R_lower (Kd.R_new' (Kd.R_new' ho95 (Kd.R_lt (by exact Ho.RS <| R52.out))) (Kd.R_lt (by exact Ho.RS <| R58.out))) (keep_size (w := w) (g := g) (row := none) (by exact Ho.kS HK.out)))
            replace R_117000 := rT R_117000 hb
            replace R52 := el R52 ho95 hb
            replace R58 := el R58 ho95 hb
            replace B1 := kT B1 hb
            replace B16 := kT B16 hb
            replace HI0 := Ak (IsS54.below (by exact IsS54.below HI0.out Ho.Steps.below) hb)
            replace HK := hT HK hb
            replace HB := bT HB hb
            clear hb ho95
            refine hK.out _ _ (h5 B16) (fun hHeld => ?_)
            clear hK K
            refine nO 59 ?_
            exact norm_ Ny (hJ3_6_9 ((.slice Ao94 y50.length co94), v57, v63) _ ⟨hHeld, rs R52, rs R58, Ho.RS (Kd.R_mono R64.out (fun _ hk => ⟨hk.1.2, hk.2⟩)), rs R_117000, ks B1, ks B16, (by exact IsS54.below HI0.out Ho.Steps.below), (by exact Ho.kS HK.out), es HB⟩)
         ·skip
          rintro v51 w93 ⟨hS_, h0_, h1_, h2_, h3_, h4_, h5_, h6_⟩
          have R52 := Ak h0_
          replace R_117000 := Ak h1_
          replace B1 := Ak h2_
          replace B16 := Ak h3_
          replace HI0 := Ak h4_
          replace HK := Ak h5_
          replace HB := Ak h6_
          clear h0_ h1_ h2_ h3_ h4_ h5_ h6_
          have hHeld := hS_
          refine nQ ?_
          refine tw 6 9 (fun K hK => ?_) (fun K hK => ?_)
          ·skip
           refine Kd.R_lit_step (Kd.int .i64) _ 3 ?hg (N := 56) ?hd (xs := ([0, 6] : List Int)) (inner := [.int .i64 0, .int .i64 6]) (ok := fun _ => True) (okp := fun _ => True) ?hr ?hp (fun _ hk => hk) trivial (Below.refl _ _) (Nat.le_refl _) (by simp) ?_
           (case hd => rfl)
           (case hg => rfl)
           (case hr => first | (go_simp; done) | (go_simp; rfl))
           (case hp => exact Rz)
           intro v57 w94 ho95 hb hg_ hnew_
           clear hg_ hnew_
           (first | rw [← Ny56.out] at ho95 | (simp only [Int.reduceToNat] at ho95; rw [← Ny56.out] at ho95))
           have R58 := Ak (Kd.R_lower (Kd.R_new' ho95 (Kd.R_lt (by exact Ho.RS <| R52.out))) (keep_size (w := w) (g := g) (row := none) (by exact Ho.kS HK.out)))
           replace R_117000 := rT R_117000 hb
           replace R52 := el R52 ho95 hb
           replace B1 := kT B1 hb
           replace B16 := kT B16 hb
           replace HI0 := Ak (IsS54.below (by exact IsS54.below HI0.out Ho.Steps.below) hb)
           replace HK := hT HK hb
           replace HB := bT HB hb
           clear hb ho95
           refine hK.out _ _ (h5 B16) (fun hHeld => ?_)
           clear hK K
           refine nO 56 ?_
           exact norm_ Ny (hJ3_4_6 (v51, v57) _ ⟨hHeld, Ho.RS (Kd.R_mono R52.out (fun _ hk => hk.2)), Ho.RS (Kd.R_mono R58.out (fun _ hk => hk.2)), rs R_117000, ks B1, ks B16, (by exact IsS54.below HI0.out Ho.Steps.below), (by exact Ho.kS HK.out), es HB⟩)
          ·skip
           refine Kd.R_lit_step (Kd.int .i64) _ 3 ?hg (N := 59) ?hd (xs := ([0, 5] : List Int)) (inner := [.int .i64 0, .int .i64 5]) (ok := fun _ => True) (okp := fun _ => True) ?hr ?hp (fun _ hk => hk) trivial (Below.refl _ _) (Nat.le_refl _) (by simp) ?_
           (case hd => rfl)
           (case hg => rfl)
           (case hr => first | (go_simp; done) | (go_simp; rfl))
           (case hp => exact Rz)
           intro v63 w94 ho95 hb hg_ hnew_
           clear hg_ hnew_
           (first | rw [← Ny62.out] at ho95 | (simp only [Int.reduceToNat] at ho95; rw [← Ny62.out] at ho95))
           have R64 := Ak (Kd.R_lower (Kd.R_new' ho95 (Kd.R_lt (by exact Ho.RS <| R52.out))) (keep_size (w := w) (g := g) (row := none) (by exact Ho.kS HK.out)))
           replace R_117000 := rT R_117000 hb
           replace R52 := el R52 ho95 hb
           replace B1 := kT B1 hb
           replace B16 := kT B16 hb
           replace HI0 := Ak (IsS54.below (by exact IsS54.below HI0.out Ho.Steps.below) hb)
           replace HK := hT HK hb
           replace HB := bT HB hb
           clear hb ho95
           refine hK.out _ _ (h5 B16) (fun hHeld => ?_)
           clear hK K
           refine nO 59 ?_
           exact norm_ Ny (hJ3_4_9 (v51, v63) _ ⟨hHeld, Ho.RS (Kd.R_mono R52.out (fun _ hk => hk.2)), Ho.RS (Kd.R_mono R64.out (fun _ hk => hk.2)), rs R_117000, ks B1, ks B16, (by exact IsS54.below HI0.out Ho.Steps.below), (by exact Ho.kS HK.out), es HB⟩)
        ·skip
         rintro ⟨v51, v57, v63⟩ w95 ⟨hS_, h0_, h1_, h2_, h3_, h4_, h5_, h6_, h7_, h8_⟩
         have R52 := Ak h0_
         have R58 := Ak h1_
         have R64 := Ak h2_
         replace R_117000 := Ak h3_
         replace B1 := Ak h4_
         replace B16 := Ak h5_
         replace HI0 := Ak h6_
         replace HK := Ak h7_
         replace HB := Ak h8_
         clear h0_ h1_ h2_ h3_ h4_ h5_ h6_ h7_ h8_
         have hHeld := hS_
         obtain ⟨Ao96, co96, eo96⟩ := Kd.R_slice R52.out
         (first | subst eo96 | (injection eo96 with f1_ f2_ f3_; have f4_ := f1_.symm; have f5_ := f3_.symm; clear f1_ f2_ f3_; subst f4_; subst f5_))
         refine nQ ?_
         refine oN 4 fun K hK => ?_
         refine gO Tryz.func49 #[.pointer (some ⟨g, 0, none⟩), .slice Ao96 y50.length co96] ?_
         with_reducible refine (Fm.calls g s0_0 t36 t37 _ _ y50 t53 t54 t55 w0 _ ?side1 ?side2 ?side3 ?side4 ?side5 A82.out).mono ?_
         (case side1 => exact IsS54.below HI0.out Ho.Steps.below)
         (case side2 => exact eS HB.out)
         (case side3 => exact Cs (Kd.R_reads' R52.out).2.2)
         (case side4 => exact (Kd.R_reads' R52.out).2.1)
         (case side5 => exact far_slice (IsS54.own_ne HI0.out R52.out (by decide)))
         rintro e w97 ⟨rfl, hi, hb, hk⟩
         refine ⟨_, rfl, ?_⟩
         replace R_117000 := Ak (Kd.R_mono (Kd.R_keep (IsS54.apart (show IsS54 w0 _ g s0_0 t36 t37 from by exact IsS54.below HI0.out Ho.Steps.below) (by exact Ho.RS <| R_117000.out) (by decide)) hk (fun _ h => h.2)) (fun _ h => h.1))
         replace B1 := kK B1 hk N1_0
         replace B16 := kK B16 hk N16_0
         replace R52 := Ak (Kd.R_mono (Kd.R_keep (IsS54.apart (show IsS54 w0 _ g s0_0 t36 t37 from by exact IsS54.below HI0.out Ho.Steps.below) (by exact Ho.RS <| R52.out) (by decide)) hk (fun _ h => h.2)) (fun _ h => h.1))
         replace R58 := Ak (Kd.R_mono (Kd.R_keep (IsS54.apart (show IsS54 w0 _ g s0_0 t36 t37 from by exact IsS54.below HI0.out Ho.Steps.below) (by exact Ho.RS <| R58.out) (by decide)) hk (fun _ h => h.2)) (fun _ h => h.1))
         replace R64 := Ak (Kd.R_mono (Kd.R_keep (IsS54.apart (show IsS54 w0 _ g s0_0 t36 t37 from by exact IsS54.below HI0.out Ho.Steps.below) (by exact Ho.RS <| R64.out) (by decide)) hk (fun _ h => h.2)) (fun _ h => h.1))
         replace HK := hU HK hk
         replace HB := Ak hb
         replace HI0 := Ak hi
         clear hb hk hi
         refine hK.out _ _ (h5 B16) (fun hHeld => ?_)
         clear hK K
         refine nO 54 ?_
         exact norm_ Ny (hJ3_4_6_9 (.slice Ao96 y50.length co96, v57, v63) _ ⟨hHeld, rs R52, rs R58, rs R64, rs R_117000, ks B1, ks B16, (by exact IsS54.below HI0.out Ho.Steps.below), (by exact Ho.kS HK.out), es HB⟩)
       ·skip
        rintro ⟨v51, v63⟩ w95 ⟨hS_, h0_, h1_, h2_, h3_, h4_, h5_, h6_, h7_⟩
        have R52 := Ak h0_
        have R64 := Ak h1_
        replace R_117000 := Ak h2_
        replace B1 := Ak h3_
        replace B16 := Ak h4_
        replace HI0 := Ak h5_
        replace HK := Ak h6_
        replace HB := Ak h7_
        clear h0_ h1_ h2_ h3_ h4_ h5_ h6_ h7_
        have hHeld := hS_
        refine nQ ?_
        refine oN 6 fun K hK => ?_
        refine Kd.R_lit_step (Kd.int .i64) _ 3 ?hg (N := 56) ?hd (xs := ([0, 6] : List Int)) (inner := [.int .i64 0, .int .i64 6]) (ok := fun _ => True) (okp := fun _ => True) ?hr ?hp (fun _ hk => hk) trivial (Below.refl _ _) (Nat.le_refl _) (by simp) ?_
        (case hd => rfl)
        (case hg => rfl)
        (case hr => first | (go_simp; done) | (go_simp; rfl))
        (case hp => exact Rz)
        intro v57 w96 ho97 hb hg_ hnew_
        clear hg_ hnew_
        (first | rw [← Ny56.out] at ho97 | (simp only [Int.reduceToNat] at ho97; rw [← Ny56.out] at ho97))
        have R58 := Ak (Kd.R_lower (Kd.R_new' (Kd.R_new' ho97 (Kd.R_lt (by exact Ho.RS <| R52.out))) (Kd.R_lt (by exact Ho.RS <| R64.out))) (keep_size (w := w) (g := g) (row := none) (by exact Ho.kS HK.out)))
        replace R_117000 := rT R_117000 hb
        replace R52 := el R52 ho97 hb
        replace R64 := el R64 ho97 hb
        replace B1 := kT B1 hb
        replace B16 := kT B16 hb
        replace HI0 := Ak (IsS54.below (by exact IsS54.below HI0.out Ho.Steps.below) hb)
        replace HK := hT HK hb
        replace HB := bT HB hb
        clear hb ho97
        refine hK.out _ _ (h5 B16) (fun hHeld => ?_)
        clear hK K
        refine nO 56 ?_
        exact norm_ Ny (hJ3_4_6_9 (v51, v57, v63) _ ⟨hHeld, Ho.RS (Kd.R_mono R52.out (fun _ hk => ⟨hk.2, hk.1⟩)), Ho.RS (Kd.R_mono R58.out (fun _ hk => ⟨hk.1.2, hk.2⟩)), rs R64, rs R_117000, ks B1, ks B16, (by exact IsS54.below HI0.out Ho.Steps.below), (by exact Ho.kS HK.out), es HB⟩)
      ·skip
       rintro ⟨v51, v57⟩ w95 ⟨hS_, h0_, h1_, h2_, h3_, h4_, h5_, h6_, h7_⟩
       have R52 := Ak h0_
       have R58 := Ak h1_
       replace R_117000 := Ak h2_
       replace B1 := Ak h3_
       replace B16 := Ak h4_
       replace HI0 := Ak h5_
       replace HK := Ak h6_
       replace HB := Ak h7_
       clear h0_ h1_ h2_ h3_ h4_ h5_ h6_ h7_
       have hHeld := hS_
       obtain ⟨Ao96, co96, eo96⟩ := Kd.R_slice R58.out
       (first | subst eo96 | (injection eo96 with f1_ f2_ f3_; have f4_ := f1_.symm; have f5_ := f3_.symm; clear f1_ f2_ f3_; subst f4_; subst f5_))
       refine nQ ?_
       refine tw 7 9 (fun K hK => ?_) (fun K hK => ?_)
       ·skip
        refine gO Tryz.func49 #[.pointer (some ⟨g, 0, none⟩), .slice Ao96 y56.length co96] ?_
        with_reducible refine (Fm.calls g s0_0 t54 t55 _ _ y56 t59 t60 t61 w0 _ ?side1 ?side2 ?side3 ?side4 ?side5 A83.out).mono ?_
        (case side1 => exact IsS54.below HI0.out Ho.Steps.below)
        (case side2 => exact eS HB.out)
        (case side3 => exact Cs (Kd.R_reads' R58.out).2.2)
        (case side4 => exact (Kd.R_reads' R58.out).2.1)
        (case side5 => exact far_slice (IsS54.own_ne HI0.out R58.out (by decide)))
        rintro e w97 ⟨rfl, hi, hb, hk⟩
        refine ⟨_, rfl, ?_⟩
        replace R_117000 := Ak (Kd.R_mono (Kd.R_keep (IsS54.apart (show IsS54 w0 _ g s0_0 t54 t55 from by exact IsS54.below HI0.out Ho.Steps.below) (by exact Ho.RS <| R_117000.out) (by decide)) hk (fun _ h => h.2)) (fun _ h => h.1))
        replace B1 := kK B1 hk N1_0
        replace B16 := kK B16 hk N16_0
        replace R52 := Ak (Kd.R_mono (Kd.R_keep (IsS54.apart (show IsS54 w0 _ g s0_0 t54 t55 from by exact IsS54.below HI0.out Ho.Steps.below) (by exact Ho.RS <| R52.out) (by decide)) hk (fun _ h => h.2)) (fun _ h => h.1))
        replace R58 := Ak (Kd.R_mono (Kd.R_keep (IsS54.apart (show IsS54 w0 _ g s0_0 t54 t55 from by exact IsS54.below HI0.out Ho.Steps.below) (by exact Ho.RS <| R58.out) (by decide)) hk (fun _ h => h.2)) (fun _ h => h.1))
        replace HK := hU HK hk
        replace HB := Ak hb
        replace HI0 := Ak hi
        clear hb hk hi
        refine hK.out _ _ (h5 B16) (fun hHeld => ?_)
        clear hK K
        refine nO 57 ?_
        exact norm_ Ny (hJ3_4_6_7 (v51, .slice Ao96 y56.length co96) _ ⟨hHeld, rs R52, rs R58, rs R_117000, ks B1, ks B16, (by exact IsS54.below HI0.out Ho.Steps.below), (by exact Ho.kS HK.out), es HB⟩)
       ·skip
        refine Kd.R_lit_step (Kd.int .i64) _ 3 ?hg (N := 59) ?hd (xs := ([0, 5] : List Int)) (inner := [.int .i64 0, .int .i64 5]) (ok := fun _ => True) (okp := fun _ => True) ?hr ?hp (fun _ hk => hk) trivial (Below.refl _ _) (Nat.le_refl _) (by simp) ?_
        (case hd => rfl)
        (case hg => rfl)
        (case hr => first | (go_simp; done) | (go_simp; rfl))
        (case hp => exact Rz)
        intro v63 w96 ho97 hb hg_ hnew_
        clear hg_ hnew_
        (first | rw [← Ny62.out] at ho97 | (simp only [Int.reduceToNat] at ho97; rw [← Ny62.out] at ho97))
        have R64 := Ak (Kd.R_lower (Kd.R_new' (Kd.R_new' ho97 (Kd.R_lt (by exact Ho.RS <| R52.out))) (Kd.R_lt (by exact Ho.RS <| R58.out))) (keep_size (w := w) (g := g) (row := none) (by exact Ho.kS HK.out)))
        replace R_117000 := rT R_117000 hb
        replace R52 := el R52 ho97 hb
        replace R58 := el R58 ho97 hb
        replace B1 := kT B1 hb
        replace B16 := kT B16 hb
        replace HI0 := Ak (IsS54.below (by exact IsS54.below HI0.out Ho.Steps.below) hb)
        replace HK := hT HK hb
        replace HB := bT HB hb
        clear hb ho97
        refine hK.out _ _ (h5 B16) (fun hHeld => ?_)
        clear hK K
        refine nO 59 ?_
        exact norm_ Ny (hJ3_4_6_9 (v51, (.slice Ao96 y56.length co96), v63) _ ⟨hHeld, rs R52, rs R58, Ho.RS (Kd.R_mono R64.out (fun _ hk => ⟨hk.1.2, hk.2⟩)), rs R_117000, ks B1, ks B16, (by exact IsS54.below HI0.out Ho.Steps.below), (by exact Ho.kS HK.out), es HB⟩)
     ·skip
      rintro ⟨v51, v57, v63⟩ w97 ⟨hS_, h0_, h1_, h2_, h3_, h4_, h5_, h6_, h7_, h8_⟩
      have R52 := Ak h0_
      have R58 := Ak h1_
      have R64 := Ak h2_
      replace R_117000 := Ak h3_
      replace B1 := Ak h4_
      replace B16 := Ak h5_
      replace HI0 := Ak h6_
      replace HK := Ak h7_
      replace HB := Ak h8_
      clear h0_ h1_ h2_ h3_ h4_ h5_ h6_ h7_ h8_
      have hHeld := hS_
      obtain ⟨Ao98, co98, eo98⟩ := Kd.R_slice R58.out
      (first | subst eo98 | (injection eo98 with f1_ f2_ f3_; have f4_ := f1_.symm; have f5_ := f3_.symm; clear f1_ f2_ f3_; subst f4_; subst f5_))
      refine nQ ?_
      refine oN 7 fun K hK => ?_
      refine gO Tryz.func49 #[.pointer (some ⟨g, 0, none⟩), .slice Ao98 y56.length co98] ?_
      with_reducible refine (Fm.calls g s0_0 t54 t55 _ _ y56 t59 t60 t61 w0 _ ?side1 ?side2 ?side3 ?side4 ?side5 A83.out).mono ?_
      (case side1 => exact IsS54.below HI0.out Ho.Steps.below)
      (case side2 => exact eS HB.out)
      (case side3 => exact Cs (Kd.R_reads' R58.out).2.2)
      (case side4 => exact (Kd.R_reads' R58.out).2.1)
      (case side5 => exact far_slice (IsS54.own_ne HI0.out R58.out (by decide)))
      rintro e w99 ⟨rfl, hi, hb, hk⟩
      refine ⟨_, rfl, ?_⟩
      replace R_117000 := Ak (Kd.R_mono (Kd.R_keep (IsS54.apart (show IsS54 w0 _ g s0_0 t54 t55 from by exact IsS54.below HI0.out Ho.Steps.below) (by exact Ho.RS <| R_117000.out) (by decide)) hk (fun _ h => h.2)) (fun _ h => h.1))
      replace B1 := kK B1 hk N1_0
      replace B16 := kK B16 hk N16_0
      replace R52 := Ak (Kd.R_mono (Kd.R_keep (IsS54.apart (show IsS54 w0 _ g s0_0 t54 t55 from by exact IsS54.below HI0.out Ho.Steps.below) (by exact Ho.RS <| R52.out) (by decide)) hk (fun _ h => h.2)) (fun _ h => h.1))
      replace R58 := Ak (Kd.R_mono (Kd.R_keep (IsS54.apart (show IsS54 w0 _ g s0_0 t54 t55 from by exact IsS54.below HI0.out Ho.Steps.below) (by exact Ho.RS <| R58.out) (by decide)) hk (fun _ h => h.2)) (fun _ h => h.1))
      replace R64 := Ak (Kd.R_mono (Kd.R_keep (IsS54.apart (show IsS54 w0 _ g s0_0 t54 t55 from by exact IsS54.below HI0.out Ho.Steps.below) (by exact Ho.RS <| R64.out) (by decide)) hk (fun _ h => h.2)) (fun _ h => h.1))
      replace HK := hU HK hk
      replace HB := Ak hb
      replace HI0 := Ak hi
      clear hb hk hi
      refine hK.out _ _ (h5 B16) (fun hHeld => ?_)
      clear hK K
      refine nO 57 ?_
      exact norm_ Ny (hJ3_4_6_7_9 (v51, .slice Ao98 y56.length co98, v63) _ ⟨hHeld, rs R52, rs R58, rs R64, rs R_117000, ks B1, ks B16, (by exact IsS54.below HI0.out Ho.Steps.below), (by exact Ho.kS HK.out), es HB⟩)
    ·skip
     rintro ⟨v51, v57⟩ w97 ⟨hS_, h0_, h1_, h2_, h3_, h4_, h5_, h6_, h7_⟩
     have R52 := Ak h0_
     have R58 := Ak h1_
     replace R_117000 := Ak h2_
     replace B1 := Ak h3_
     replace B16 := Ak h4_
     replace HI0 := Ak h5_
     replace HK := Ak h6_
     replace HB := Ak h7_
     clear h0_ h1_ h2_ h3_ h4_ h5_ h6_ h7_
     have hHeld := hS_
     refine nQ ?_
     refine oN 9 fun K hK => ?_
     refine Kd.R_lit_step (Kd.int .i64) _ 3 ?hg (N := 59) ?hd (xs := ([0, 5] : List Int)) (inner := [.int .i64 0, .int .i64 5]) (ok := fun _ => True) (okp := fun _ => True) ?hr ?hp (fun _ hk => hk) trivial (Below.refl _ _) (Nat.le_refl _) (by simp) ?_
     (case hd => rfl)
     (case hg => rfl)
     (case hr => first | (go_simp; done) | (go_simp; rfl))
     (case hp => exact Rz)
     intro v63 w98 ho99 hb hg_ hnew_
     clear hg_ hnew_
     (first | rw [← Ny62.out] at ho99 | (simp only [Int.reduceToNat] at ho99; rw [← Ny62.out] at ho99))
     have R64 := Ak (Kd.R_lower (Kd.R_new' (Kd.R_new' ho99 (Kd.R_lt (by exact Ho.RS <| R52.out))) (Kd.R_lt (by exact Ho.RS <| R58.out))) (keep_size (w := w) (g := g) (row := none) (by exact Ho.kS HK.out)))
     replace R_117000 := rT R_117000 hb
     replace R52 := el R52 ho99 hb
     replace R58 := el R58 ho99 hb
     replace B1 := kT B1 hb
     replace B16 := kT B16 hb
     replace HI0 := Ak (IsS54.below (by exact IsS54.below HI0.out Ho.Steps.below) hb)
     replace HK := hT HK hb
     replace HB := bT HB hb
     clear hb ho99
     refine hK.out _ _ (h5 B16) (fun hHeld => ?_)
     clear hK K
     refine nO 59 ?_
     exact norm_ Ny (hJ3_4_6_7_9 (v51, v57, v63) _ ⟨hHeld, rs R52, rs R58, Ho.RS (Kd.R_mono R64.out (fun _ hk => ⟨hk.1.2, hk.2⟩)), rs R_117000, ks B1, ks B16, (by exact IsS54.below HI0.out Ho.Steps.below), (by exact Ho.kS HK.out), es HB⟩)
   rintro ⟨v51, v57, v63⟩ w99 ⟨hS_, h0_, h1_, h2_, h3_, h4_, h5_, h6_, h7_, h8_⟩
   have R52 := Ak h0_
   have R58 := Ak h1_
   have R64 := Ak h2_
   replace R_117000 := Ak h3_
   replace B1 := Ak h4_
   replace B16 := Ak h5_
   replace HI0 := Ak h6_
   replace HK := Ak h7_
   replace HB := Ak h8_
   clear h0_ h1_ h2_ h3_ h4_ h5_ h6_ h7_ h8_
   have hHeld := hS_
   obtain ⟨Ao100, co100, eo100⟩ := Kd.R_slice R64.out
   (first | subst eo100 | (injection eo100 with f1_ f2_ f3_; have f4_ := f1_.symm; have f5_ := f3_.symm; clear f1_ f2_ f3_; subst f4_; subst f5_))
   refine nQ ?_
   refine oN 10 fun K hK => ?_
   refine gO Tryz.func49 #[.pointer (some ⟨g, 0, none⟩), .slice Ao100 y62.length co100] ?_
   with_reducible refine (Fm.calls g s0_0 t60 t61 _ _ y62 t65 t66 t67 w0 _ ?side1 ?side2 ?side3 ?side4 ?side5 A84.out).mono ?_
   (case side1 => exact IsS54.below HI0.out Ho.Steps.below)
   (case side2 => exact eS HB.out)
   (case side3 => exact Cs (Kd.R_reads' R64.out).2.2)
   (case side4 => exact (Kd.R_reads' R64.out).2.1)
   (case side5 => exact far_slice (IsS54.own_ne HI0.out R64.out (by decide)))
   rintro e w101 ⟨rfl, hi, hb, hk⟩
   refine ⟨_, rfl, ?_⟩
   replace R_117000 := Ak (Kd.R_mono (Kd.R_keep (IsS54.apart (show IsS54 w0 _ g s0_0 t60 t61 from by exact IsS54.below HI0.out Ho.Steps.below) (by exact Ho.RS <| R_117000.out) (by decide)) hk (fun _ h => h.2)) (fun _ h => h.1))
   replace B1 := kK B1 hk N1_0
   replace B16 := kK B16 hk N16_0
   replace R52 := Ak (Kd.R_mono (Kd.R_keep (IsS54.apart (show IsS54 w0 _ g s0_0 t60 t61 from by exact IsS54.below HI0.out Ho.Steps.below) (by exact Ho.RS <| R52.out) (by decide)) hk (fun _ h => h.2)) (fun _ h => h.1))
   replace R58 := Ak (Kd.R_mono (Kd.R_keep (IsS54.apart (show IsS54 w0 _ g s0_0 t60 t61 from by exact IsS54.below HI0.out Ho.Steps.below) (by exact Ho.RS <| R58.out) (by decide)) hk (fun _ h => h.2)) (fun _ h => h.1))
   replace R64 := Ak (Kd.R_mono (Kd.R_keep (IsS54.apart (show IsS54 w0 _ g s0_0 t60 t61 from by exact IsS54.below HI0.out Ho.Steps.below) (by exact Ho.RS <| R64.out) (by decide)) hk (fun _ h => h.2)) (fun _ h => h.1))
   replace HK := hU HK hk
   replace HB := Ak hb
   replace HI0 := Ak hi
   clear hb hk hi
   refine hK.out _ _ (h5 B16) (fun hHeld => ?_)
   clear hK K
   refine nO 60 ?_
   refine Pu 11 ?_
   refine oN 12 fun K hK => ?_
   refine value_ (w1 := ?_) (v := ?_) (by rfl) rfl ?_ ?_
   rotate_left 2
   ·go_simp
    constructor
    ·rfl
    ·rfl
   refine hK.out _ _ ⟨(blk_cell (blk_alloc B16.out _) 0).trans rfl, (blk_cell (blk_alloc B16.out _) 1).trans rfl, (blk_cell (blk_alloc B16.out _) 2).trans rfl, (blk_cell (blk_alloc B16.out _) 3).trans rfl, (blk_cell (blk_alloc B16.out _) 4).trans rfl⟩ (fun hHeld => ?_)
   clear hK K
   refine nO 62 ?_
   refine oN 13 fun K hK => ?_
   refine Kd.R_append_step k33 w.heap.size (by rfl) (.tmp 51) (.tmp 62) 24 33 (.agg #[(.int .i64 0), (.int .i64 0), (.int .i64 0)]) 24 rfl Tryz.underlying24 info33 rfl (by decide) (by omega) (.slice Ao87 x117000_1.length co87) x117000_1 (⟨t53, t59, t65⟩ : S33) [.int .i64 t53, .int .i64 t59, .int .i64 t65] (fun _ => True) (fun _ => False) rfl rfl ?aP (fun _ hk => hk.elim) ?aF ?aO (Below.refl _ _) ?aS ?aL ?_
   (case aP => exact k33_mkM _ _ _ (⟨t53, t59, t65⟩ : S33))
   (case aF => exact (fun _ _ => trivial))
   (case aO => exact (by exact Ho.RS <| R_117000.out))
   (case aS => exact (keep_size (w := w) (g := g) (row := none) (by exact Ho.kS HK.out)))
   (case aL => have := LMc85.out; omega)
   intro v69 w102 ho hb hg hat
   rw [← Ny68.out] at ho
   have R70 := Ak ho
   replace B1 := Ak (blk_grown (bS B1.out) hg (Kd.R_ne R_117000.out B1.out (by decide)))
   replace B16 := Ak (blk_grown (bS B16.out) hg (Kd.R_ne R_117000.out B16.out (by decide)))
   replace HI0 := Ak (IsS54.grown (by exact IsS54.below HI0.out Ho.Steps.below) hg (IsS54.own_ne HI0.out R_117000.out (by decide)))
   replace R52 := Ak (Kd.R_over' (by exact Ho.RS <| R52.out) (Kd.R_typed (by exact Ho.RS <| R_117000.out)) (by decide) hg)
   replace R58 := Ak (Kd.R_over' (by exact Ho.RS <| R58.out) (Kd.R_typed (by exact Ho.RS <| R_117000.out)) (by decide) hg)
   replace R64 := Ak (Kd.R_over' (by exact Ho.RS <| R64.out) (Kd.R_typed (by exact Ho.RS <| R_117000.out)) (by decide) hg)
   replace HB := Ak (below_weaken (by exact eS HB.out) HL.out hb)
   replace HK := Ak (KeepBut.trans (by exact Ho.kS HK.out) (KeepBut.of_grown hg g) (Kd.R_base2 R_117000.out))
   clear R_117000
   clear ho hb hg hat
   obtain ⟨Ao3, co3, eo3⟩ := Kd.R_slice R70.out
   (first | subst eo3 | (injection eo3 with f1_ f2_ f3_; have f4_ := f1_.symm; have f5_ := f3_.symm; clear f1_ f2_ f3_; subst f4_; subst f5_))
   refine hK.out _ _ (h5 B16) (fun hHeld => ?_)
   clear hK K
   refine nO 63 ?_
   refine Pu 14 ?_
   refine last_ (i := 15) (N := none) (Bt 16 65535) rfl rfl (one_of HT_.out (by kernel_rfl)) (by decide) (fun K hK => ?_)
   have hs104 : w102.cell? ⟨g16, 0, none⟩ = some (.slice Ao87 x117000_1.length co87) := (blk_cell B16.out 0).trans rfl
   have hfs104 := blk_frozen B16.out 0
   have hns104_0 := nP N1_16
   refine sK ?_
   refine hK.out _ _ ?_
   clear hK K
   refine dO ?_
   have n5 := nP N16_1
   have n6 := nP N16_0
   have z7 := Sq.c5 B16.out
   have n8 := nP N1_0
   have z9 := Sq.c5 B1.out
   try go_wp2
   refine bodyPost_ret (results_cell_row rfl _ _ g1 26 #[.slice Ao3 y68.length co3, .int .i64 x117001_1, .int .i64 x117002_1, .int .i64 x117003_1, .int .i64 x117004_1] (0, 0) _ rfl (by apply Sq.put5; exact Kz) Tryz.underlying26 rfl (by kernel_rfl)) rfl ?_
   exact ⟨_, Ez, by exact Ho.RS <| Kd.R_mono (Kd.R_far (p := ⟨g1, 4, none⟩) (Kd.R_far (p := ⟨g1, 3, none⟩) (Kd.R_far (p := ⟨g1, 2, none⟩) (Kd.R_far (p := ⟨g1, 1, none⟩) (Kd.R_far (p := ⟨g1, 0, none⟩) (Kd.R_far (p := ⟨g16, 0, none⟩) (Kd.R_types (Kd.R_types R70.out B16.out (by decide)) B1.out (by decide)) (fun _ hk => hk.1.2) (.slice Ao3 y68.length co3)) (fun _ hk => hk.2) (.slice Ao3 y68.length co3)) (fun _ hk => hk.2) (.int .i64 x117001_1)) (fun _ hk => hk.2) (.int .i64 x117002_1)) (fun _ hk => hk.2) (.int .i64 x117003_1)) (fun _ hk => hk.2) (.int .i64 x117004_1)) (fun _ hk => trivial), by repeat (first | (with_reducible first | exact HI0.out | apply IsS54.alloc | apply IsS54.drewN | apply IsS54.drew | apply IsS54.set_1 | apply IsS54.set_2 | refine IsS54.far ?_ N0_1.out _ | refine IsS54.far ?_ N0_16.out _) | exact HI0.out), by repeat (first | (with_reducible first | exact HB.out | apply below_alloc | apply pw_below_drewN | apply below_drew1 | refine below_set ?_ (IsS54.ge HI0.out) | refine below_set ?_ E1.out | refine below_set ?_ E16.out) | exact HB.out), by repeat (first | (with_reducible first | exact HK.out | apply KeepBut.set_ | apply keep_drewN | apply keep_drew | apply keep_alloc | refine keep_far ?_ G1.out _ | refine keep_far ?_ G16.out _) | exact HK.out)⟩
end
section
attribute [local go_sem ↓] Ho.isSome_setCell_
/-! ### Fak: function 11 -/
def Fak.f (k : Nat) (l0 : List Int) : Option ((List (S33)) × Int × Int × Int × Int × Int) := (Fh.f k l0 0 0).bind fun bt103 => ((Fba.f l0 bt103.2.2.2.2.2.1 bt103.2.2.2.2.2.2).bind fun bt112 => (some (bt103.1, bt103.2.1, bt103.2.2.1, bt103.2.2.2.1, bt103.2.2.2.2.1, bt112.1)))
theorem Fak.mono : ∀ a0 k, LeO (Fak.f k a0) (Fak.f (k + 1) a0) := by
  intro a0 k
  unfold Fak.f
  repeat' (with_reducible first | apply Fh.mono | exact LeO.refl _ | exact LeO.none _ | refine LeO.ite ?_ ?_ | refine LeO.bind ?_ (fun _ => ?_))
theorem Fak.calls (k : Nat) (A0 : Option Addr) (c0 : Nat) (l0 : List Int) (r1 : List (S33)) (r2 : Int) (r3 : Int) (r4 : Int) (r5 : Int) (r6 : Int) (w : World) (hr0 : Kd.C (Kd.int .u8) w A0 l0.length l0) (hc0 : l0.length ≤ c0) (h : Fak.f k l0 = some (r1, r2, r3, r4, r5, r6)) :
  Calls Tryz.prog 11 #[.slice A0 l0.length c0] w fun e w' => ∃ v0_ : Value, e = .returned (.tuple #[.agg #[v0_, .int .i64 r2, .int .i64 r3, .int .i64 r4, .int .i64 r5], .int .i64 r6]) ∧ Kd.R k33 33 w' w.heap.size (fun _ => True) v0_ r1 ∧ Below w.heap.size w w' := by
 have hu26 := Tryz.underlying26
 have hu54 := Tryz.underlying54
 have HR0 := Aside0.mk hr0
 have HC0 := Aside0.mk hc0
 clear hr0 hc0
 have HB := Aside0.mk (Below.refl w.heap.size w)
 have H := h
 clear h
 unfold Fak.f at H
 obtain ⟨⟨t3, t6, t7, t8, t9, t10, t11⟩, A2, H⟩ := bn H
 (try dsimp only at H)
 obtain ⟨⟨t12, t13, t14⟩, A3, H⟩ := bn H
 (try dsimp only at H)
 simp only [Option.some.injEq, Prod.mk.injEq] at H
 obtain ⟨rfl, rfl, rfl, rfl, rfl, rfl⟩ := H
 go_enter Tryz.func11, Tryz.ntmps11
 go_wp2_with (first | (refine bE 2 26 #[.slice none 0 0, .int .i64 0, .int .i64 0, .int .i64 0, .int .i64 0] ?_; intro g1 hg w4 B1 hb; have E1 := gW HB hg; replace HB := bT HB hb; clear hb hg) | (refine bE 7 54 #[.slice A0 l0.length c0, .int .i64 0, .int .u64 0] ?_; intro g2 hg w5 B2 hb; have E2 := gW HB hg; obtain ⟨N1_2, N2_1⟩ := nB B1 hg; replace B1 := kT B1 hb; replace HB := bT HB hb; clear hb hg; have HI102 := Aside0.mk (show IsS54 w w5 g2 l0 0 0 from ⟨_, _, ks B2, E2.out, HR0.out⟩); clear B2) | (refine cE (some 9) Tryz.func33 #[.pointer (some ⟨g2, 0, none⟩)] ?_; (with_reducible refine (Fh.calls k g2 l0 0 0 t3 t6 t7 t8 t9 t10 t11 w _ ?side1 ?side2 A2.out).mono ?_); (case side1 => exact IsS54.below HI102.out Ho.Steps.below); (case side2 => exact eS HB.out); rintro e w6 ⟨v4, rfl, ho0, hi, hb, hk⟩; refine ⟨_, rfl, ?_⟩; have R5 := lw HB ho0; replace B1 := kK B1 hk N1_2; replace HB := Ak hb; replace HI102 := Ak hi; clear hb hk hi; (try clear ho0)) | (refine cE (some 11) Tryz.func34 #[.pointer (some ⟨g2, 0, none⟩)] ?_; (with_reducible refine (Fba.calls g2 l0 t10 t11 t12 t13 t14 w _ ?side1 ?side2 A3.out).mono ?_); (case side1 => exact IsS54.below HI102.out Ho.Steps.below); (case side2 => exact eS HB.out); rintro e w7 ⟨rfl, hi, hb, hk⟩; refine ⟨_, rfl, ?_⟩; replace B1 := kK B1 hk N1_2; replace R5 := Ak (Kd.R_mono (Kd.R_keep (IsS54.apart (show IsS54 w _ g2 l0 t10 t11 from by exact IsS54.below HI102.out Ho.Steps.below) (by exact Ho.RS <| R5.out) (by decide)) hk (fun _ h => h.2)) (fun _ h => h.1)); replace HB := Ak hb; replace HI102 := Ak hi; clear hb hk hi; obtain ⟨Ao8, co8, eo8⟩ := Kd.R_slice R5.out; subst eo8; have hnb9 := nP N1_2; have hz10 := Sq.c5 B1.out))
 refine bodyPost_ret (results_ct rfl _ _ g1 26 #[.slice Ao8 t3.length co8, .int .i64 t6, .int .i64 t7, .int .i64 t8, .int .i64 t9] (0, 0) _ rfl (by apply Sq.put5; exact bS B1.out) Tryz.underlying26 rfl (by kernel_rfl)) rfl ?_
 exact ⟨_, Ez, rY5 R5 B1 (fun _ hk => trivial), by repeat (first | (with_reducible first | exact HB.out | apply below_alloc | apply pw_below_drewN | apply below_drew1 | refine below_set ?_ (IsS54.ge HI102.out) | refine below_set ?_ E1.out) | exact HB.out)⟩
end
section
attribute [local go_sem ↓] Ho.isSome_setCell_
/-! ### Fl: function 17 -/
def Fl.j0 : Nat → Int → Bool → List Int → Int → Int → List (S33) → Int → Int → Int → Int → Option ((List (S33)) × Int × Int × Int × Int × Int × Int)
  | 0, _, _, _, _, _, _, _, _, _, _ => none
  | k + 1, x7, x23, x103000, x103001, x103002, x113000, x113001, x113002, x113003, x113004 => if x23 = true then ((Faf.f x103000 x103001 x103002 (x113000.length : Int)).bind fun bt119 => (if 0 ≤ bt119.1 then (if bt119.1 < (x113000.length : Int) then ((Fm.f x103000 bt119.2.1 bt119.2.2 (([1, 40, 60, 500, 549, 20000, 100000, 0, 100001] : List Int))).bind fun bt126 => (some (x113000, x113001, x113002, x113003, x113004, (rd_T33 x113000 bt119.1).f1, bt126.1))) else (none)) else (none))) else ((Fm.f x103000 x103001 x103002 (([1, 40, 60, 500, 549, 20000, 100000, 0, 100001] : List Int))).bind fun bt132 => (some (x113000, x113001, x113002, x113003, x113004, x7, bt132.1)))
def Fl.f (k : Nat) (l0 : List Int) : Option ((List (S33)) × Int × Int × Int × Int × Int × Int) := (Fh.f k l0 0 0).bind fun bt103 => ((Fba.f l0 bt103.2.2.2.2.2.1 bt103.2.2.2.2.2.2).bind fun bt113 => (if (bt103.1.length : Int) > 0 then ((Fbk.f l0 bt113.2.1 bt113.2.2 4).bind fun bt116 => (Fl.j0 k bt113.1 (!bt116.1) l0 bt116.2.1 bt116.2.2 bt103.1 bt103.2.1 bt103.2.2.1 bt103.2.2.2.1 bt103.2.2.2.2.1)) else (Fl.j0 k bt113.1 false l0 bt113.2.1 bt113.2.2 bt103.1 bt103.2.1 bt103.2.2.1 bt103.2.2.2.1 bt103.2.2.2.2.1)))
theorem Fl.mono_l : ∀ k, (∀ y0 y1 y2 y3 y4 y5 y6 y7 y8 y9, LeO (Fl.j0 k y0 y1 y2 y3 y4 y5 y6 y7 y8 y9) (Fl.j0 (k + 1) y0 y1 y2 y3 y4 y5 y6 y7 y8 y9))
  | 0 => fun _ _ _ _ _ _ _ _ _ _ r h => by simp [Fl.j0] at h
  | k + 1 => by
    have ih0 := Fl.mono_l k
    · intro y0 y1 y2 y3 y4 y5 y6 y7 y8 y9
      unfold Fl.j0
      repeat' (with_reducible first | exact ih0 _ _ _ _ _ _ _ _ _ _ | apply Fh.mono | exact LeO.refl _ | exact LeO.none _ | refine LeO.ite ?_ ?_ | refine LeO.bind ?_ (fun _ => ?_))
theorem Fl.mono : ∀ a0 k, LeO (Fl.f k a0) (Fl.f (k + 1) a0) := by
  intro a0 k
  have ih0 := Fl.mono_l k
  unfold Fl.f
  repeat' (with_reducible first | exact ih0 _ _ _ _ _ _ _ _ _ _ | apply Fh.mono | exact LeO.refl _ | exact LeO.none _ | refine LeO.ite ?_ ?_ | refine LeO.bind ?_ (fun _ => ?_))
def Fl.T5 : Bool × List (List Nat × List Nat) := (true, [([], []), ([0], [0]), ([], []), ([], []), ([3], [3]), ([4], [4]), ([2, 5], [2, 5]), ([1, 6], [1, 6]), ([7], [7]), ([8], [8]), ([9, 6, 0, 1, 2, 3, 4, 5, 6, 7, 8, 9], [9])])
def Fl.B5 : List Nat := [0, 1, 0, 0, 8, 24, 60, 127, 255, 511, 1023]
theorem Fl.tab5 : rtab .any (opsOf Tryz.f17 5) = Fl.T5 := by kernel_rfl
theorem Fl.bits5 : waitsOk Fl.T5.2 Fl.B5 = true := by kernel_rfl
def Fl.T6 : Bool × List (List Nat × List Nat) := (true, [([], []), ([], []), ([], []), ([], []), ([2, 3], [2, 3]), ([0, 4, 0], [0]), ([1, 5, 0, 1, 5], [1]), ([4, 6, 0, 1, 2, 3, 4, 5, 6], [4])])
def Fl.B6 : List Nat := [0, 0, 0, 0, 12, 29, 63, 127]
theorem Fl.tab6 : rtab .any (opsOf Tryz.f17 6) = Fl.T6 := by kernel_rfl
theorem Fl.bits6 : waitsOk Fl.T6.2 Fl.B6 = true := by kernel_rfl
theorem Fl.calls (k : Nat) (A0 : Option Addr) (c0 : Nat) (l0 : List Int) (r1 : List (S33)) (r2 : Int) (r3 : Int) (r4 : Int) (r5 : Int) (r6 : Int) (r7 : Int) (w : World) (hr0 : Kd.C (Kd.int .u8) w A0 l0.length l0) (hc0 : l0.length ≤ c0) (h : Fl.f k l0 = some (r1, r2, r3, r4, r5, r6, r7)) :
  Calls Tryz.prog 17 #[.slice A0 l0.length c0] w fun e w' => ∃ v0_ : Value, e = .returned (.tuple #[.agg #[v0_, .int .i64 r2, .int .i64 r3, .int .i64 r4, .int .i64 r5], .int .i64 r6, .int .i64 r7]) ∧ Kd.R k33 33 w' w.heap.size (fun _ => True) v0_ r1 ∧ Below w.heap.size w w' := by
 have hu26 := Tryz.underlying26
 have hu54 := Tryz.underlying54
 have HR0 := Aside0.mk hr0
 have HC0 := Aside0.mk hc0
 clear hr0 hc0
 have HB := Aside0.mk (Below.refl w.heap.size w)
 have H := h
 clear h
 unfold Fl.f at H
 obtain ⟨⟨t3, t6, t7, t8, t9, t10, t11⟩, A2, H⟩ := bn H
 (try dsimp only at H)
 obtain ⟨⟨t13, t14, t15⟩, A3, H⟩ := bn H
 (try dsimp only at H)
 have HC4 := Aside0.mk H
 clear H
 go_enter Tryz.func17, Tryz.ntmps17
 go_upto_region 4 with (first | (refine bE 2 26 #[.slice none 0 0, .int .i64 0, .int .i64 0, .int .i64 0, .int .i64 0] ?_; intro g1 hg w5 B1 hb; have E1 := gW HB hg; replace HB := bT HB hb; clear hb hg) | (refine bE 10 54 #[.slice A0 l0.length c0, .int .i64 0, .int .u64 0] ?_; intro g2 hg w6 B2 hb; have E2 := gW HB hg; obtain ⟨N1_2, N2_1⟩ := nB B1 hg; replace B1 := kT B1 hb; replace HB := bT HB hb; clear hb hg; have HI102 := Aside0.mk (show IsS54 w w6 g2 l0 0 0 from ⟨_, _, ks B2, E2.out, HR0.out⟩); clear B2) | (refine cE (some 12) Tryz.func33 #[.pointer (some ⟨g2, 0, none⟩)] ?_; (with_reducible refine (Fh.calls k g2 l0 0 0 t3 t6 t7 t8 t9 t10 t11 w _ ?side1 ?side2 A2.out).mono ?_); (case side1 => exact IsS54.below HI102.out Ho.Steps.below); (case side2 => exact eS HB.out); rintro e w7 ⟨v4, rfl, ho0, hi, hb, hk⟩; refine ⟨_, rfl, ?_⟩; have R5 := lw HB ho0; replace B1 := kK B1 hk N1_2; replace HB := Ak hb; replace HI102 := Ak hi; clear hb hk hi; (try clear ho0)) | (refine bE 6 26 #[.slice none 0 0, .int .i64 0, .int .i64 0, .int .i64 0, .int .i64 0] ?_; intro g12 hg w8 B12 hb; have E12 := gW HB hg; obtain ⟨N1_12, N12_1⟩ := nB B1 hg; have N2_12 := Ak ((by rw [hg]; exact Nat.ne_of_lt (IsS54.lt (show IsS54 w _ g2 l0 t10 t11 from by exact IsS54.below HI102.out Ho.Steps.below)) : g2 ≠ g12)); have N12_2 := Ak ((by rw [hg]; exact Nat.ne_of_gt (IsS54.lt (show IsS54 w _ g2 l0 t10 t11 from by exact IsS54.below HI102.out Ho.Steps.below)) : g12 ≠ g2)); replace R5 := rT R5 hb; replace B1 := kT B1 hb; replace HI102 := Ak (IsS54.below (by exact IsS54.below HI102.out Ho.Steps.below) hb); replace HB := bT HB hb; clear hb hg; obtain ⟨Ao9, co9, eo9⟩ := Kd.R_slice R5.out; subst eo9; have hnb10 := nP N12_1; have hnb11 := nP N12_2; have hz12 := Sq.c5 B12.out) | (refine cE (some 14) Tryz.func34 #[.pointer (some ⟨g2, 0, none⟩)] ?_; (with_reducible refine (Fba.calls g2 l0 t10 t11 t13 t14 t15 w _ ?side1 ?side2 A3.out).mono ?_); (case side1 => repeat (first | (with_reducible first | exact HI102.out | apply IsS54.alloc | apply IsS54.drewN | apply IsS54.drew | apply IsS54.set_1 | apply IsS54.set_2 | refine IsS54.far ?_ N2_1.out _ | refine IsS54.far ?_ N2_12.out _) | exact HI102.out)); (case side2 => repeat (first | (with_reducible first | exact HB.out | apply below_alloc | apply pw_below_drewN | apply below_drew1 | refine below_set ?_ (IsS54.ge HI102.out) | refine below_set ?_ E1.out | refine below_set ?_ E12.out) | exact HB.out)); rintro e w13 ⟨rfl, hi, hb, hk⟩; refine ⟨_, rfl, ?_⟩; replace B1 := Ak (KeepBut.blk hk (g' := g1) (o := .cells #[.slice none 0 0, .int .i64 0, .int .i64 0, .int .i64 0, .int .i64 0] 26 (0, 0)) (Kz) N1_2.out (by simp)); replace R5 := Ak (Kd.R_mono (Kd.R_keep (IsS54.apart (show IsS54 w _ g2 l0 t10 t11 from by repeat (first | (with_reducible first | exact HI102.out | apply IsS54.alloc | apply IsS54.drewN | apply IsS54.drew | apply IsS54.set_1 | apply IsS54.set_2 | refine IsS54.far ?_ N2_1.out _ | refine IsS54.far ?_ N2_12.out _) | exact HI102.out)) (by exact Ho.RS <| (Kd.R_mono (Kd.R_far (p := ⟨g12, 4, none⟩) (Kd.R_far (p := ⟨g12, 3, none⟩) (Kd.R_far (p := ⟨g12, 2, none⟩) (Kd.R_far (p := ⟨g12, 1, none⟩) (Kd.R_far (p := ⟨g12, 0, none⟩) (Kd.R_types R5.out B12.out (by decide)) (fun _ hk => hk.2) (.slice Ao9 t3.length co9)) (fun _ hk => hk.2) (.int .i64 t6)) (fun _ hk => hk.2) (.int .i64 t7)) (fun _ hk => hk.2) (.int .i64 t8)) (fun _ hk => hk.2) (.int .i64 t9)) (fun _ h_ => h_.1))) (by decide)) hk (fun _ h => h.2)) (fun _ h => h.1)); replace B12 := Ak (KeepBut.blk hk (g' := g12) (o := .cells #[.slice Ao9 t3.length co9, .int .i64 t6, .int .i64 t7, .int .i64 t8, .int .i64 t9] 26 (0, 0)) (by apply Sq.put5; exact bS B12.out) N12_2.out (by simp)); replace HB := Ak hb; replace HI102 := Ak hi; clear hb hk hi))
 (try simp only [Act.put, List.setIfInBounds_toArray, List.set_cons_zero, List.set_cons_succ])
 go_cut [23] (fun v23 wc => ∃ (kq : Nat) (x23_3 : Bool) (x103001_3 : Int) (x103002_3 : Int), v23 = .bool x23_3 ∧ Aside0 (Fl.j0 kq t13 x23_3 l0 x103001_3 x103002_3 t3 t6 t7 t8 t9 = some (r1, r2, r3, r4, r5, r6, r7)) ∧ Aside0 (kq ≤ k) ∧ Aside0 (Kd.R k33 33 wc w.heap.size (fun _ => True) (.slice Ao9 t3.length co9) t3) ∧ Aside0 (wc.heap[g1]? = some (.cells #[(.slice none 0 0), .int .i64 0, .int .i64 0, .int .i64 0, .int .i64 0] 26 (0, 0))) ∧ Aside0 (wc.heap[g12]? = some (.cells #[(.slice Ao9 t3.length co9), .int .i64 t6, .int .i64 t7, .int .i64 t8, .int .i64 t9] 26 (0, 0))) ∧ Aside0 (IsS54 w wc g2 l0 x103001_3 x103002_3) ∧ Aside0 (Below w.heap.size w wc))
 case first =>
  have H := HC4.out
  clear HC4
  by_cases c14 : (t3.length : Int) > 0
  rotate_left
  ·rw [if_neg c14] at H
   have c14b0 := decide_eq_false c14
   have c14b1 : decide (0 < t3.length) = false := decide_eq_false (by omega)
   clear c14
   (first | rw [c14b0] | (simp only [i64_w, i32_w]; rw [c14b0]) | skip)
   have H' := Aside0.mk H
   clear H
   have hnb20 := nP N12_1
   have hnb21 := nP N12_2
   have hz22 := Sq.c5 B12.out
   go_wp2
   go_meet
   case rel => exact ⟨_, (false), (t14), (t15), Ey, H', ⟨by first | omega | exact Nat.le_refl _⟩, ⟨rs R5⟩, ⟨ks B1⟩, ⟨ks B12⟩, ⟨by exact IsS54.below HI102.out Ho.Steps.below⟩, ⟨es HB⟩⟩
  rw [if_pos c14] at H
  have c14b0 := decide_eq_true c14
  have c14b1 : decide (0 < t3.length) = true := decide_eq_true (by omega)
  clear c14
  (first | rw [c14b0] | (simp only [i64_w, i32_w]; rw [c14b0]) | skip)
  obtain ⟨⟨t16, t17, t18⟩, A15, H⟩ := bn H
  (try dsimp only at H)
  have H' := Aside0.mk H
  clear H
  have hnb16 := nP N12_1
  have hnb17 := nP N12_2
  have hz18 := Sq.c5 B12.out
  go_wp2_with (first | (go_at_call 47; (with_reducible refine (Fbk.calls g2 l0 t14 t15 4 t16 t17 t18 w _ ?side1 ?side2 A15.out).mono ?_); (case side1 => exact IsS54.below HI102.out Ho.Steps.below); (case side2 => exact eS HB.out); rintro e w19 ⟨rfl, hi, hb, hk⟩; replace B1 := kK B1 hk N1_2; replace R5 := Ak (Kd.R_mono (Kd.R_keep (IsS54.apart (show IsS54 w _ g2 l0 t14 t15 from by exact IsS54.below HI102.out Ho.Steps.below) (by exact Ho.RS <| R5.out) (by decide)) hk (fun _ h => h.2)) (fun _ h => h.1)); replace B12 := kK B12 hk N12_2; replace HB := Ak hb; replace HI102 := Ak hi; clear hb hk hi))
  go_meet
  case rel => exact ⟨_, (!t16), (t17), (t18), Ey, H', ⟨by first | omega | exact Nat.le_refl _⟩, ⟨rs R5⟩, ⟨ks B1⟩, ⟨ks B12⟩, ⟨by exact IsS54.below HI102.out Ho.Steps.below⟩, ⟨es HB⟩⟩
 case rest =>
  clear HC4
  try clear c1
  try clear c2
  try clear p2
  try clear c3
  try clear c10
  try clear c11
  try clear c14
  try clear c14b0
  try clear c14b1
  try clear c16
  try clear c17
  try clear c20
  try clear c21
  (try clear hz12)
  (try clear hz18)
  (try clear hz22)
  obtain ⟨kq, x23_3, x103001_3, x103002_3, rfl, HA, HJ3, R_113000, B1, B12, HI102, HB⟩ := hcut
  cases kq with
  | zero => exact absurd HA.out (by simp [Fl.j0])
  | succ kj3 =>
   have H := HA.out
   clear HA
   simp only [Fl.j0] at H
   by_cases c23 : x23_3 = true
   rotate_left
   ·replace c23 := Bool.eq_false_iff.mpr c23
    subst c23
    rw [if_neg (show ¬ (false = true) by decide)] at H
    obtain ⟨y29, hy29⟩ : ∃ y_ : List Int, y_ = (([1, 40, 60, 500, 549, 20000, 100000, 0, 100001] : List Int)) := ⟨_, rfl⟩
    replace H : ((Fm.f l0 x103001_3 x103002_3 y29).bind fun bt132 => (some (t3, t6, t7, t8, t9, t13, bt132.1))) = some (r1, r2, r3, r4, r5, r6, r7) := by first | (rw [hy29]; with_reducible exact H) | (have H2_ := (Option.bind_some _ _).symm.trans H; rw [hy29]; with_reducible exact H2_) | (have H2_ := (Option.bind_some _ _).symm.trans H; with_reducible exact H2_) | with_reducible exact H | (rw [hy29]; exact H) | exact H
    have Ny29 := Aside0.mk hy29
    clear hy29
    obtain ⟨⟨t32, t33, t34⟩, A40, H⟩ := bn H
    (try dsimp only at H)
    simp only [Option.some.injEq, Prod.mk.injEq] at H
    obtain ⟨rfl, rfl, rfl, rfl, rfl, rfl, rfl⟩ := H
    try go_wp2
    replace R_113000 := rD R_113000
    replace B1 := kD B1
    replace B12 := kD B12
    replace HI102 := Ak (IsS54.drew HI102.out)
    replace HB := bD HB
    refine sT 8 (H5 g12 (.slice Ao9 t3.length co9) (.int .i64 t6) (.int .i64 t7) (.int .i64 t8) (.int .i64 t9)) [] Fl.tab6 Fl.bits6 (h5 B12) fun hHeld HT_ HW_ => ?_
    generalize wc.drew = w41 at R_113000 B1 B12 HI102 HB hHeld ⊢
    refine Pu 1 ?_
    refine Pu 2 ?_
    refine Ta 0 ?_
    refine oN 3 fun K hK => ?_
    refine Kd.R_lit_step (Kd.int .i64) _ 3 ?hg (N := 37) ?hd (xs := ([1, 40, 60, 500, 549, 20000, 100000, 0, 100001] : List Int)) (inner := [.int .i64 1, .int .i64 40, .int .i64 60, .int .i64 500, .int .i64 549, .int .i64 20000, .int .i64 100000, .int .i64 0, .int .i64 100001]) (ok := fun _ => True) (okp := fun _ => True) ?hr ?hp (fun _ hk => hk) trivial (Below.refl _ _) (Nat.le_refl _) (by simp) ?_
    (case hd => rfl)
    (case hg => rfl)
    (case hr => first | (go_simp; done) | (go_simp; rfl))
    (case hp => exact Rz)
    intro v30 w42 ho43 hb hg_ hnew_
    clear hg_ hnew_
    (first | rw [← Ny29.out] at ho43 | (simp only [Int.reduceToNat] at ho43; rw [← Ny29.out] at ho43))
    have R31 := lw HB ho43
    replace R_113000 := rT R_113000 hb
    replace B1 := kT B1 hb
    replace B12 := kT B12 hb
    replace HI102 := Ak (IsS54.below (by exact IsS54.below HI102.out Ho.Steps.below) hb)
    replace HB := bT HB hb
    clear hb ho43
    obtain ⟨Ao44, co44, eo44⟩ := Kd.R_slice R31.out
    (first | subst eo44 | (injection eo44 with f1_ f2_ f3_; have f4_ := f1_.symm; have f5_ := f3_.symm; clear f1_ f2_ f3_; subst f4_; subst f5_))
    refine hK.out _ _ (h5 B12) (fun hHeld => ?_)
    clear hK K
    refine nO 37 ?_
    refine oN 4 fun K hK => ?_
    refine gO Tryz.func49 #[.pointer (some ⟨g2, 0, none⟩), .slice Ao44 y29.length co44] ?_
    with_reducible refine (Fm.calls g2 l0 x103001_3 x103002_3 _ _ y29 t32 t33 t34 w _ ?side1 ?side2 ?side3 ?side4 ?side5 A40.out).mono ?_
    (case side1 => exact IsS54.below HI102.out Ho.Steps.below)
    (case side2 => exact eS HB.out)
    (case side3 => exact Cs (Kd.R_reads' R31.out).2.2)
    (case side4 => exact (Kd.R_reads' R31.out).2.1)
    (case side5 => exact far_slice (IsS54.own_ne HI102.out R31.out (by decide)))
    rintro e w45 ⟨rfl, hi, hb, hk⟩
    refine ⟨_, rfl, ?_⟩
    replace R_113000 := Ak (Kd.R_mono (Kd.R_keep (IsS54.apart (show IsS54 w _ g2 l0 x103001_3 x103002_3 from by exact IsS54.below HI102.out Ho.Steps.below) (by exact Ho.RS <| R_113000.out) (by decide)) hk (fun _ h => h.2)) (fun _ h => h.1))
    replace B1 := kK B1 hk N1_2
    replace B12 := kK B12 hk N12_2
    replace R31 := Ak (Kd.R_mono (Kd.R_keep (IsS54.apart (show IsS54 w _ g2 l0 x103001_3 x103002_3 from by exact IsS54.below HI102.out Ho.Steps.below) (by exact Ho.RS <| R31.out) (by decide)) hk (fun _ h => h.2)) (fun _ h => h.1))
    replace HB := Ak hb
    replace HI102 := Ak hi
    clear hb hk hi
    refine hK.out _ _ (h5 B12) (fun hHeld => ?_)
    clear hK K
    refine nO 38 ?_
    refine oN 5 fun K hK => ?_
    have hs46 := Sq.c5 B1.out
    have hns46_1 := nP N12_1
    refine sK ?_
    refine hK.out _ _ ⟨(cf5 N12_1.out hHeld.1), (cf5 N12_1.out hHeld.2.1), (cf5 N12_1.out hHeld.2.2.1), (cf5 N12_1.out hHeld.2.2.2.1), (cf5 N12_1.out hHeld.2.2.2.2)⟩ (fun hHeld => ?_)
    clear hK K
    refine Pu 6 ?_
    refine Pu 7 ?_
    refine dO ?_
    try go_wp2
    refine bodyPost_ret (results_ctt rfl _ _ g1 26 #[.slice Ao9 t3.length co9, .int .i64 t6, .int .i64 t7, .int .i64 t8, .int .i64 t9] (0, 0) _ rfl (by apply Sq.put5; exact bS B1.out) Tryz.underlying26 rfl (by kernel_rfl)) rfl ?_
    exact ⟨_, Ez, rY5 R_113000 B1 (fun _ hk => trivial), by repeat (first | (with_reducible first | exact HB.out | apply below_alloc | apply pw_below_drewN | apply below_drew1 | refine below_set ?_ (IsS54.ge HI102.out) | refine below_set ?_ E1.out | refine below_set ?_ E12.out) | exact HB.out)⟩
   subst c23
   rw [if_pos rfl] at H
   obtain ⟨⟨t19, t20, t21⟩, A24, H⟩ := bn H
   (try dsimp only at H)
   by_cases c25 : 0 ≤ t19
   rotate_left
   ·rw [if_neg c25] at H
    exact absurd H (by simp)
   rw [if_pos c25] at H
   have c25b0 := decide_eq_true c25
   clear c25
   by_cases c26 : t19 < (t3.length : Int)
   rotate_left
   ·rw [if_neg c26] at H
    exact absurd H (by simp)
   rw [if_pos c26] at H
   have c26b0 := decide_eq_true c26
   clear c26
   obtain ⟨y23, hy23⟩ : ∃ y_ : List Int, y_ = (([1, 40, 60, 500, 549, 20000, 100000, 0, 100001] : List Int)) := ⟨_, rfl⟩
   replace H : ((Fm.f l0 t20 t21 y23).bind fun bt126 => (some (t3, t6, t7, t8, t9, (rd_T33 t3 t19).f1, bt126.1))) = some (r1, r2, r3, r4, r5, r6, r7) := by first | (rw [hy23]; with_reducible exact H) | (have H2_ := (Option.bind_some _ _).symm.trans H; rw [hy23]; with_reducible exact H2_) | (have H2_ := (Option.bind_some _ _).symm.trans H; with_reducible exact H2_) | with_reducible exact H | (rw [hy23]; exact H) | exact H
   have Ny23 := Aside0.mk hy23
   clear hy23
   obtain ⟨⟨t26, t27, t28⟩, A27, H⟩ := bn H
   (try dsimp only at H)
   simp only [Option.some.injEq, Prod.mk.injEq] at H
   obtain ⟨rfl, rfl, rfl, rfl, rfl, rfl, rfl⟩ := H
   try go_wp2
   replace R_113000 := rD R_113000
   replace B1 := kD B1
   replace B12 := kD B12
   replace HI102 := Ak (IsS54.drew HI102.out)
   replace HB := bD HB
   have p22 : 0 ≤ (t19 : Int) := Dz
   have q22 : t19 < (t3.length : Int) := Dz
   obtain ⟨ad22, e22, hx22_0, hx22_1, hx22_2⟩ := at_T33 (Kd.R_reads' R_113000.out).2.2 t19 p22 q22
   cases e22
   replace p22 := eq_true p22
   replace q22 := eq_true q22
   refine sT 11 (fun w' => w'.cell? ⟨g12, 0, none⟩ = some (.slice (some ad22) t3.length co9) ∧ w'.cell? ⟨g12, 1, none⟩ = some (.int .i64 t6) ∧ w'.cell? ⟨g12, 2, none⟩ = some (.int .i64 t7) ∧ w'.cell? ⟨g12, 3, none⟩ = some (.int .i64 t8) ∧ w'.cell? ⟨g12, 4, none⟩ = some (.int .i64 t9) ∧ w'.cell? (ad22.add ((t19).toNat * 3)) = some (.int .i64 ((rd_T33 t3 t19).f0)) ∧ w'.cell? ⟨(ad22.add ((t19).toNat * 3)).block, (ad22.add ((t19).toNat * 3)).off + 1, none⟩ = some (.int .i64 ((rd_T33 t3 t19).f1)) ∧ w'.cell? ⟨(ad22.add ((t19).toNat * 3)).block, (ad22.add ((t19).toNat * 3)).off + 2, none⟩ = some (.int .i64 ((rd_T33 t3 t19).f2))) [] Fl.tab5 Fl.bits5 ⟨bc B12 0, bc B12 1, bc B12 2, bc B12 3, bc B12 4, hx22_0, hx22_1, hx22_2⟩ fun hHeld HT_ HW_ => ?_
   generalize wc.drew = w28 at R_113000 B1 B12 HI102 HB hx22_0 hx22_1 hx22_2 hHeld ⊢
   refine Pu 0 ?_
   refine Pu 2 ?_
   refine Pu 3 ?_
   refine Ta 1 ?_
   refine Ta 4 ?_
   refine Pu 5 ?_
   refine oN 6 fun K hK => ?_
   refine gO Tryz.func48 #[.pointer (some ⟨g2, 0, none⟩), .int .i64 (t3.length : Int)] ?_
   with_reducible refine (Faf.calls g2 l0 x103001_3 x103002_3 (t3.length : Int) t19 t20 t21 w _ ?side1 ?side2 A24.out).mono ?_
   (case side1 => exact IsS54.below HI102.out Ho.Steps.below)
   (case side2 => exact eS HB.out)
   rintro e w29 ⟨rfl, hi, hb, hk⟩
   have HS5_ := keep_cell hk (hHeld.2.2.2.2.2.1) (by first | (rw [add_block]; exact Kd.own_blk (IsS54.own_ne HI102.out R_113000.out (by decide))) | (show (Addr.add _ _).block ≠ _; rw [add_block]; exact Kd.own_blk (IsS54.own_ne HI102.out R_113000.out (by decide))) | exact Kd.own_blk (IsS54.own_ne HI102.out R_113000.out (by decide)))
   have HS6_ := keep_cell hk (hHeld.2.2.2.2.2.2.1) (by first | (rw [add_block]; exact Kd.own_blk (IsS54.own_ne HI102.out R_113000.out (by decide))) | (show (Addr.add _ _).block ≠ _; rw [add_block]; exact Kd.own_blk (IsS54.own_ne HI102.out R_113000.out (by decide))) | exact Kd.own_blk (IsS54.own_ne HI102.out R_113000.out (by decide)))
   have HS7_ := keep_cell hk (hHeld.2.2.2.2.2.2.2) (by first | (rw [add_block]; exact Kd.own_blk (IsS54.own_ne HI102.out R_113000.out (by decide))) | (show (Addr.add _ _).block ≠ _; rw [add_block]; exact Kd.own_blk (IsS54.own_ne HI102.out R_113000.out (by decide))) | exact Kd.own_blk (IsS54.own_ne HI102.out R_113000.out (by decide)))
   refine ⟨_, rfl, ?_⟩
   replace R_113000 := Ak (Kd.R_mono (Kd.R_keep (IsS54.apart (show IsS54 w _ g2 l0 x103001_3 x103002_3 from by exact IsS54.below HI102.out Ho.Steps.below) (by exact Ho.RS <| R_113000.out) (by decide)) hk (fun _ h => h.2)) (fun _ h => h.1))
   replace B1 := kK B1 hk N1_2
   replace B12 := kK B12 hk N12_2
   replace HB := Ak hb
   replace HI102 := Ak hi
   clear hb hk hi
   refine hK.out _ _ ⟨bc B12 0, bc B12 1, bc B12 2, bc B12 3, bc B12 4, HS5_, HS6_, HS7_⟩ (fun hHeld => ?_)
   clear hK K
   refine nO 30 ?_
   refine Pu 7 ?_
   refine Pu 8 ?_
   refine Ta 9 ?_
   refine Pu 10 ?_
   refine dO ?_
   try go_wp2
   replace R_113000 := rD R_113000
   replace B1 := kD B1
   replace B12 := kD B12
   replace HI102 := Ak (IsS54.drew HI102.out)
   replace HB := bD HB
   refine sT 8 (H5 g12 (.slice (some ad22) t3.length co9) (.int .i64 t6) (.int .i64 t7) (.int .i64 t8) (.int .i64 t9)) [] Fl.tab6 Fl.bits6 (h5 B12) fun hHeld HT_ HW_ => ?_
   generalize w29.drew = w30 at R_113000 B1 B12 HI102 HB hHeld ⊢
   refine Pu 1 ?_
   refine Pu 2 ?_
   refine Ta 0 ?_
   refine oN 3 fun K hK => ?_
   refine Kd.R_lit_step (Kd.int .i64) _ 3 ?hg (N := 37) ?hd (xs := ([1, 40, 60, 500, 549, 20000, 100000, 0, 100001] : List Int)) (inner := [.int .i64 1, .int .i64 40, .int .i64 60, .int .i64 500, .int .i64 549, .int .i64 20000, .int .i64 100000, .int .i64 0, .int .i64 100001]) (ok := fun _ => True) (okp := fun _ => True) ?hr ?hp (fun _ hk => hk) trivial (Below.refl _ _) (Nat.le_refl _) (by simp) ?_
   (case hd => rfl)
   (case hg => rfl)
   (case hr => first | (go_simp; done) | (go_simp; rfl))
   (case hp => exact Rz)
   intro v24 w31 ho32 hb hg_ hnew_
   clear hg_ hnew_
   (first | rw [← Ny23.out] at ho32 | (simp only [Int.reduceToNat] at ho32; rw [← Ny23.out] at ho32))
   have R25 := lw HB ho32
   replace R_113000 := rT R_113000 hb
   replace B1 := kT B1 hb
   replace B12 := kT B12 hb
   replace HI102 := Ak (IsS54.below (by exact IsS54.below HI102.out Ho.Steps.below) hb)
   replace HB := bT HB hb
   clear hb ho32
   obtain ⟨Ao33, co33, eo33⟩ := Kd.R_slice R25.out
   (first | subst eo33 | (injection eo33 with f1_ f2_ f3_; have f4_ := f1_.symm; have f5_ := f3_.symm; clear f1_ f2_ f3_; subst f4_; subst f5_))
   refine hK.out _ _ (h5 B12) (fun hHeld => ?_)
   clear hK K
   refine nO 37 ?_
   refine oN 4 fun K hK => ?_
   refine gO Tryz.func49 #[.pointer (some ⟨g2, 0, none⟩), .slice Ao33 y23.length co33] ?_
   with_reducible refine (Fm.calls g2 l0 t20 t21 _ _ y23 t26 t27 t28 w _ ?side1 ?side2 ?side3 ?side4 ?side5 A27.out).mono ?_
   (case side1 => exact IsS54.below HI102.out Ho.Steps.below)
   (case side2 => exact eS HB.out)
   (case side3 => exact Cs (Kd.R_reads' R25.out).2.2)
   (case side4 => exact (Kd.R_reads' R25.out).2.1)
   (case side5 => exact far_slice (IsS54.own_ne HI102.out R25.out (by decide)))
   rintro e w34 ⟨rfl, hi, hb, hk⟩
   refine ⟨_, rfl, ?_⟩
   replace R_113000 := Ak (Kd.R_mono (Kd.R_keep (IsS54.apart (show IsS54 w _ g2 l0 t20 t21 from by exact IsS54.below HI102.out Ho.Steps.below) (by exact Ho.RS <| R_113000.out) (by decide)) hk (fun _ h => h.2)) (fun _ h => h.1))
   replace B1 := kK B1 hk N1_2
   replace B12 := kK B12 hk N12_2
   replace R25 := Ak (Kd.R_mono (Kd.R_keep (IsS54.apart (show IsS54 w _ g2 l0 t20 t21 from by exact IsS54.below HI102.out Ho.Steps.below) (by exact Ho.RS <| R25.out) (by decide)) hk (fun _ h => h.2)) (fun _ h => h.1))
   replace HB := Ak hb
   replace HI102 := Ak hi
   clear hb hk hi
   refine hK.out _ _ (h5 B12) (fun hHeld => ?_)
   clear hK K
   refine nO 38 ?_
   refine oN 5 fun K hK => ?_
   have hs35 := Sq.c5 B1.out
   have hns35_1 := nP N12_1
   refine sK ?_
   refine hK.out _ _ ⟨(cf5 N12_1.out hHeld.1), (cf5 N12_1.out hHeld.2.1), (cf5 N12_1.out hHeld.2.2.1), (cf5 N12_1.out hHeld.2.2.2.1), (cf5 N12_1.out hHeld.2.2.2.2)⟩ (fun hHeld => ?_)
   clear hK K
   refine Pu 6 ?_
   refine Pu 7 ?_
   refine dO ?_
   try go_wp2
   refine bodyPost_ret (results_ctt rfl _ _ g1 26 #[.slice (some ad22) t3.length co9, .int .i64 t6, .int .i64 t7, .int .i64 t8, .int .i64 t9] (0, 0) _ rfl (by apply Sq.put5; exact bS B1.out) Tryz.underlying26 rfl (by kernel_rfl)) rfl ?_
   exact ⟨_, Ez, rY5 R_113000 B1 (fun _ hk => trivial), by repeat (first | (with_reducible first | exact HB.out | apply below_alloc | apply pw_below_drewN | apply below_drew1 | refine below_set ?_ (IsS54.ge HI102.out) | refine below_set ?_ E1.out | refine below_set ?_ E12.out) | exact HB.out)⟩
end
section
attribute [local go_sem ↓] Ho.isSome_setCell_
/-! ### Fam: function 5 -/
def Fam.f (k : Nat) (l0 : List Int) : Option ((List (S33)) × Int × Int × Int × Int × Int × Int) := (Fl.f k l0).bind fun bt102 => (some (bt102.1, bt102.2.1, bt102.2.2.1, bt102.2.2.2.1, bt102.2.2.2.2.1, bt102.2.2.2.2.2.1, bt102.2.2.2.2.2.2))
theorem Fam.mono : ∀ a0 k, LeO (Fam.f k a0) (Fam.f (k + 1) a0) := by
  intro a0 k
  unfold Fam.f
  repeat' (with_reducible first | apply Fl.mono | exact LeO.refl _ | exact LeO.none _ | refine LeO.ite ?_ ?_ | refine LeO.bind ?_ (fun _ => ?_))
theorem Fam.calls (k : Nat) (A0 : Option Addr) (c0 : Nat) (l0 : List Int) (r1 : List (S33)) (r2 : Int) (r3 : Int) (r4 : Int) (r5 : Int) (r6 : Int) (r7 : Int) (w : World) (hr0 : Kd.C (Kd.int .u8) w A0 l0.length l0) (hc0 : l0.length ≤ c0) (h : Fam.f k l0 = some (r1, r2, r3, r4, r5, r6, r7)) :
  Calls Tryz.prog 5 #[.slice A0 l0.length c0] w fun e w' => ∃ v0_ : Value, e = .returned (.tuple #[.agg #[v0_, .int .i64 r2, .int .i64 r3, .int .i64 r4, .int .i64 r5], .int .i64 r6, .int .i64 r7]) ∧ Kd.R k33 33 w' w.heap.size (fun _ => True) v0_ r1 ∧ Below w.heap.size w w' := by
 have hu26 := Tryz.underlying26
 have HR0 := Aside0.mk hr0
 have HC0 := Aside0.mk hc0
 clear hr0 hc0
 have HB := Aside0.mk (Below.refl w.heap.size w)
 have H := h
 clear h
 unfold Fam.f at H
 obtain ⟨⟨t2, t5, t6, t7, t8, t9, t10⟩, A2, H⟩ := bn H
 (try dsimp only at H)
 simp only [Option.some.injEq, Prod.mk.injEq] at H
 obtain ⟨rfl, rfl, rfl, rfl, rfl, rfl, rfl⟩ := H
 go_enter Tryz.func5, Tryz.ntmps5
 go_wp2_with (first | (refine bE 2 26 #[.slice none 0 0, .int .i64 0, .int .i64 0, .int .i64 0, .int .i64 0] ?_; intro g1 hg w3 B1 hb; have E1 := gW HB hg; replace HB := bT HB hb; clear hb hg) | (refine cE (some 6) Tryz.func17 #[.slice A0 l0.length c0] ?_; (with_reducible refine (Fl.calls k _ _ l0 t2 t5 t6 t7 t8 t9 t10 _ ?side1 ?side2 A2.out).mono ?_); (case side1 => exact Cs (Kd.C_below HR0.out HB.out)); (case side2 => exact HC0.out); rintro e w4 ⟨v3, rfl, ho0, hb⟩; refine ⟨_, rfl, ?_⟩; have R4 := lw HB ho0; replace B1 := kT B1 hb; replace HB := bT HB hb; clear hb; (try clear ho0); obtain ⟨Ao5, co5, eo5⟩ := Kd.R_slice R4.out; subst eo5; have hz6 := Sq.c5 B1.out))
 refine bodyPost_ret (results_ctt rfl _ _ g1 26 #[.slice Ao5 t2.length co5, .int .i64 t5, .int .i64 t6, .int .i64 t7, .int .i64 t8] (0, 0) _ rfl (by apply Sq.put5; exact bS B1.out) Tryz.underlying26 rfl (by kernel_rfl)) rfl ?_
 exact ⟨_, Ez, rY5 R4 B1 (fun _ hk => trivial), Bq⟩
end
section
attribute [local go_sem ↓] Ho.isSome_setCell_
/-! ### Far: function 36 -/
def Far.f (k : Nat) (l0 : List Int) : Option ((List (S33)) × Int × Int × Int × Int) := (Fh.f k l0 0 0).bind fun bt103 => (some (bt103.1, bt103.2.1, bt103.2.2.1, bt103.2.2.2.1, bt103.2.2.2.2.1))
theorem Far.mono : ∀ a0 k, LeO (Far.f k a0) (Far.f (k + 1) a0) := by
  intro a0 k
  unfold Far.f
  repeat' (with_reducible first | apply Fh.mono | exact LeO.refl _ | exact LeO.none _ | refine LeO.ite ?_ ?_ | refine LeO.bind ?_ (fun _ => ?_))
theorem Far.calls (k : Nat) (A0 : Option Addr) (c0 : Nat) (l0 : List Int) (r1 : List (S33)) (r2 : Int) (r3 : Int) (r4 : Int) (r5 : Int) (w : World) (hr0 : Kd.C (Kd.int .u8) w A0 l0.length l0) (hc0 : l0.length ≤ c0) (h : Far.f k l0 = some (r1, r2, r3, r4, r5)) :
  Calls Tryz.prog 36 #[.slice A0 l0.length c0] w fun e w' => ∃ v0_ : Value, e = .returned (.agg #[v0_, .int .i64 r2, .int .i64 r3, .int .i64 r4, .int .i64 r5]) ∧ Kd.R k33 33 w' w.heap.size (fun _ => True) v0_ r1 ∧ Below w.heap.size w w' := by
 have hu26 := Tryz.underlying26
 have hu54 := Tryz.underlying54
 have HR0 := Aside0.mk hr0
 have HC0 := Aside0.mk hc0
 clear hr0 hc0
 have HB := Aside0.mk (Below.refl w.heap.size w)
 have H := h
 clear h
 unfold Far.f at H
 obtain ⟨⟨t3, t6, t7, t8, t9, t10, t11⟩, A2, H⟩ := bn H
 (try dsimp only at H)
 simp only [Option.some.injEq, Prod.mk.injEq] at H
 obtain ⟨rfl, rfl, rfl, rfl, rfl⟩ := H
 go_enter Tryz.func36, Tryz.ntmps36
 go_wp2_with (first | (refine bE 2 26 #[.slice none 0 0, .int .i64 0, .int .i64 0, .int .i64 0, .int .i64 0] ?_; intro g1 hg w3 B1 hb; have E1 := gW HB hg; replace HB := bT HB hb; clear hb hg) | (refine bE 6 54 #[.slice A0 l0.length c0, .int .i64 0, .int .u64 0] ?_; intro g2 hg w4 B2 hb; have E2 := gW HB hg; obtain ⟨N1_2, N2_1⟩ := nB B1 hg; replace B1 := kT B1 hb; replace HB := bT HB hb; clear hb hg; have HI102 := Aside0.mk (show IsS54 w w4 g2 l0 0 0 from ⟨_, _, ks B2, E2.out, HR0.out⟩); clear B2) | (refine cE (some 8) Tryz.func33 #[.pointer (some ⟨g2, 0, none⟩)] ?_; (with_reducible refine (Fh.calls k g2 l0 0 0 t3 t6 t7 t8 t9 t10 t11 w _ ?side1 ?side2 A2.out).mono ?_); (case side1 => exact IsS54.below HI102.out Ho.Steps.below); (case side2 => exact eS HB.out); rintro e w5 ⟨v4, rfl, ho0, hi, hb, hk⟩; refine ⟨_, rfl, ?_⟩; have R5 := lw HB ho0; replace B1 := kK B1 hk N1_2; replace HB := Ak hb; replace HI102 := Ak hi; clear hb hk hi; (try clear ho0); obtain ⟨Ao6, co6, eo6⟩ := Kd.R_slice R5.out; subst eo6; have hnb7 := nP N1_2; have hz8 := Sq.c5 B1.out))
 refine bodyPost_ret (results_cell_row rfl _ _ g1 26 #[.slice Ao6 t3.length co6, .int .i64 t6, .int .i64 t7, .int .i64 t8, .int .i64 t9] (0, 0) _ rfl (by apply Sq.put5; exact bS B1.out) Tryz.underlying26 rfl (by kernel_rfl)) rfl ?_
 exact ⟨_, Ez, rY5 R5 B1 (fun _ hk => trivial), by repeat (first | (with_reducible first | exact HB.out | apply below_alloc | apply pw_below_drewN | apply below_drew1 | refine below_set ?_ (IsS54.ge HI102.out) | refine below_set ?_ E1.out) | exact HB.out)⟩
end
section
attribute [local go_sem ↓] Ho.isSome_setCell_
/-! ### Fae: function 13 -/
def Fae.f (k : Nat) (l0 : List Int) : Option ((List (S33)) × Int × Int × Int × Int) := (Far.f k l0).bind fun bt102 => (some (bt102.1, bt102.2.1, bt102.2.2.1, bt102.2.2.2.1, bt102.2.2.2.2))
theorem Fae.mono : ∀ a0 k, LeO (Fae.f k a0) (Fae.f (k + 1) a0) := by
  intro a0 k
  unfold Fae.f
  repeat' (with_reducible first | apply Far.mono | exact LeO.refl _ | exact LeO.none _ | refine LeO.ite ?_ ?_ | refine LeO.bind ?_ (fun _ => ?_))
theorem Fae.calls (k : Nat) (A0 : Option Addr) (c0 : Nat) (l0 : List Int) (r1 : List (S33)) (r2 : Int) (r3 : Int) (r4 : Int) (r5 : Int) (w : World) (hr0 : Kd.C (Kd.int .u8) w A0 l0.length l0) (hc0 : l0.length ≤ c0) (h : Fae.f k l0 = some (r1, r2, r3, r4, r5)) :
  Calls Tryz.prog 13 #[.slice A0 l0.length c0] w fun e w' => ∃ v0_ : Value, e = .returned (.agg #[v0_, .int .i64 r2, .int .i64 r3, .int .i64 r4, .int .i64 r5]) ∧ Kd.R k33 33 w' w.heap.size (fun _ => True) v0_ r1 ∧ Below w.heap.size w w' := by
 have hu26 := Tryz.underlying26
 have HR0 := Aside0.mk hr0
 have HC0 := Aside0.mk hc0
 clear hr0 hc0
 have HB := Aside0.mk (Below.refl w.heap.size w)
 have H := h
 clear h
 unfold Fae.f at H
 obtain ⟨⟨t2, t5, t6, t7, t8⟩, A2, H⟩ := bn H
 (try dsimp only at H)
 simp only [Option.some.injEq, Prod.mk.injEq] at H
 obtain ⟨rfl, rfl, rfl, rfl, rfl⟩ := H
 go_enter Tryz.func13, Tryz.ntmps13
 go_wp2_with (first | (refine bE 2 26 #[.slice none 0 0, .int .i64 0, .int .i64 0, .int .i64 0, .int .i64 0] ?_; intro g1 hg w3 B1 hb; have E1 := gW HB hg; replace HB := bT HB hb; clear hb hg) | (refine cE (some 4) Tryz.func36 #[.slice A0 l0.length c0] ?_; (with_reducible refine (Far.calls k _ _ l0 t2 t5 t6 t7 t8 _ ?side1 ?side2 A2.out).mono ?_); (case side1 => exact Cs (Kd.C_below HR0.out HB.out)); (case side2 => exact HC0.out); rintro e w4 ⟨v3, rfl, ho0, hb⟩; refine ⟨_, rfl, ?_⟩; have R4 := lw HB ho0; replace B1 := kT B1 hb; replace HB := bT HB hb; clear hb; (try clear ho0); obtain ⟨Ao5, co5, eo5⟩ := Kd.R_slice R4.out; subst eo5; have hz6 := Sq.c5 B1.out))
 refine bodyPost_ret (results_cell_row rfl _ _ g1 26 #[.slice Ao5 t2.length co5, .int .i64 t5, .int .i64 t6, .int .i64 t7, .int .i64 t8] (0, 0) _ rfl (by apply Sq.put5; exact bS B1.out) Tryz.underlying26 rfl (by kernel_rfl)) rfl ?_
 exact ⟨_, Ez, rY5 R4 B1 (fun _ hk => trivial), Bq⟩
end
section
attribute [local go_sem ↓] Ho.isSome_setCell_
/-! ### Fas: function 12 -/
def Fas.f (k : Nat) (l0_0 : List (S33)) (a0_1 : Int) (a0_2 : Int) (a0_3 : Int) (a0_4 : Int) (a1 : Int) : Option (Int × Bool) := (Ff.f k l0_0 a0_1 a0_2 a0_3 a0_4).bind fun t102 => (if t102 = true then ((Fah.f a1).bind fun t103 => (if t103 = true then ((Fac.f k l0_0 a0_1 a0_2 a0_3 a0_4 a1).bind fun t104 => (some (t104, true))) else (some (0, false)))) else (some (0, false)))
theorem Fas.mono : ∀ a0 a1 a2 a3 a4 a5 k, LeO (Fas.f k a0 a1 a2 a3 a4 a5) (Fas.f (k + 1) a0 a1 a2 a3 a4 a5) := by
  intro a0 a1 a2 a3 a4 a5 k
  unfold Fas.f
  repeat' (with_reducible first | apply Ff.mono | apply Fac.mono | exact LeO.refl _ | exact LeO.none _ | refine LeO.ite ?_ ?_ | refine LeO.bind ?_ (fun _ => ?_))
theorem Fas.calls (k : Nat) (A0_0 : Option Addr) (c0_0 : Nat) (l0_0 : List (S33)) (a0_1 : Int) (a0_2 : Int) (a0_3 : Int) (a0_4 : Int) (a1 : Int) (r1 : Int) (r2 : Bool) (w : World) (hr0_0 : Kd.C k33 w A0_0 l0_0.length l0_0) (hc0_0 : l0_0.length ≤ c0_0) (h : Fas.f k l0_0 a0_1 a0_2 a0_3 a0_4 a1 = some (r1, r2)) :
  Calls Tryz.prog 12 #[.agg #[.slice A0_0 l0_0.length c0_0, .int .i64 a0_1, .int .i64 a0_2, .int .i64 a0_3, .int .i64 a0_4], .int .i64 a1] w fun e w' => e = .returned (.tuple #[.int .i64 r1, .bool r2]) ∧ Below w.heap.size w w' := by
 have hu26 := Tryz.underlying26
 have HR0_0 := Aside0.mk hr0_0
 have HC0_0 := Aside0.mk hc0_0
 clear hr0_0 hc0_0
 have HB := Aside0.mk (Below.refl w.heap.size w)
 have H := h
 clear h
 unfold Fas.f at H
 obtain ⟨t2, A3, H⟩ := bn H
 (try dsimp only at H)
 by_cases c4 : t2 = true
 subst c4
 rw [if_pos rfl] at H
 obtain ⟨t3, A5, H⟩ := bn H
 (try dsimp only at H)
 by_cases c6 : t3 = true
 subst c6
 rw [if_pos rfl] at H
 obtain ⟨t4, A7, H⟩ := bn H
 (try dsimp only at H)
 simp only [Option.some.injEq, Prod.mk.injEq] at H
 obtain ⟨rfl, rfl⟩ := H
 have WAY0 := True.intro
 rotate_left
 replace c6 := Bool.eq_false_iff.mpr c6
 subst c6
 rw [if_neg (show ¬ (false = true) by decide)] at H
 simp only [Option.some.injEq, Prod.mk.injEq] at H
 obtain ⟨rfl, rfl⟩ := H
 have WAY1 := True.intro
 rotate_left
 replace c4 := Bool.eq_false_iff.mpr c4
 subst c4
 rw [if_neg (show ¬ (false = true) by decide)] at H
 simp only [Option.some.injEq, Prod.mk.injEq] at H
 obtain ⟨rfl, rfl⟩ := H
 have WAY2 := True.intro
 rotate_left
 all_goals
  go_enter Tryz.func12, Tryz.ntmps12
  go_wp2_with (first | (refine bE 2 26 #[.slice A0_0 l0_0.length c0_0, .int .i64 a0_1, .int .i64 a0_2, .int .i64 a0_3, .int .i64 a0_4] ?_; intro g1 hg w8 B1 hb; have E1 := gW HB hg; replace HB := bT HB hb; clear hb hg; have hz9 := Sq.c5 B1.out) | ((first | guard_hyp WAY0 : True | guard_hyp WAY1 : True); (refine cE (some 7) Tryz.func24 #[.agg #[.slice A0_0 l0_0.length c0_0, .int .i64 a0_1, .int .i64 a0_2, .int .i64 a0_3, .int .i64 a0_4]] ?_; (with_reducible refine (Ff.calls k _ _ l0_0 a0_1 a0_2 a0_3 a0_4 true _ ?side1 ?side2 A3.out).mono ?_); (case side1 => exact Cs (Kd.C_below HR0_0.out HB.out)); (case side2 => exact HC0_0.out); rintro e w10 ⟨rfl, hb⟩; refine ⟨_, rfl, ?_⟩; replace B1 := kT B1 hb; replace HB := bT HB hb; clear hb)) | ((guard_hyp WAY0 : True); (go_at_call 25; (with_reducible refine (Fah.calls a1 true _ A5.out).mono ?_); rintro e w' ⟨rfl, ⟨nd, rfl⟩⟩; have hz11 := Sq.c5 B1.out)) | ((guard_hyp WAY0 : True); (refine cE (some 16) Tryz.func35 #[.agg #[.slice A0_0 l0_0.length c0_0, .int .i64 a0_1, .int .i64 a0_2, .int .i64 a0_3, .int .i64 a0_4], .int .i64 a1] ?_; (with_reducible refine (Fac.calls k _ _ l0_0 a0_1 a0_2 a0_3 a0_4 a1 t4 _ ?side1 ?side2 A7.out).mono ?_); (case side1 => exact Kd.C_below HR0_0.out (es HB)); (case side2 => exact HC0_0.out); rintro e w12 ⟨rfl, hb⟩; refine ⟨_, rfl, ?_⟩; replace B1 := kT B1 hb; replace HB := bT HB hb; clear hb)) | ((guard_hyp WAY1 : True); (go_at_call 25; (with_reducible refine (Fah.calls a1 false _ A5.out).mono ?_); rintro e w' ⟨rfl, ⟨nd, rfl⟩⟩)) | ((guard_hyp WAY2 : True); (refine cE (some 7) Tryz.func24 #[.agg #[.slice A0_0 l0_0.length c0_0, .int .i64 a0_1, .int .i64 a0_2, .int .i64 a0_3, .int .i64 a0_4]] ?_; (with_reducible refine (Ff.calls k _ _ l0_0 a0_1 a0_2 a0_3 a0_4 false _ ?side1 ?side2 A3.out).mono ?_); (case side1 => exact Cs (Kd.C_below HR0_0.out HB.out)); (case side2 => exact HC0_0.out); rintro e w18 ⟨rfl, hb⟩; refine ⟨_, rfl, ?_⟩; replace B1 := kT B1 hb; replace HB := bT HB hb; clear hb)))
  go_ret2
  exact ⟨Ez, by exact eS HB.out⟩
end
section
attribute [local go_sem ↓] Ho.isSome_setCell_
/-! ### Fr: function 9 -/
mutual
def Fr.j0 : Nat → Int → Int → Bool → List (S33) → Int → Int → Int → Int → Option (Int × Bool)
  | 0, _, _, _, _, _, _, _, _ => none
  | k + 1, x1, x2, x23, x102000, x102001, x102002, x102003, x102004 => if x23 = true then (some (0, false)) else (Fr.l0 k x1 x2 (-1) 0 x102000 x102001 x102002 x102003 x102004)
def Fr.l0 : Nat → Int → Int → Int → Int → List (S33) → Int → Int → Int → Int → Option (Int × Bool)
  | 0, _, _, _, _, _, _, _, _, _ => none
  | k + 1, x1, x2, x8, x9, x102000, x102001, x102002, x102003, x102004 => if x9 < (x102000.length : Int) then (if 0 ≤ x9 then (if ((rd_T33 x102000 x9).f1) = x1 then (if ((rd_T33 x102000 x9).f2) ≥ x2 then (if x8 < 0 then (Fr.l0 k x1 x2 x9 (wrap64 (x9 + 1)) x102000 x102001 x102002 x102003 x102004) else (if 0 ≤ x8 then (if x8 < (x102000.length : Int) then (if ((rd_T33 x102000 x9).f2) < ((rd_T33 x102000 x8).f2) then (Fr.l0 k x1 x2 x9 (wrap64 (x9 + 1)) x102000 x102001 x102002 x102003 x102004) else (Fr.l0 k x1 x2 x8 (wrap64 (x9 + 1)) x102000 x102001 x102002 x102003 x102004)) else (none)) else (none))) else (Fr.l0 k x1 x2 x8 (wrap64 (x9 + 1)) x102000 x102001 x102002 x102003 x102004)) else (Fr.l0 k x1 x2 x8 (wrap64 (x9 + 1)) x102000 x102001 x102002 x102003 x102004)) else (none)) else (if x8 < 0 then (some (0, false)) else (if 0 ≤ x8 then (if x8 < (x102000.length : Int) then (some ((rd_T33 x102000 x8).f0, true)) else (none)) else (none)))
end
def Fr.f (k : Nat) (l0_0 : List (S33)) (a0_1 : Int) (a0_2 : Int) (a0_3 : Int) (a0_4 : Int) (a1 : Int) (a2 : Int) : Option (Int × Bool) := (Ff.f k l0_0 a0_1 a0_2 a0_3 a0_4).bind fun t102 => (if t102 = true then ((Fah.f a1).bind fun t103 => (if t103 = true then ((Fal.f a2).bind fun t104 => (Fr.j0 k a1 a2 (!t104) l0_0 a0_1 a0_2 a0_3 a0_4)) else (Fr.j0 k a1 a2 true l0_0 a0_1 a0_2 a0_3 a0_4))) else (Fr.j0 k a1 a2 true l0_0 a0_1 a0_2 a0_3 a0_4))
theorem Fr.mono_l : ∀ k, (∀ y0 y1 y2 y3 y4 y5 y6 y7, LeO (Fr.j0 k y0 y1 y2 y3 y4 y5 y6 y7) (Fr.j0 (k + 1) y0 y1 y2 y3 y4 y5 y6 y7)) ∧ (∀ y0 y1 y2 y3 y4 y5 y6 y7 y8, LeO (Fr.l0 k y0 y1 y2 y3 y4 y5 y6 y7 y8) (Fr.l0 (k + 1) y0 y1 y2 y3 y4 y5 y6 y7 y8))
  | 0 => ⟨fun _ _ _ _ _ _ _ _ r h => by simp [Fr.j0] at h, fun _ _ _ _ _ _ _ _ _ r h => by simp [Fr.l0] at h⟩
  | k + 1 => by
    obtain ⟨ih0, ih1⟩ := Fr.mono_l k
    refine ⟨?_, ?_⟩
    · intro y0 y1 y2 y3 y4 y5 y6 y7
      unfold Fr.j0
      repeat' (with_reducible first | exact ih0 _ _ _ _ _ _ _ _ | exact ih1 _ _ _ _ _ _ _ _ _ | apply Ff.mono | exact LeO.refl _ | exact LeO.none _ | refine LeO.ite ?_ ?_ | refine LeO.bind ?_ (fun _ => ?_))
    · intro y0 y1 y2 y3 y4 y5 y6 y7 y8
      unfold Fr.l0
      repeat' (with_reducible first | exact ih0 _ _ _ _ _ _ _ _ | exact ih1 _ _ _ _ _ _ _ _ _ | apply Ff.mono | exact LeO.refl _ | exact LeO.none _ | refine LeO.ite ?_ ?_ | refine LeO.bind ?_ (fun _ => ?_))
theorem Fr.mono : ∀ a0 a1 a2 a3 a4 a5 a6 k, LeO (Fr.f k a0 a1 a2 a3 a4 a5 a6) (Fr.f (k + 1) a0 a1 a2 a3 a4 a5 a6) := by
  intro a0 a1 a2 a3 a4 a5 a6 k
  obtain ⟨ih0, ih1⟩ := Fr.mono_l k
  unfold Fr.f
  repeat' (with_reducible first | exact ih0 _ _ _ _ _ _ _ _ | exact ih1 _ _ _ _ _ _ _ _ _ | apply Ff.mono | exact LeO.refl _ | exact LeO.none _ | refine LeO.ite ?_ ?_ | refine LeO.bind ?_ (fun _ => ?_))
theorem Fr.calls (k : Nat) (A0_0 : Option Addr) (c0_0 : Nat) (l0_0 : List (S33)) (a0_1 : Int) (a0_2 : Int) (a0_3 : Int) (a0_4 : Int) (a1 : Int) (a2 : Int) (r1 : Int) (r2 : Bool) (w : World) (hr0_0 : Kd.C k33 w A0_0 l0_0.length l0_0) (hc0_0 : l0_0.length ≤ c0_0) (h : Fr.f k l0_0 a0_1 a0_2 a0_3 a0_4 a1 a2 = some (r1, r2)) :
  Calls Tryz.prog 9 #[.agg #[.slice A0_0 l0_0.length c0_0, .int .i64 a0_1, .int .i64 a0_2, .int .i64 a0_3, .int .i64 a0_4], .int .i64 a1, .int .i64 a2] w fun e w' => e = .returned (.tuple #[.int .i64 r1, .bool r2]) ∧ Below w.heap.size w w' := by
 have hu26 := Tryz.underlying26
 have hu33 := Tryz.underlying33
 have HR0_0 := Aside0.mk hr0_0
 have HC0_0 := Aside0.mk hc0_0
 clear hr0_0 hc0_0
 have HB := Aside0.mk (Below.refl w.heap.size w)
 have H := h
 clear h
 unfold Fr.f at H
 have HC4 := Aside0.mk H
 clear H
 go_enter Tryz.func9, Tryz.ntmps9
 go_upto_region 1 with (first | (refine bE 3 26 #[.slice A0_0 l0_0.length c0_0, .int .i64 a0_1, .int .i64 a0_2, .int .i64 a0_3, .int .i64 a0_4] ?_; intro g1 hg w5 B1 hb; have E1 := gW HB hg; replace HB := bT HB hb; clear hb hg))
 repeat (go_quiet (first | (refine bE 3 26 #[.slice A0_0 l0_0.length c0_0, .int .i64 a0_1, .int .i64 a0_2, .int .i64 a0_3, .int .i64 a0_4] ?_; intro g1 hg w5 B1 hb; have E1 := gW HB hg; replace HB := bT HB hb; clear hb hg)); go_upto_region 1 with (fail))
 (try simp only [Act.put, List.setIfInBounds_toArray, List.set_cons_zero, List.set_cons_succ])
 go_cut [23] (fun v23 wc => ∃ (kq : Nat) (x23_3 : Bool), v23 = .bool x23_3 ∧ Aside0 (Fr.j0 kq a1 a2 x23_3 l0_0 a0_1 a0_2 a0_3 a0_4 = some (r1, r2)) ∧ Aside0 (kq ≤ k) ∧ Aside0 (wc.heap[g1]? = some (.cells #[(.slice A0_0 l0_0.length c0_0), .int .i64 a0_1, .int .i64 a0_2, .int .i64 a0_3, .int .i64 a0_4] 26 (0, 0))) ∧ Aside0 (Below w.heap.size w wc))
 case first =>
  have H := HC4.out
  clear HC4
  obtain ⟨t2, A6, H⟩ := bn H
  (try dsimp only at H)
  by_cases c7 : t2 = true
  rotate_left
  ·replace c7 := Bool.eq_false_iff.mpr c7
   subst c7
   rw [if_neg (show ¬ (false = true) by decide)] at H
   have H' := Aside0.mk H
   clear H
   have hz15 := Sq.c5 B1.out
   go_wp2_with (first | (go_at_call 24; (with_reducible refine (Ff.calls k _ _ l0_0 a0_1 a0_2 a0_3 a0_4 false _ ?side1 ?side2 A6.out).mono ?_); (case side1 => exact Cs (Kd.C_below HR0_0.out HB.out)); (case side2 => exact HC0_0.out); rintro e w16 ⟨rfl, hb⟩; replace B1 := kT B1 hb; replace HB := bT HB hb; clear hb))
   repeat (go_quiet (first | (go_at_call 24; (with_reducible refine (Ff.calls k _ _ l0_0 a0_1 a0_2 a0_3 a0_4 false _ ?side1 ?side2 A6.out).mono ?_); (case side1 => exact Cs (Kd.C_below HR0_0.out HB.out)); (case side2 => exact HC0_0.out); rintro e w16 ⟨rfl, hb⟩; replace B1 := kT B1 hb; replace HB := bT HB hb; clear hb)); try go_wp2)
   go_meet
   case rel => exact ⟨_, (true), Ey, H', ⟨by first | omega | exact Nat.le_refl _⟩, ⟨ks B1⟩, ⟨es HB⟩⟩
  subst c7
  rw [if_pos rfl] at H
  obtain ⟨t3, A8, H⟩ := bn H
  (try dsimp only at H)
  by_cases c9 : t3 = true
  rotate_left
  ·replace c9 := Bool.eq_false_iff.mpr c9
   subst c9
   rw [if_neg (show ¬ (false = true) by decide)] at H
   have H' := Aside0.mk H
   clear H
   have hz13 := Sq.c5 B1.out
   go_wp2_with (first | (go_at_call 24; (with_reducible refine (Ff.calls k _ _ l0_0 a0_1 a0_2 a0_3 a0_4 true _ ?side1 ?side2 A6.out).mono ?_); (case side1 => exact Cs (Kd.C_below HR0_0.out HB.out)); (case side2 => exact HC0_0.out); rintro e w14 ⟨rfl, hb⟩; replace B1 := kT B1 hb; replace HB := bT HB hb; clear hb) | (go_at_call 25; (with_reducible refine (Fah.calls a1 false _ A8.out).mono ?_); rintro e w' ⟨rfl, ⟨nd, rfl⟩⟩; (try first | exact ⟨rfl, _, World.drewN_drewN _ _ _⟩ | exact ⟨rfl, _, Eq.trans (World.drewN_drewN _ _ _) (congrArg (World.drewN _) (Nat.add_assoc _ _ _))⟩)))
   repeat (go_quiet (first | (go_at_call 24; (with_reducible refine (Ff.calls k _ _ l0_0 a0_1 a0_2 a0_3 a0_4 true _ ?side1 ?side2 A6.out).mono ?_); (case side1 => exact Cs (Kd.C_below HR0_0.out HB.out)); (case side2 => exact HC0_0.out); rintro e w14 ⟨rfl, hb⟩; replace B1 := kT B1 hb; replace HB := bT HB hb; clear hb) | (go_at_call 25; (with_reducible refine (Fah.calls a1 false _ A8.out).mono ?_); rintro e w' ⟨rfl, ⟨nd, rfl⟩⟩; (try first | exact ⟨rfl, _, World.drewN_drewN _ _ _⟩ | exact ⟨rfl, _, Eq.trans (World.drewN_drewN _ _ _) (congrArg (World.drewN _) (Nat.add_assoc _ _ _))⟩))); try go_wp2)
   go_meet
   case rel => exact ⟨_, (true), Ey, H', ⟨by first | omega | exact Nat.le_refl _⟩, ⟨ks B1⟩, ⟨es HB⟩⟩
  subst c9
  rw [if_pos rfl] at H
  obtain ⟨t4, A10, H⟩ := bn H
  (try dsimp only at H)
  have H' := Aside0.mk H
  clear H
  have hz11 := Sq.c5 B1.out
  go_wp2_with (first | (go_at_call 24; (with_reducible refine (Ff.calls k _ _ l0_0 a0_1 a0_2 a0_3 a0_4 true _ ?side1 ?side2 A6.out).mono ?_); (case side1 => exact Cs (Kd.C_below HR0_0.out HB.out)); (case side2 => exact HC0_0.out); rintro e w12 ⟨rfl, hb⟩; replace B1 := kT B1 hb; replace HB := bT HB hb; clear hb) | (go_at_call 25; (with_reducible refine (Fah.calls a1 true _ A8.out).mono ?_); rintro e w' ⟨rfl, ⟨nd, rfl⟩⟩; (try first | exact ⟨rfl, _, World.drewN_drewN _ _ _⟩ | exact ⟨rfl, _, Eq.trans (World.drewN_drewN _ _ _) (congrArg (World.drewN _) (Nat.add_assoc _ _ _))⟩)) | (go_at_call 26; (with_reducible refine (Fal.calls a2 t4 _ A10.out).mono ?_); rintro e w' ⟨rfl, ⟨nd, rfl⟩⟩; (try first | exact ⟨rfl, _, World.drewN_drewN _ _ _⟩ | exact ⟨rfl, _, Eq.trans (World.drewN_drewN _ _ _) (congrArg (World.drewN _) (Nat.add_assoc _ _ _))⟩)))
  repeat (go_quiet (first | (go_at_call 24; (with_reducible refine (Ff.calls k _ _ l0_0 a0_1 a0_2 a0_3 a0_4 true _ ?side1 ?side2 A6.out).mono ?_); (case side1 => exact Cs (Kd.C_below HR0_0.out HB.out)); (case side2 => exact HC0_0.out); rintro e w12 ⟨rfl, hb⟩; replace B1 := kT B1 hb; replace HB := bT HB hb; clear hb) | (go_at_call 25; (with_reducible refine (Fah.calls a1 true _ A8.out).mono ?_); rintro e w' ⟨rfl, ⟨nd, rfl⟩⟩; (try first | exact ⟨rfl, _, World.drewN_drewN _ _ _⟩ | exact ⟨rfl, _, Eq.trans (World.drewN_drewN _ _ _) (congrArg (World.drewN _) (Nat.add_assoc _ _ _))⟩)) | (go_at_call 26; (with_reducible refine (Fal.calls a2 t4 _ A10.out).mono ?_); rintro e w' ⟨rfl, ⟨nd, rfl⟩⟩; (try first | exact ⟨rfl, _, World.drewN_drewN _ _ _⟩ | exact ⟨rfl, _, Eq.trans (World.drewN_drewN _ _ _) (congrArg (World.drewN _) (Nat.add_assoc _ _ _))⟩))); try go_wp2)
  go_meet
  case rel => exact ⟨_, (!t4), Ey, H', ⟨by first | omega | exact Nat.le_refl _⟩, ⟨ks B1⟩, ⟨es HB⟩⟩
 case rest =>
  clear HC4
  try clear p2
  try clear c7
  try clear c9
  (try clear hz11)
  (try clear hz13)
  (try clear hz15)
  obtain ⟨kq, x23_3, rfl, HA, HJ3, B1, HB⟩ := hcut
  cases kq with
  | zero => exact absurd HA.out (by simp [Fr.j0])
  | succ kj3 =>
   have H := HA.out
   clear HA
   simp only [Fr.j0] at H
   by_cases c17 : x23_3 = true
   ·subst c17
    rw [if_pos rfl] at H
    simp only [Option.some.injEq, Prod.mk.injEq] at H
    obtain ⟨rfl, rfl⟩ := H
    go_wp2
    repeat (go_quiet (fail); try go_wp2)
    go_ret2
    exact ⟨Ez, by exact eS HB.out⟩
   replace c17 := Bool.eq_false_iff.mpr c17
   subst c17
   rw [if_neg (show ¬ (false = true) by decide)] at H
   have H' := Aside0.mk H
   clear H
   go_wp2
   repeat (go_quiet (fail); try go_wp2)
   go_loopg [8, 9] kj3 (fun kq v8 v9 w' => ∃ (x8_2 : Int) (x9_2 : Int), v8 = .int .i64 x8_2 ∧ v9 = .int .i64 x9_2 ∧ Aside0 (Fr.l0 kq a1 a2 x8_2 x9_2 l0_0 a0_1 a0_2 a0_3 a0_4 = some (r1, r2)) ∧ Aside0 (kq ≤ kj3) ∧ Aside0 (w'.heap[g1]? = some (.cells #[(.slice A0_0 l0_0.length c0_0), .int .i64 a0_1, .int .i64 a0_2, .int .i64 a0_3, .int .i64 a0_4] 26 (0, 0))) ∧ Aside0 (Below w.heap.size w w'))
   case atStart => exact ⟨((-1)), (0), Ey, Ey, H', ⟨Nat.le_refl _⟩, ⟨ks B1⟩, ⟨es HB⟩⟩
   case round =>
    clear H'
    try clear c1
    try clear p2
    try clear c7
    try clear c9
    try clear c17
    (try clear hz11)
    (try clear hz13)
    (try clear hz15)
    try clear p2
    obtain ⟨x8_2, x9_2, rfl, rfl, HA, HK2, B1, HB⟩ := hrel
    cases gk with
    | zero => exact absurd HA.out (by simp [Fr.l0])
    | succ k2 =>
     have H := HA.out
     clear HA
     simp only [Fr.l0] at H
     by_cases c18 : x9_2 < (l0_0.length : Int)
     rotate_left
     ·rw [if_neg c18] at H
      have c18b0 := decide_eq_false c18
      clear c18
      by_cases c48 : x8_2 < 0
      ·rw [if_pos c48] at H
       have c48b0 := decide_eq_true c48
       clear c48
       simp only [Option.some.injEq, Prod.mk.injEq] at H
       obtain ⟨rfl, rfl⟩ := H
       have hz49 := Sq.c5 B1.out
       go_wp2
       repeat (go_quiet (fail); try go_wp2)
       go_ret2
       exact ⟨Ez, by exact eS HB.out⟩
      rw [if_neg c48] at H
      have c48b0 := decide_eq_false c48
      clear c48
      by_cases c50 : 0 ≤ x8_2
      rotate_left
      ·rw [if_neg c50] at H
       exact absurd H (by simp)
      rw [if_pos c50] at H
      have c50b0 := decide_eq_true c50
      clear c50
      by_cases c51 : x8_2 < (l0_0.length : Int)
      rotate_left
      ·rw [if_neg c51] at H
       exact absurd H (by simp)
      rw [if_pos c51] at H
      have c51b0 := decide_eq_true c51
      clear c51
      simp only [Option.some.injEq, Prod.mk.injEq] at H
      obtain ⟨rfl, rfl⟩ := H
      have hz52 := Sq.c5 B1.out
      have p108 : 0 ≤ (x8_2 : Int) := Dz
      have q8 : x8_2 < (l0_0.length : Int) := Dz
      obtain ⟨ad8, e8, hx8_0, hx8_1, hx8_2⟩ := at_T33 HR0_0.out x8_2 p108 q8
      cases e8
      replace hx8_0 := Sq.cB HB.out hx8_0
      replace hx8_1 := Sq.cB HB.out hx8_1
      replace hx8_2 := Sq.cB HB.out hx8_2
      replace p108 := eq_true p108
      replace q8 := eq_true q8
      go_wp2
      repeat (go_quiet (fail); try go_wp2)
      go_ret2
      exact ⟨Ez, by exact eS HB.out⟩
     rw [if_pos c18] at H
     have c18b0 := decide_eq_true c18
     clear c18
     by_cases c19 : 0 ≤ x9_2
     rotate_left
     ·rw [if_neg c19] at H
      exact absurd H (by simp)
     rw [if_pos c19] at H
     have c19b0 := decide_eq_true c19
     clear c19
     by_cases c20 : ((rd_T33 l0_0 x9_2).f1) = a1
     rotate_left
     ·rw [if_neg c20] at H
      have c20b0 := beq_eq_false_iff_ne.mpr c20
      have c20b1 := bne_iff_ne.mpr c20
      have H' := Aside0.mk H
      clear H
      have hz44 := Sq.c5 B1.out
      have p105 : 0 ≤ (x9_2 : Int) := Dz
      have q5 : x9_2 < (l0_0.length : Int) := Dz
      obtain ⟨ad5, e5, hx5_0, hx5_1, hx5_2⟩ := at_T33 HR0_0.out x9_2 p105 q5
      cases e5
      replace hx5_0 := Sq.cB HB.out hx5_0
      replace hx5_1 := Sq.cB HB.out hx5_1
      replace hx5_2 := Sq.cB HB.out hx5_2
      replace p105 := eq_true p105
      replace q5 := eq_true q5
      go_wp2_with (first | (refine bE 10 33 #[.int .i64 0, .int .i64 0, .int .i64 0] ?_; intro g6 hg w45 B6 hb; have E6 := gW HB hg; obtain ⟨N1_6, N6_1⟩ := nB B1 hg; replace B1 := kT B1 hb; replace HB := bT HB hb; clear hb hg; have hnb46 := nP N6_1; have hz47 := Sq.c3 B6.out))
      repeat (go_quiet (first | (refine bE 10 33 #[.int .i64 0, .int .i64 0, .int .i64 0] ?_; intro g6 hg w45 B6 hb; have E6 := gW HB hg; obtain ⟨N1_6, N6_1⟩ := nB B1 hg; replace B1 := kT B1 hb; replace HB := bT HB hb; clear hb hg; have hnb46 := nP N6_1; have hz47 := Sq.c3 B6.out)); try go_wp2)
      go_roundg k2
      case measure => have := HJ3.out; have := HK2.out; omega
      case rel => exact ⟨(x8_2), (wrap64 (x9_2 + 1)), Ey, Ey, H', ⟨by have := HJ3.out; have := HK2.out; omega⟩, ⟨Kz⟩, ⟨Bq⟩⟩
     rw [if_pos c20] at H
     have c20b0 := beq_iff_eq.mpr c20
     have c20b1 := bne_eq_false_iff_eq.mpr c20
     clear c20
     by_cases c21 : ((rd_T33 l0_0 x9_2).f2) ≥ a2
     rotate_left
     ·rw [if_neg c21] at H
      have c21b0 := decide_eq_false c21
      clear c21
      have H' := Aside0.mk H
      clear H
      have hz40 := Sq.c5 B1.out
      have p105 : 0 ≤ (x9_2 : Int) := Dz
      have q5 : x9_2 < (l0_0.length : Int) := Dz
      obtain ⟨ad5, e5, hx5_0, hx5_1, hx5_2⟩ := at_T33 HR0_0.out x9_2 p105 q5
      cases e5
      replace hx5_0 := Sq.cB HB.out hx5_0
      replace hx5_1 := Sq.cB HB.out hx5_1
      replace hx5_2 := Sq.cB HB.out hx5_2
      replace p105 := eq_true p105
      replace q5 := eq_true q5
      go_wp2_with (first | (refine bE 10 33 #[.int .i64 0, .int .i64 0, .int .i64 0] ?_; intro g6 hg w41 B6 hb; have E6 := gW HB hg; obtain ⟨N1_6, N6_1⟩ := nB B1 hg; replace B1 := kT B1 hb; replace HB := bT HB hb; clear hb hg; have hnb42 := nP N6_1; have hz43 := Sq.c3 B6.out))
      repeat (go_quiet (first | (refine bE 10 33 #[.int .i64 0, .int .i64 0, .int .i64 0] ?_; intro g6 hg w41 B6 hb; have E6 := gW HB hg; obtain ⟨N1_6, N6_1⟩ := nB B1 hg; replace B1 := kT B1 hb; replace HB := bT HB hb; clear hb hg; have hnb42 := nP N6_1; have hz43 := Sq.c3 B6.out)); try go_wp2)
      go_roundg k2
      case measure => have := HJ3.out; have := HK2.out; omega
      case rel => exact ⟨(x8_2), (wrap64 (x9_2 + 1)), Ey, Ey, H', ⟨by have := HJ3.out; have := HK2.out; omega⟩, ⟨Kz⟩, ⟨Bq⟩⟩
     rw [if_pos c21] at H
     have c21b0 := decide_eq_true c21
     clear c21
     by_cases c22 : x8_2 < 0
     ·rw [if_pos c22] at H
      have c22b0 := decide_eq_true c22
      clear c22
      have H' := Aside0.mk H
      clear H
      have hz23 := Sq.c5 B1.out
      have p105 : 0 ≤ (x9_2 : Int) := Dz
      have q5 : x9_2 < (l0_0.length : Int) := Dz
      obtain ⟨ad5, e5, hx5_0, hx5_1, hx5_2⟩ := at_T33 HR0_0.out x9_2 p105 q5
      cases e5
      replace hx5_0 := Sq.cB HB.out hx5_0
      replace hx5_1 := Sq.cB HB.out hx5_1
      replace hx5_2 := Sq.cB HB.out hx5_2
      replace p105 := eq_true p105
      replace q5 := eq_true q5
      go_wp2_with (first | (refine bE 10 33 #[.int .i64 0, .int .i64 0, .int .i64 0] ?_; intro g6 hg w24 B6 hb; have E6 := gW HB hg; obtain ⟨N1_6, N6_1⟩ := nB B1 hg; replace B1 := kT B1 hb; replace HB := bT HB hb; clear hb hg; have hnb25 := nP N6_1; have hz26 := Sq.c3 B6.out))
      repeat (go_quiet (first | (refine bE 10 33 #[.int .i64 0, .int .i64 0, .int .i64 0] ?_; intro g6 hg w24 B6 hb; have E6 := gW HB hg; obtain ⟨N1_6, N6_1⟩ := nB B1 hg; replace B1 := kT B1 hb; replace HB := bT HB hb; clear hb hg; have hnb25 := nP N6_1; have hz26 := Sq.c3 B6.out)); try go_wp2)
      go_roundg k2
      case measure => have := HJ3.out; have := HK2.out; omega
      case rel => exact ⟨(x9_2), (wrap64 (x9_2 + 1)), Ey, Ey, H', ⟨by have := HJ3.out; have := HK2.out; omega⟩, ⟨Kz⟩, ⟨Bq⟩⟩
     rw [if_neg c22] at H
     have c22b0 := decide_eq_false c22
     clear c22
     by_cases c27 : 0 ≤ x8_2
     rotate_left
     ·rw [if_neg c27] at H
      exact absurd H (by simp)
     rw [if_pos c27] at H
     have c27b0 := decide_eq_true c27
     clear c27
     by_cases c28 : x8_2 < (l0_0.length : Int)
     rotate_left
     ·rw [if_neg c28] at H
      exact absurd H (by simp)
     rw [if_pos c28] at H
     have c28b0 := decide_eq_true c28
     clear c28
     by_cases c29 : ((rd_T33 l0_0 x9_2).f2) < ((rd_T33 l0_0 x8_2).f2)
     ·rw [if_pos c29] at H
      have c29b0 := decide_eq_true c29
      clear c29
      have H' := Aside0.mk H
      clear H
      have hz30 := Sq.c5 B1.out
      have p105 : 0 ≤ (x9_2 : Int) := Dz
      have q5 : x9_2 < (l0_0.length : Int) := Dz
      obtain ⟨ad5, e5, hx5_0, hx5_1, hx5_2⟩ := at_T33 HR0_0.out x9_2 p105 q5
      cases e5
      replace hx5_0 := Sq.cB HB.out hx5_0
      replace hx5_1 := Sq.cB HB.out hx5_1
      replace hx5_2 := Sq.cB HB.out hx5_2
      replace p105 := eq_true p105
      replace q5 := eq_true q5
      go_wp2_with (first | (refine bE 10 33 #[.int .i64 0, .int .i64 0, .int .i64 0] ?_; intro g6 hg w31 B6 hb; have E6 := gW HB hg; obtain ⟨N1_6, N6_1⟩ := nB B1 hg; replace B1 := kT B1 hb; replace HB := bT HB hb; clear hb hg; have hnb32 := nP N6_1; have hz33 := Sq.c3 B6.out; have hz34 := Sq.c5 B1.out; have p107 : 0 ≤ (x8_2 : Int) := Dz; have q7 : x8_2 < (l0_0.length : Int) := Dz; obtain ⟨ad7, e7, hx7_0, hx7_1, hx7_2⟩ := at_T33 HR0_0.out x8_2 p107 q7; obtain rfl : ad5 = ad7 := (by injection e7); replace hx7_0 := fr3 HB E6 hx7_0; replace hx7_1 := fr3 HB E6 hx7_1; replace hx7_2 := fr3 HB E6 hx7_2; replace p107 := eq_true p107; replace q7 := eq_true q7))
      repeat (go_quiet (first | (refine bE 10 33 #[.int .i64 0, .int .i64 0, .int .i64 0] ?_; intro g6 hg w31 B6 hb; have E6 := gW HB hg; obtain ⟨N1_6, N6_1⟩ := nB B1 hg; replace B1 := kT B1 hb; replace HB := bT HB hb; clear hb hg; have hnb32 := nP N6_1; have hz33 := Sq.c3 B6.out; have hz34 := Sq.c5 B1.out; have p107 : 0 ≤ (x8_2 : Int) := Dz; have q7 : x8_2 < (l0_0.length : Int) := Dz; obtain ⟨ad7, e7, hx7_0, hx7_1, hx7_2⟩ := at_T33 HR0_0.out x8_2 p107 q7; obtain rfl : ad5 = ad7 := (by injection e7); replace hx7_0 := fr3 HB E6 hx7_0; replace hx7_1 := fr3 HB E6 hx7_1; replace hx7_2 := fr3 HB E6 hx7_2; replace p107 := eq_true p107; replace q7 := eq_true q7)); try go_wp2)
      go_roundg k2
      case measure => have := HJ3.out; have := HK2.out; omega
      case rel => exact ⟨(x9_2), (wrap64 (x9_2 + 1)), Ey, Ey, H', ⟨by have := HJ3.out; have := HK2.out; omega⟩, ⟨Kz⟩, ⟨Bq⟩⟩
     rw [if_neg c29] at H
     have c29b0 := decide_eq_false c29
     clear c29
     have H' := Aside0.mk H
     clear H
     have hz35 := Sq.c5 B1.out
     have p105 : 0 ≤ (x9_2 : Int) := Dz
     have q5 : x9_2 < (l0_0.length : Int) := Dz
     obtain ⟨ad5, e5, hx5_0, hx5_1, hx5_2⟩ := at_T33 HR0_0.out x9_2 p105 q5
     cases e5
     replace hx5_0 := Sq.cB HB.out hx5_0
     replace hx5_1 := Sq.cB HB.out hx5_1
     replace hx5_2 := Sq.cB HB.out hx5_2
     replace p105 := eq_true p105
     replace q5 := eq_true q5
     go_wp2_with (first | (refine bE 10 33 #[.int .i64 0, .int .i64 0, .int .i64 0] ?_; intro g6 hg w36 B6 hb; have E6 := gW HB hg; obtain ⟨N1_6, N6_1⟩ := nB B1 hg; replace B1 := kT B1 hb; replace HB := bT HB hb; clear hb hg; have hnb37 := nP N6_1; have hz38 := Sq.c3 B6.out; have hz39 := Sq.c5 B1.out; have p107 : 0 ≤ (x8_2 : Int) := Dz; have q7 : x8_2 < (l0_0.length : Int) := Dz; obtain ⟨ad7, e7, hx7_0, hx7_1, hx7_2⟩ := at_T33 HR0_0.out x8_2 p107 q7; obtain rfl : ad5 = ad7 := (by injection e7); replace hx7_0 := fr3 HB E6 hx7_0; replace hx7_1 := fr3 HB E6 hx7_1; replace hx7_2 := fr3 HB E6 hx7_2; replace p107 := eq_true p107; replace q7 := eq_true q7))
     repeat (go_quiet (first | (refine bE 10 33 #[.int .i64 0, .int .i64 0, .int .i64 0] ?_; intro g6 hg w36 B6 hb; have E6 := gW HB hg; obtain ⟨N1_6, N6_1⟩ := nB B1 hg; replace B1 := kT B1 hb; replace HB := bT HB hb; clear hb hg; have hnb37 := nP N6_1; have hz38 := Sq.c3 B6.out; have hz39 := Sq.c5 B1.out; have p107 : 0 ≤ (x8_2 : Int) := Dz; have q7 : x8_2 < (l0_0.length : Int) := Dz; obtain ⟨ad7, e7, hx7_0, hx7_1, hx7_2⟩ := at_T33 HR0_0.out x8_2 p107 q7; obtain rfl : ad5 = ad7 := (by injection e7); replace hx7_0 := fr3 HB E6 hx7_0; replace hx7_1 := fr3 HB E6 hx7_1; replace hx7_2 := fr3 HB E6 hx7_2; replace p107 := eq_true p107; replace q7 := eq_true q7)); try go_wp2)
     go_roundg k2
     case measure => have := HJ3.out; have := HK2.out; omega
     case rel => exact ⟨(x8_2), (wrap64 (x9_2 + 1)), Ey, Ey, H', ⟨by have := HJ3.out; have := HK2.out; omega⟩, ⟨Kz⟩, ⟨Bq⟩⟩
end
/-! ### Fag: function 27 -/
def Fag.l0 : Nat → List Int → Int → Int → Option (Bool)
  | 0, _, _, _ => none
  | k + 1, x0, x1, x5 => if x5 < (x0.length : Int) then (if 0 ≤ x5 then (if (rd x0 x5) = x1 then (some true) else (Fag.l0 k x0 x1 (wrap64 (x5 + 1)))) else (none)) else (some false)
def Fag.f (k : Nat) (l0 : List Int) (a1 : Int) : Option (Bool) := Fag.l0 k l0 a1 0
theorem Fag.mono_l : ∀ k, (∀ y0 y1 y2, LeO (Fag.l0 k y0 y1 y2) (Fag.l0 (k + 1) y0 y1 y2))
  | 0 => fun _ _ _ r h => by simp [Fag.l0] at h
  | k + 1 => by
    have ih0 := Fag.mono_l k
    · intro y0 y1 y2
      unfold Fag.l0
      repeat' (with_reducible first | exact ih0 _ _ _ | exact LeO.refl _ | exact LeO.none _ | refine LeO.ite ?_ ?_ | refine LeO.bind ?_ (fun _ => ?_))
theorem Fag.mono : ∀ a0 a1 k, LeO (Fag.f k a0 a1) (Fag.f (k + 1) a0 a1) := by
  intro a0 a1 k
  have ih0 := Fag.mono_l k
  unfold Fag.f
  repeat' (with_reducible first | exact ih0 _ _ _ | exact LeO.refl _ | exact LeO.none _ | refine LeO.ite ?_ ?_ | refine LeO.bind ?_ (fun _ => ?_))
theorem Fag.calls (k : Nat) (A0 : Option Addr) (c0 : Nat) (l0 : List Int) (a1 : Int) (r : Bool) (w : World) (hr0 : Kd.C (Kd.int .i64) w A0 l0.length l0) (hc0 : l0.length ≤ c0) (h : Fag.f k l0 a1 = some r) :
  Calls Tryz.prog 27 #[.slice A0 l0.length c0, .int .i64 a1] w fun e w' => e = .returned (.bool r) ∧ Drawn0 w w' := by
 have HR0 := Aside0.mk hr0
 have HC0 := Aside0.mk hc0
 clear hr0 hc0
 have H := h
 clear h
 unfold Fag.f at H
 have H' := Aside0.mk H
 clear H
 go_enter Tryz.func27, Tryz.ntmps27
 go_wp2
 go_loopg [5] k (fun kq v5 w' => ∃ (x5_1 : Int), v5 = .int .i64 x5_1 ∧ Aside0 (Fag.l0 kq l0 a1 x5_1 = some r) ∧ Aside0 (kq ≤ k) ∧ Drawn0 w w')
 case atStart => exact ⟨(0), Ey, H', ⟨Nat.le_refl _⟩, by repeat (first | exact Drawn0.refl _ | apply Drawn0.step)⟩
 case round =>
  clear H'
  try clear c2
  try clear p2
  obtain ⟨x5_1, rfl, HA, HK1, ⟨m1, rfl⟩⟩ := hrel
  cases gk with
  | zero => exact absurd HA.out (by simp [Fag.l0])
  | succ k1 =>
   have H := HA.out
   clear HA
   simp only [Fag.l0] at H
   by_cases c3 : x5_1 < (l0.length : Int)
   ·rw [if_pos c3] at H
    have c3b0 := decide_eq_true c3
    clear c3
    by_cases c4 : 0 ≤ x5_1
    ·rw [if_pos c4] at H
     have c4b0 := decide_eq_true c4
     clear c4
     by_cases c5 : (rd l0 x5_1) = a1
     ·rw [if_pos c5] at H
      have c5b0 := beq_iff_eq.mpr c5
      have c5b1 := bne_eq_false_iff_eq.mpr c5
      clear c5
      obtain rfl := Option.some.inj H
      have p101 : 0 ≤ (x5_1 : Int) := Dz
      have q1 : x5_1 < (l0.length : Int) := Dz
      obtain ⟨ad1, e1, hx1_0⟩ := Kd.at_int HR0.out x5_1 p101 q1
      cases e1
      replace p101 := eq_true p101
      replace q1 := eq_true q1
      go_wp2
      go_ret
      exact ⟨by first | rfl | (simp; done) | (simp [*]; done), by repeat (first | exact Drawn0.refl _ | apply Drawn0.step)⟩
     ·rw [if_neg c5] at H
      have c5b0 := beq_eq_false_iff_ne.mpr c5
      have c5b1 := bne_iff_ne.mpr c5
      have H' := Aside0.mk H
      clear H
      have p101 : 0 ≤ (x5_1 : Int) := Dz
      have q1 : x5_1 < (l0.length : Int) := Dz
      obtain ⟨ad1, e1, hx1_0⟩ := Kd.at_int HR0.out x5_1 p101 q1
      cases e1
      replace p101 := eq_true p101
      replace q1 := eq_true q1
      go_wp2
      go_roundg k1
      case measure => have := HK1.out; omega
      case rel => exact ⟨(wrap64 (x5_1 + 1)), Ey, H', ⟨by have := HK1.out; omega⟩, by repeat (first | exact Drawn0.refl _ | apply Drawn0.step)⟩
    ·rw [if_neg c4] at H
     exact absurd H (by simp)
   ·rw [if_neg c3] at H
    have c3b0 := decide_eq_false c3
    clear c3
    obtain rfl := Option.some.inj H
    go_wp2
    go_ret
    exact ⟨by first | rfl | (simp; done) | (simp [*]; done), by repeat (first | exact Drawn0.refl _ | apply Drawn0.step)⟩
section
attribute [local go_sem ↓] Ho.isSome_setCell_
/-! ### Fo: function 7 -/
mutual
def Fo.j0 : Nat → Int → Int → Bool → List (S33) → Int → Int → Int → Int → Option (Int × Bool)
  | 0, _, _, _, _, _, _, _, _ => none
  | k + 1, x1, x2, x25, x102000, x102001, x102002, x102003, x102004 => if x25 = true then (some (0, false)) else (Fo.l0 k x1 x2 (([] : List Int)) 0 x102000 x102001 x102002 x102003 x102004)
def Fo.l0 : Nat → Int → Int → List Int → Int → List (S33) → Int → Int → Int → Int → Option (Int × Bool)
  | 0, _, _, _, _, _, _, _, _, _ => none
  | k + 1, x1, x2, x8, x9, x102000, x102001, x102002, x102003, x102004 => if (x8.length : Int) < (x102000.length : Int) then (Fo.l1 k x1 x2 x8 x9 (-1) 0 x102000 x102001 x102002 x102003 x102004) else (some (0, false))
def Fo.l1 : Nat → Int → Int → List Int → Int → Int → Int → List (S33) → Int → Int → Int → Int → Option (Int × Bool)
  | 0, _, _, _, _, _, _, _, _, _, _, _ => none
  | k + 1, x1, x2, x8, x9, x10, x11, x102000, x102001, x102002, x102003, x102004 => if x11 < (x102000.length : Int) then (if 0 ≤ x11 then (if ((rd_T33 x102000 x11).f1) = x1 then ((Fag.f k x8 ((rd_T33 x102000 x11).f0)).bind fun t110 => (if t110 = true then (Fo.l1 k x1 x2 x8 x9 x10 (wrap64 (x11 + 1)) x102000 x102001 x102002 x102003 x102004) else (if x10 < 0 then (Fo.l1 k x1 x2 x8 x9 x11 (wrap64 (x11 + 1)) x102000 x102001 x102002 x102003 x102004) else (if 0 ≤ x10 then (if x10 < (x102000.length : Int) then (if ((rd_T33 x102000 x11).f2) > ((rd_T33 x102000 x10).f2) then (Fo.l1 k x1 x2 x8 x9 x11 (wrap64 (x11 + 1)) x102000 x102001 x102002 x102003 x102004) else (Fo.l1 k x1 x2 x8 x9 x10 (wrap64 (x11 + 1)) x102000 x102001 x102002 x102003 x102004)) else (none)) else (none))))) else (Fo.l1 k x1 x2 x8 x9 x10 (wrap64 (x11 + 1)) x102000 x102001 x102002 x102003 x102004)) else (none)) else (if x10 < 0 then (some (0, false)) else (if 0 ≤ x10 then (if x10 < (x102000.length : Int) then (if x8.length < 17592186044416 then ((some (x8 ++ [(rd_T33 x102000 x10).f0] : List Int)).bind fun y113 => (if (wrap64 ((wrap64 ((wrap64 (x9 + ((rd_T33 x102000 x10).f2))) - (y113.length : Int))) + 1)) ≥ x2 then (some (wrap64 ((y113.length : Int) - 1), true)) else (Fo.l0 k x1 x2 y113 (wrap64 (x9 + ((rd_T33 x102000 x10).f2))) x102000 x102001 x102002 x102003 x102004))) else (none)) else (none)) else (none)))
end
def Fo.f (k : Nat) (l0_0 : List (S33)) (a0_1 : Int) (a0_2 : Int) (a0_3 : Int) (a0_4 : Int) (a1 : Int) (a2 : Int) : Option (Int × Bool) := (Ff.f k l0_0 a0_1 a0_2 a0_3 a0_4).bind fun t102 => (if t102 = true then ((Fah.f a1).bind fun t103 => (if t103 = true then ((Fal.f a2).bind fun t104 => (Fo.j0 k a1 a2 (!t104) l0_0 a0_1 a0_2 a0_3 a0_4)) else (Fo.j0 k a1 a2 true l0_0 a0_1 a0_2 a0_3 a0_4))) else (Fo.j0 k a1 a2 true l0_0 a0_1 a0_2 a0_3 a0_4))
theorem Fo.mono_l : ∀ k, (∀ y0 y1 y2 y3 y4 y5 y6 y7, LeO (Fo.j0 k y0 y1 y2 y3 y4 y5 y6 y7) (Fo.j0 (k + 1) y0 y1 y2 y3 y4 y5 y6 y7)) ∧ (∀ y0 y1 y2 y3 y4 y5 y6 y7 y8, LeO (Fo.l0 k y0 y1 y2 y3 y4 y5 y6 y7 y8) (Fo.l0 (k + 1) y0 y1 y2 y3 y4 y5 y6 y7 y8)) ∧ (∀ y0 y1 y2 y3 y4 y5 y6 y7 y8 y9 y10, LeO (Fo.l1 k y0 y1 y2 y3 y4 y5 y6 y7 y8 y9 y10) (Fo.l1 (k + 1) y0 y1 y2 y3 y4 y5 y6 y7 y8 y9 y10))
  | 0 => ⟨fun _ _ _ _ _ _ _ _ r h => by simp [Fo.j0] at h, fun _ _ _ _ _ _ _ _ _ r h => by simp [Fo.l0] at h, fun _ _ _ _ _ _ _ _ _ _ _ r h => by simp [Fo.l1] at h⟩
  | k + 1 => by
    obtain ⟨ih0, ih1, ih2⟩ := Fo.mono_l k
    refine ⟨?_, ?_, ?_⟩
    · intro y0 y1 y2 y3 y4 y5 y6 y7
      unfold Fo.j0
      repeat' (with_reducible first | exact ih0 _ _ _ _ _ _ _ _ | exact ih1 _ _ _ _ _ _ _ _ _ | exact ih2 _ _ _ _ _ _ _ _ _ _ _ | apply Fag.mono | apply Ff.mono | exact LeO.refl _ | exact LeO.none _ | refine LeO.ite ?_ ?_ | refine LeO.bind ?_ (fun _ => ?_))
    · intro y0 y1 y2 y3 y4 y5 y6 y7 y8
      unfold Fo.l0
      repeat' (with_reducible first | exact ih0 _ _ _ _ _ _ _ _ | exact ih1 _ _ _ _ _ _ _ _ _ | exact ih2 _ _ _ _ _ _ _ _ _ _ _ | apply Fag.mono | apply Ff.mono | exact LeO.refl _ | exact LeO.none _ | refine LeO.ite ?_ ?_ | refine LeO.bind ?_ (fun _ => ?_))
    · intro y0 y1 y2 y3 y4 y5 y6 y7 y8 y9 y10
      unfold Fo.l1
      repeat' (with_reducible first | exact ih0 _ _ _ _ _ _ _ _ | exact ih1 _ _ _ _ _ _ _ _ _ | exact ih2 _ _ _ _ _ _ _ _ _ _ _ | apply Fag.mono | apply Ff.mono | exact LeO.refl _ | exact LeO.none _ | refine LeO.ite ?_ ?_ | refine LeO.bind ?_ (fun _ => ?_))
theorem Fo.mono : ∀ a0 a1 a2 a3 a4 a5 a6 k, LeO (Fo.f k a0 a1 a2 a3 a4 a5 a6) (Fo.f (k + 1) a0 a1 a2 a3 a4 a5 a6) := by
  intro a0 a1 a2 a3 a4 a5 a6 k
  obtain ⟨ih0, ih1, ih2⟩ := Fo.mono_l k
  unfold Fo.f
  repeat' (with_reducible first | exact ih0 _ _ _ _ _ _ _ _ | exact ih1 _ _ _ _ _ _ _ _ _ | exact ih2 _ _ _ _ _ _ _ _ _ _ _ | apply Fag.mono | apply Ff.mono | exact LeO.refl _ | exact LeO.none _ | refine LeO.ite ?_ ?_ | refine LeO.bind ?_ (fun _ => ?_))
theorem Fo.calls (k : Nat) (A0_0 : Option Addr) (c0_0 : Nat) (l0_0 : List (S33)) (a0_1 : Int) (a0_2 : Int) (a0_3 : Int) (a0_4 : Int) (a1 : Int) (a2 : Int) (r1 : Int) (r2 : Bool) (w : World) (hr0_0 : Kd.C k33 w A0_0 l0_0.length l0_0) (hc0_0 : l0_0.length ≤ c0_0) (h : Fo.f k l0_0 a0_1 a0_2 a0_3 a0_4 a1 a2 = some (r1, r2)) :
  Calls Tryz.prog 7 #[.agg #[.slice A0_0 l0_0.length c0_0, .int .i64 a0_1, .int .i64 a0_2, .int .i64 a0_3, .int .i64 a0_4], .int .i64 a1, .int .i64 a2] w fun e w' => e = .returned (.tuple #[.int .i64 r1, .bool r2]) ∧ Below w.heap.size w w' := by
 have hu26 := Tryz.underlying26
 have hu33 := Tryz.underlying33
 have HR0_0 := Aside0.mk hr0_0
 have HC0_0 := Aside0.mk hc0_0
 clear hr0_0 hc0_0
 have HB := Aside0.mk (Below.refl w.heap.size w)
 have H := h
 clear h
 unfold Fo.f at H
 have HC4 := Aside0.mk H
 clear H
 go_enter Tryz.func7, Tryz.ntmps7
 go_upto_region 1 with (first | (refine bE 3 26 #[.slice A0_0 l0_0.length c0_0, .int .i64 a0_1, .int .i64 a0_2, .int .i64 a0_3, .int .i64 a0_4] ?_; intro g1 hg w5 B1 hb; have E1 := gW HB hg; replace HB := bT HB hb; clear hb hg))
 repeat (go_quiet (first | (refine bE 3 26 #[.slice A0_0 l0_0.length c0_0, .int .i64 a0_1, .int .i64 a0_2, .int .i64 a0_3, .int .i64 a0_4] ?_; intro g1 hg w5 B1 hb; have E1 := gW HB hg; replace HB := bT HB hb; clear hb hg)); go_upto_region 1 with (fail))
 (try simp only [Act.put, List.setIfInBounds_toArray, List.set_cons_zero, List.set_cons_succ])
 go_cut [25] (fun v25 wc => ∃ (kq : Nat) (x25_3 : Bool), v25 = .bool x25_3 ∧ Aside0 (Fo.j0 kq a1 a2 x25_3 l0_0 a0_1 a0_2 a0_3 a0_4 = some (r1, r2)) ∧ Aside0 (kq ≤ k) ∧ Aside0 (wc.heap[g1]? = some (.cells #[(.slice A0_0 l0_0.length c0_0), .int .i64 a0_1, .int .i64 a0_2, .int .i64 a0_3, .int .i64 a0_4] 26 (0, 0))) ∧ Aside0 (Below w.heap.size w wc))
 case first =>
  have H := HC4.out
  clear HC4
  obtain ⟨t2, A6, H⟩ := bn H
  (try dsimp only at H)
  by_cases c7 : t2 = true
  rotate_left
  ·replace c7 := Bool.eq_false_iff.mpr c7
   subst c7
   rw [if_neg (show ¬ (false = true) by decide)] at H
   have H' := Aside0.mk H
   clear H
   have hz15 := Sq.c5 B1.out
   go_wp2_with (first | (go_at_call 24; (with_reducible refine (Ff.calls k _ _ l0_0 a0_1 a0_2 a0_3 a0_4 false _ ?side1 ?side2 A6.out).mono ?_); (case side1 => exact Cs (Kd.C_below HR0_0.out HB.out)); (case side2 => exact HC0_0.out); rintro e w16 ⟨rfl, hb⟩; replace B1 := kT B1 hb; replace HB := bT HB hb; clear hb))
   repeat (go_quiet (first | (go_at_call 24; (with_reducible refine (Ff.calls k _ _ l0_0 a0_1 a0_2 a0_3 a0_4 false _ ?side1 ?side2 A6.out).mono ?_); (case side1 => exact Cs (Kd.C_below HR0_0.out HB.out)); (case side2 => exact HC0_0.out); rintro e w16 ⟨rfl, hb⟩; replace B1 := kT B1 hb; replace HB := bT HB hb; clear hb)); try go_wp2)
   go_meet
   case rel => exact ⟨_, (true), Ey, H', ⟨by first | omega | exact Nat.le_refl _⟩, ⟨ks B1⟩, ⟨es HB⟩⟩
  subst c7
  rw [if_pos rfl] at H
  obtain ⟨t3, A8, H⟩ := bn H
  (try dsimp only at H)
  by_cases c9 : t3 = true
  rotate_left
  ·replace c9 := Bool.eq_false_iff.mpr c9
   subst c9
   rw [if_neg (show ¬ (false = true) by decide)] at H
   have H' := Aside0.mk H
   clear H
   have hz13 := Sq.c5 B1.out
   go_wp2_with (first | (go_at_call 24; (with_reducible refine (Ff.calls k _ _ l0_0 a0_1 a0_2 a0_3 a0_4 true _ ?side1 ?side2 A6.out).mono ?_); (case side1 => exact Cs (Kd.C_below HR0_0.out HB.out)); (case side2 => exact HC0_0.out); rintro e w14 ⟨rfl, hb⟩; replace B1 := kT B1 hb; replace HB := bT HB hb; clear hb) | (go_at_call 25; (with_reducible refine (Fah.calls a1 false _ A8.out).mono ?_); rintro e w' ⟨rfl, ⟨nd, rfl⟩⟩; (try first | exact ⟨rfl, _, World.drewN_drewN _ _ _⟩ | exact ⟨rfl, _, Eq.trans (World.drewN_drewN _ _ _) (congrArg (World.drewN _) (Nat.add_assoc _ _ _))⟩)))
   repeat (go_quiet (first | (go_at_call 24; (with_reducible refine (Ff.calls k _ _ l0_0 a0_1 a0_2 a0_3 a0_4 true _ ?side1 ?side2 A6.out).mono ?_); (case side1 => exact Cs (Kd.C_below HR0_0.out HB.out)); (case side2 => exact HC0_0.out); rintro e w14 ⟨rfl, hb⟩; replace B1 := kT B1 hb; replace HB := bT HB hb; clear hb) | (go_at_call 25; (with_reducible refine (Fah.calls a1 false _ A8.out).mono ?_); rintro e w' ⟨rfl, ⟨nd, rfl⟩⟩; (try first | exact ⟨rfl, _, World.drewN_drewN _ _ _⟩ | exact ⟨rfl, _, Eq.trans (World.drewN_drewN _ _ _) (congrArg (World.drewN _) (Nat.add_assoc _ _ _))⟩))); try go_wp2)
   go_meet
   case rel => exact ⟨_, (true), Ey, H', ⟨by first | omega | exact Nat.le_refl _⟩, ⟨ks B1⟩, ⟨es HB⟩⟩
  subst c9
  rw [if_pos rfl] at H
  obtain ⟨t4, A10, H⟩ := bn H
  (try dsimp only at H)
  have H' := Aside0.mk H
  clear H
  have hz11 := Sq.c5 B1.out
  go_wp2_with (first | (go_at_call 24; (with_reducible refine (Ff.calls k _ _ l0_0 a0_1 a0_2 a0_3 a0_4 true _ ?side1 ?side2 A6.out).mono ?_); (case side1 => exact Cs (Kd.C_below HR0_0.out HB.out)); (case side2 => exact HC0_0.out); rintro e w12 ⟨rfl, hb⟩; replace B1 := kT B1 hb; replace HB := bT HB hb; clear hb) | (go_at_call 25; (with_reducible refine (Fah.calls a1 true _ A8.out).mono ?_); rintro e w' ⟨rfl, ⟨nd, rfl⟩⟩; (try first | exact ⟨rfl, _, World.drewN_drewN _ _ _⟩ | exact ⟨rfl, _, Eq.trans (World.drewN_drewN _ _ _) (congrArg (World.drewN _) (Nat.add_assoc _ _ _))⟩)) | (go_at_call 26; (with_reducible refine (Fal.calls a2 t4 _ A10.out).mono ?_); rintro e w' ⟨rfl, ⟨nd, rfl⟩⟩; (try first | exact ⟨rfl, _, World.drewN_drewN _ _ _⟩ | exact ⟨rfl, _, Eq.trans (World.drewN_drewN _ _ _) (congrArg (World.drewN _) (Nat.add_assoc _ _ _))⟩)))
  repeat (go_quiet (first | (go_at_call 24; (with_reducible refine (Ff.calls k _ _ l0_0 a0_1 a0_2 a0_3 a0_4 true _ ?side1 ?side2 A6.out).mono ?_); (case side1 => exact Cs (Kd.C_below HR0_0.out HB.out)); (case side2 => exact HC0_0.out); rintro e w12 ⟨rfl, hb⟩; replace B1 := kT B1 hb; replace HB := bT HB hb; clear hb) | (go_at_call 25; (with_reducible refine (Fah.calls a1 true _ A8.out).mono ?_); rintro e w' ⟨rfl, ⟨nd, rfl⟩⟩; (try first | exact ⟨rfl, _, World.drewN_drewN _ _ _⟩ | exact ⟨rfl, _, Eq.trans (World.drewN_drewN _ _ _) (congrArg (World.drewN _) (Nat.add_assoc _ _ _))⟩)) | (go_at_call 26; (with_reducible refine (Fal.calls a2 t4 _ A10.out).mono ?_); rintro e w' ⟨rfl, ⟨nd, rfl⟩⟩; (try first | exact ⟨rfl, _, World.drewN_drewN _ _ _⟩ | exact ⟨rfl, _, Eq.trans (World.drewN_drewN _ _ _) (congrArg (World.drewN _) (Nat.add_assoc _ _ _))⟩))); try go_wp2)
  go_meet
  case rel => exact ⟨_, (!t4), Ey, H', ⟨by first | omega | exact Nat.le_refl _⟩, ⟨ks B1⟩, ⟨es HB⟩⟩
 case rest =>
  clear HC4
  try clear p2
  try clear c7
  try clear c9
  (try clear hz11)
  (try clear hz13)
  (try clear hz15)
  obtain ⟨kq, x25_3, rfl, HA, HJ3, B1, HB⟩ := hcut
  cases kq with
  | zero => exact absurd HA.out (by simp [Fo.j0])
  | succ kj3 =>
   have H := HA.out
   clear HA
   simp only [Fo.j0] at H
   by_cases c17 : x25_3 = true
   ·subst c17
    rw [if_pos rfl] at H
    simp only [Option.some.injEq, Prod.mk.injEq] at H
    obtain ⟨rfl, rfl⟩ := H
    go_wp2
    repeat (go_quiet (fail); try go_wp2)
    go_ret2
    exact ⟨Ez, by exact eS HB.out⟩
   replace c17 := Bool.eq_false_iff.mpr c17
   subst c17
   rw [if_neg (show ¬ (false = true) by decide)] at H
   obtain ⟨y105, hy5⟩ : ∃ y_ : List Int, y_ = (([] : List Int)) := ⟨_, rfl⟩
   replace H : (Fo.l0 kj3 a1 a2 y105 0 l0_0 a0_1 a0_2 a0_3 a0_4) = some (r1, r2) := by first | (rw [hy5]; with_reducible exact H) | (have H2_ := (Option.bind_some _ _).symm.trans H; rw [hy5]; with_reducible exact H2_) | (have H2_ := (Option.bind_some _ _).symm.trans H; with_reducible exact H2_) | with_reducible exact H | (rw [hy5]; exact H) | exact H
   have Ny5 := Aside0.mk hy5
   clear hy5
   have H' := Aside0.mk H
   clear H
   go_wp2_with (first | ((with_reducible refine gate_dst (N := 26) rfl ?_); refine Kd.R_lit (Kd.int .i64) _ 3 ?hg (N := 26) ?hd (xs := ([] : List Int)) (inner := []) (ok := fun _ => True) (okp := fun _ => True) ?hr ?hp (fun _ hk => hk) trivial (Below.refl _ _) (Nat.le_refl _) (by simp) ?_; (case hd => rfl); (case hg => rfl); (case hr => first | (go_simp; done) | (go_simp; rfl)); (case hp => exact (Reps.none _ _)); intro v6 w18 ho19 hb hg_ hnew_; clear hg_ hnew_; (first | rw [← Ny5.out] at ho19 | (simp only [Int.reduceToNat] at ho19; rw [← Ny5.out] at ho19)); have R7 := lw HB ho19; replace B1 := kT B1 hb; replace HB := bT HB hb; clear hb ho19))
   repeat (go_quiet (first | ((with_reducible refine gate_dst (N := 26) rfl ?_); refine Kd.R_lit (Kd.int .i64) _ 3 ?hg (N := 26) ?hd (xs := ([] : List Int)) (inner := []) (ok := fun _ => True) (okp := fun _ => True) ?hr ?hp (fun _ hk => hk) trivial (Below.refl _ _) (Nat.le_refl _) (by simp) ?_; (case hd => rfl); (case hg => rfl); (case hr => first | (go_simp; done) | (go_simp; rfl)); (case hp => exact (Reps.none _ _)); intro v6 w18 ho19 hb hg_ hnew_; clear hg_ hnew_; (first | rw [← Ny5.out] at ho19 | (simp only [Int.reduceToNat] at ho19; rw [← Ny5.out] at ho19)); have R7 := lw HB ho19; replace B1 := kT B1 hb; replace HB := bT HB hb; clear hb ho19)); try go_wp2)
   go_loopg [8, 9] kj3 (fun kq v8 v9 w' => ∃ (x8_2 : List Int) (x9_2 : Int), v9 = .int .i64 x9_2 ∧ Aside0 (Fo.l0 kq a1 a2 x8_2 x9_2 l0_0 a0_1 a0_2 a0_3 a0_4 = some (r1, r2)) ∧ Aside0 (kq ≤ kj3) ∧ Aside0 (Kd.R (Kd.int .i64) 3 w' w.heap.size (fun _ => True) v8 x8_2) ∧ Aside0 (w'.heap[g1]? = some (.cells #[(.slice A0_0 l0_0.length c0_0), .int .i64 a0_1, .int .i64 a0_2, .int .i64 a0_3, .int .i64 a0_4] 26 (0, 0))) ∧ Aside0 (Below w.heap.size w w'))
   case atStart => exact ⟨(y105), (0), Ey, H', ⟨Nat.le_refl _⟩, ⟨rs R7⟩, ⟨ks B1⟩, ⟨es HB⟩⟩
   case round =>
    clear H'
    try clear c1
    try clear p2
    try clear c7
    try clear c9
    try clear c17
    (try clear hz11)
    (try clear hz13)
    (try clear hz15)
    try clear p2
    obtain ⟨x8_2, x9_2, rfl, HA, HK2, R_8, B1, HB⟩ := hrel
    cases gk with
    | zero => exact absurd HA.out (by simp [Fo.l0])
    | succ k2 =>
     have H := HA.out
     clear HA
     simp only [Fo.l0] at H
     by_cases c20 : (x8_2.length : Int) < (l0_0.length : Int)
     rotate_left
     ·rw [if_neg c20] at H
      have c20b0 := decide_eq_false c20
      have c20b1 : decide (x8_2.length < l0_0.length) = false := decide_eq_false (fun h => c20 (Int.ofNat_lt.mpr h))
      clear c20
      simp only [Option.some.injEq, Prod.mk.injEq] at H
      obtain ⟨rfl, rfl⟩ := H
      obtain ⟨Ao68, co68, eo68⟩ := Kd.R_slice R_8.out
      subst eo68
      have hz69 := Sq.c5 B1.out
      go_wp2
      repeat (go_quiet (fail); try go_wp2)
      go_ret2
      exact ⟨Ez, by exact eS HB.out⟩
     rw [if_pos c20] at H
     have c20b0 := decide_eq_true c20
     have c20b1 : decide (x8_2.length < l0_0.length) = true := decide_eq_true (Int.ofNat_lt.mp c20)
     clear c20
     have H' := Aside0.mk H
     clear H
     obtain ⟨Ao21, co21, eo21⟩ := Kd.R_slice R_8.out
     subst eo21
     have hz22 := Sq.c5 B1.out
     go_wp2
     repeat (go_quiet (fail); try go_wp2)
     go_loopg [10, 11] k2 (fun kq v10 v11 w' => ∃ (x10_3 : Int) (x11_3 : Int), v10 = .int .i64 x10_3 ∧ v11 = .int .i64 x11_3 ∧ Aside0 (Fo.l1 kq a1 a2 x8_2 x9_2 x10_3 x11_3 l0_0 a0_1 a0_2 a0_3 a0_4 = some (r1, r2)) ∧ Aside0 (kq ≤ k2) ∧ Aside0 (Kd.R (Kd.int .i64) 3 w' w.heap.size (fun _ => True) (.slice Ao21 x8_2.length co21) x8_2) ∧ Aside0 (w'.heap[g1]? = some (.cells #[(.slice A0_0 l0_0.length c0_0), .int .i64 a0_1, .int .i64 a0_2, .int .i64 a0_3, .int .i64 a0_4] 26 (0, 0))) ∧ Aside0 (Below w.heap.size w w'))
     case atStart => exact ⟨((-1)), (0), Ey, Ey, H', ⟨Nat.le_refl _⟩, ⟨rs R_8⟩, ⟨ks B1⟩, ⟨es HB⟩⟩
     case round =>
      clear H'
      try clear c1
      try clear c2
      try clear p2
      try clear c7
      try clear c9
      try clear c17
      try clear c20
      try clear c20b0
      try clear c20b1
      (try clear hz11)
      (try clear hz13)
      (try clear hz15)
      (try clear hz22)
      try clear p2
      obtain ⟨x10_3, x11_3, rfl, rfl, HA, HK3, R_8, B1, HB⟩ := hrel
      cases gk with
      | zero => exact absurd HA.out (by simp [Fo.l1])
      | succ k3 =>
       have H := HA.out
       clear HA
       simp only [Fo.l1] at H
       by_cases c23 : x11_3 < (l0_0.length : Int)
       rotate_left
       ·rw [if_neg c23] at H
        have c23b0 := decide_eq_false c23
        clear c23
        by_cases c54 : x10_3 < 0
        ·rw [if_pos c54] at H
         have c54b0 := decide_eq_true c54
         clear c54
         simp only [Option.some.injEq, Prod.mk.injEq] at H
         obtain ⟨rfl, rfl⟩ := H
         have hz55 := Sq.c5 B1.out
         go_wp2
         repeat (go_quiet (fail); try go_wp2)
         go_ret2
         exact ⟨Ez, by exact eS HB.out⟩
        rw [if_neg c54] at H
        have c54b0 := decide_eq_false c54
        clear c54
        by_cases c56 : 0 ≤ x10_3
        rotate_left
        ·rw [if_neg c56] at H
         exact absurd H (by simp)
        rw [if_pos c56] at H
        have c56b0 := decide_eq_true c56
        clear c56
        by_cases c57 : x10_3 < (l0_0.length : Int)
        rotate_left
        ·rw [if_neg c57] at H
         exact absurd H (by simp)
        rw [if_pos c57] at H
        have c57b0 := decide_eq_true c57
        clear c57
        by_cases c58 : x8_2.length < 17592186044416
        rotate_left
        ·rw [if_neg c58] at H
         exact absurd H (by simp)
        rw [if_pos c58] at H
        have LMc58 := Aside0.mk c58
        clear c58
        obtain ⟨y13, hy13⟩ : ∃ y_ : List Int, y_ = (x8_2 ++ [(rd_T33 l0_0 x10_3).f0]) := ⟨_, rfl⟩
        replace H : (if (wrap64 ((wrap64 ((wrap64 (x9_2 + ((rd_T33 l0_0 x10_3).f2))) - (y13.length : Int))) + 1)) ≥ a2 then (some (wrap64 ((y13.length : Int) - 1), true)) else (Fo.l0 k3 a1 a2 y13 (wrap64 (x9_2 + ((rd_T33 l0_0 x10_3).f2))) l0_0 a0_1 a0_2 a0_3 a0_4)) = some (r1, r2) := by first | (rw [hy13]; with_reducible exact H) | (have H2_ := (Option.bind_some _ _).symm.trans H; rw [hy13]; with_reducible exact H2_) | (have H2_ := (Option.bind_some _ _).symm.trans H; with_reducible exact H2_) | with_reducible exact H | (rw [hy13]; exact H) | exact H
        have Ny13 := Aside0.mk hy13
        clear hy13
        by_cases c59 : (wrap64 ((wrap64 ((wrap64 (x9_2 + ((rd_T33 l0_0 x10_3).f2))) - (y13.length : Int))) + 1)) ≥ a2
        ·rw [if_pos c59] at H
         have c59b0 := decide_eq_true c59
         clear c59
         simp only [Option.some.injEq, Prod.mk.injEq] at H
         obtain ⟨rfl, rfl⟩ := H
         have hz60 := Sq.c5 B1.out
         have p12 : 0 ≤ (x10_3 : Int) := Dz
         have q12 : x10_3 < (l0_0.length : Int) := Dz
         obtain ⟨ad12, e12, hx12_0, hx12_1, hx12_2⟩ := at_T33 HR0_0.out x10_3 p12 q12
         cases e12
         replace hx12_0 := Sq.cB HB.out hx12_0
         replace hx12_1 := Sq.cB HB.out hx12_1
         replace hx12_2 := Sq.cB HB.out hx12_2
         replace p12 := eq_true p12
         replace q12 := eq_true q12
         go_wp2_with (first | ((with_reducible refine gate_builtin (b := .append) (xs := #[.tmp 74, .tmp 81]) rfl ?_); at_builtin; refine Kd.R_append (Kd.int .i64) (w0 := w) w.heap.size rfl (.tmp 74) (.tmp 81) 45 3 (.int .i64 0) 8 rfl Tryz.underlying45 info3 rfl (by decide) (by omega) (.slice Ao21 x8_2.length co21) x8_2 ((rd_T33 l0_0 x10_3).f0) [.int .i64 ((rd_T33 l0_0 x10_3).f0)] (fun _ => True) (fun _ => False) rfl rfl ?aP (fun _ hk => hk.elim) ?aF ?aO ?aB ?aS ?aL ?_; (case aP => exact rfl); (case aB => exact (by exact eS HB.out)); (case aF => exact (fun _ _ => trivial)); (case aO => exact (by exact Ho.RS <| R_8.out)); (case aS => exact (below_size (by exact eS HB.out))); (case aL => have := LMc58.out; omega); intro v14 w61 ho hb hg hat; rw [← Ny13.out] at ho; have R15 := Ak ho; replace B1 := Ak (blk_grown (bS B1.out) hg (Kd.R_ne R_8.out B1.out (by decide))); replace HB := Ak hb; clear R_8; clear ho hb hg hat; have hz62 := Sq.c5 B1.out; have p16 : 0 ≤ (x10_3 : Int) := Dz; have q16 : x10_3 < (l0_0.length : Int) := Dz; obtain ⟨ad16, e16, hx16_0, hx16_1, hx16_2⟩ := at_T33 HR0_0.out x10_3 p16 q16; obtain rfl : ad12 = ad16 := (by injection e16); replace hx16_0 := Sq.cB HB.out hx16_0; replace hx16_1 := Sq.cB HB.out hx16_1; replace hx16_2 := Sq.cB HB.out hx16_2; replace p16 := eq_true p16; replace q16 := eq_true q16; obtain ⟨Ao63, co63, eo63⟩ := Kd.R_slice R15.out; subst eo63))
         repeat (go_quiet (first | ((with_reducible refine gate_builtin (b := .append) (xs := #[.tmp 74, .tmp 81]) rfl ?_); at_builtin; refine Kd.R_append (Kd.int .i64) (w0 := w) w.heap.size rfl (.tmp 74) (.tmp 81) 45 3 (.int .i64 0) 8 rfl Tryz.underlying45 info3 rfl (by decide) (by omega) (.slice Ao21 x8_2.length co21) x8_2 ((rd_T33 l0_0 x10_3).f0) [.int .i64 ((rd_T33 l0_0 x10_3).f0)] (fun _ => True) (fun _ => False) rfl rfl ?aP (fun _ hk => hk.elim) ?aF ?aO ?aB ?aS ?aL ?_; (case aP => exact rfl); (case aB => exact (by exact eS HB.out)); (case aF => exact (fun _ _ => trivial)); (case aO => exact (by exact Ho.RS <| R_8.out)); (case aS => exact (below_size (by exact eS HB.out))); (case aL => have := LMc58.out; omega); intro v14 w61 ho hb hg hat; rw [← Ny13.out] at ho; have R15 := Ak ho; replace B1 := Ak (blk_grown (bS B1.out) hg (Kd.R_ne R_8.out B1.out (by decide))); replace HB := Ak hb; clear R_8; clear ho hb hg hat; have hz62 := Sq.c5 B1.out; have p16 : 0 ≤ (x10_3 : Int) := Dz; have q16 : x10_3 < (l0_0.length : Int) := Dz; obtain ⟨ad16, e16, hx16_0, hx16_1, hx16_2⟩ := at_T33 HR0_0.out x10_3 p16 q16; obtain rfl : ad12 = ad16 := (by injection e16); replace hx16_0 := Sq.cB HB.out hx16_0; replace hx16_1 := Sq.cB HB.out hx16_1; replace hx16_2 := Sq.cB HB.out hx16_2; replace p16 := eq_true p16; replace q16 := eq_true q16; obtain ⟨Ao63, co63, eo63⟩ := Kd.R_slice R15.out; subst eo63)); try go_wp2)
         go_ret2
         exact ⟨Ez, by exact eS HB.out⟩
        rw [if_neg c59] at H
        have c59b0 := decide_eq_false c59
        clear c59
        have H' := Aside0.mk H
        clear H
        have hz64 := Sq.c5 B1.out
        have p12 : 0 ≤ (x10_3 : Int) := Dz
        have q12 : x10_3 < (l0_0.length : Int) := Dz
        obtain ⟨ad12, e12, hx12_0, hx12_1, hx12_2⟩ := at_T33 HR0_0.out x10_3 p12 q12
        cases e12
        replace hx12_0 := Sq.cB HB.out hx12_0
        replace hx12_1 := Sq.cB HB.out hx12_1
        replace hx12_2 := Sq.cB HB.out hx12_2
        replace p12 := eq_true p12
        replace q12 := eq_true q12
        go_wp2_with (first | ((with_reducible refine gate_builtin (b := .append) (xs := #[.tmp 74, .tmp 81]) rfl ?_); at_builtin; refine Kd.R_append (Kd.int .i64) (w0 := w) w.heap.size rfl (.tmp 74) (.tmp 81) 45 3 (.int .i64 0) 8 rfl Tryz.underlying45 info3 rfl (by decide) (by omega) (.slice Ao21 x8_2.length co21) x8_2 ((rd_T33 l0_0 x10_3).f0) [.int .i64 ((rd_T33 l0_0 x10_3).f0)] (fun _ => True) (fun _ => False) rfl rfl ?aP (fun _ hk => hk.elim) ?aF ?aO ?aB ?aS ?aL ?_; (case aP => exact rfl); (case aB => exact (by exact eS HB.out)); (case aF => exact (fun _ _ => trivial)); (case aO => exact (by exact Ho.RS <| R_8.out)); (case aS => exact (below_size (by exact eS HB.out))); (case aL => have := LMc58.out; omega); intro v14 w65 ho hb hg hat; rw [← Ny13.out] at ho; have R15 := Ak ho; replace B1 := Ak (blk_grown (bS B1.out) hg (Kd.R_ne R_8.out B1.out (by decide))); replace HB := Ak hb; clear R_8; clear ho hb hg hat; have hz66 := Sq.c5 B1.out; have p16 : 0 ≤ (x10_3 : Int) := Dz; have q16 : x10_3 < (l0_0.length : Int) := Dz; obtain ⟨ad16, e16, hx16_0, hx16_1, hx16_2⟩ := at_T33 HR0_0.out x10_3 p16 q16; obtain rfl : ad12 = ad16 := (by injection e16); replace hx16_0 := Sq.cB HB.out hx16_0; replace hx16_1 := Sq.cB HB.out hx16_1; replace hx16_2 := Sq.cB HB.out hx16_2; replace p16 := eq_true p16; replace q16 := eq_true q16; obtain ⟨Ao67, co67, eo67⟩ := Kd.R_slice R15.out; subst eo67))
        repeat (go_quiet (first | ((with_reducible refine gate_builtin (b := .append) (xs := #[.tmp 74, .tmp 81]) rfl ?_); at_builtin; refine Kd.R_append (Kd.int .i64) (w0 := w) w.heap.size rfl (.tmp 74) (.tmp 81) 45 3 (.int .i64 0) 8 rfl Tryz.underlying45 info3 rfl (by decide) (by omega) (.slice Ao21 x8_2.length co21) x8_2 ((rd_T33 l0_0 x10_3).f0) [.int .i64 ((rd_T33 l0_0 x10_3).f0)] (fun _ => True) (fun _ => False) rfl rfl ?aP (fun _ hk => hk.elim) ?aF ?aO ?aB ?aS ?aL ?_; (case aP => exact rfl); (case aB => exact (by exact eS HB.out)); (case aF => exact (fun _ _ => trivial)); (case aO => exact (by exact Ho.RS <| R_8.out)); (case aS => exact (below_size (by exact eS HB.out))); (case aL => have := LMc58.out; omega); intro v14 w65 ho hb hg hat; rw [← Ny13.out] at ho; have R15 := Ak ho; replace B1 := Ak (blk_grown (bS B1.out) hg (Kd.R_ne R_8.out B1.out (by decide))); replace HB := Ak hb; clear R_8; clear ho hb hg hat; have hz66 := Sq.c5 B1.out; have p16 : 0 ≤ (x10_3 : Int) := Dz; have q16 : x10_3 < (l0_0.length : Int) := Dz; obtain ⟨ad16, e16, hx16_0, hx16_1, hx16_2⟩ := at_T33 HR0_0.out x10_3 p16 q16; obtain rfl : ad12 = ad16 := (by injection e16); replace hx16_0 := Sq.cB HB.out hx16_0; replace hx16_1 := Sq.cB HB.out hx16_1; replace hx16_2 := Sq.cB HB.out hx16_2; replace p16 := eq_true p16; replace q16 := eq_true q16; obtain ⟨Ao67, co67, eo67⟩ := Kd.R_slice R15.out; subst eo67)); try go_wp2)
        go_roundg k3
        case measure => have := HJ3.out; have := HK2.out; have := HK3.out; omega
        case rel => exact ⟨(y13), (wrap64 (x9_2 + ((rd_T33 l0_0 x10_3).f2))), Ey, H', ⟨by have := HJ3.out; have := HK2.out; have := HK3.out; omega⟩, ⟨rs R15⟩, ⟨ks B1⟩, ⟨es HB⟩⟩
       rw [if_pos c23] at H
       have c23b0 := decide_eq_true c23
       clear c23
       by_cases c24 : 0 ≤ x11_3
       rotate_left
       ·rw [if_neg c24] at H
        exact absurd H (by simp)
       rw [if_pos c24] at H
       have c24b0 := decide_eq_true c24
       clear c24
       by_cases c25 : ((rd_T33 l0_0 x11_3).f1) = a1
       rotate_left
       ·rw [if_neg c25] at H
        have c25b0 := beq_eq_false_iff_ne.mpr c25
        have c25b1 := bne_iff_ne.mpr c25
        have H' := Aside0.mk H
        clear H
        have hz50 := Sq.c5 B1.out
        have p108 : 0 ≤ (x11_3 : Int) := Dz
        have q8 : x11_3 < (l0_0.length : Int) := Dz
        obtain ⟨ad8, e8, hx8_0, hx8_1, hx8_2⟩ := at_T33 HR0_0.out x11_3 p108 q8
        cases e8
        replace hx8_0 := Sq.cB HB.out hx8_0
        replace hx8_1 := Sq.cB HB.out hx8_1
        replace hx8_2 := Sq.cB HB.out hx8_2
        replace p108 := eq_true p108
        replace q8 := eq_true q8
        go_wp2_with (first | (refine bE 12 33 #[.int .i64 0, .int .i64 0, .int .i64 0] ?_; intro g9 hg w51 B9 hb; have E9 := gW HB hg; obtain ⟨N1_9, N9_1⟩ := nB B1 hg; replace R_8 := rT R_8 hb; replace B1 := kT B1 hb; replace HB := bT HB hb; clear hb hg; have hnb52 := nP N9_1; have hz53 := Sq.c3 B9.out))
        repeat (go_quiet (first | (refine bE 12 33 #[.int .i64 0, .int .i64 0, .int .i64 0] ?_; intro g9 hg w51 B9 hb; have E9 := gW HB hg; obtain ⟨N1_9, N9_1⟩ := nB B1 hg; replace R_8 := rT R_8 hb; replace B1 := kT B1 hb; replace HB := bT HB hb; clear hb hg; have hnb52 := nP N9_1; have hz53 := Sq.c3 B9.out)); try go_wp2)
        go_roundg k3
        case measure => have := HJ3.out; have := HK2.out; have := HK3.out; omega
        case rel => exact ⟨(x10_3), (wrap64 (x11_3 + 1)), Ey, Ey, H', ⟨by have := HJ3.out; have := HK2.out; have := HK3.out; omega⟩, ⟨rY3 R_8 B9 (fun _ hk => trivial)⟩, ⟨Kz⟩, ⟨Bq⟩⟩
       rw [if_pos c25] at H
       have c25b0 := beq_iff_eq.mpr c25
       have c25b1 := bne_eq_false_iff_eq.mpr c25
       clear c25
       obtain ⟨t10, A26, H⟩ := bn H
       (try dsimp only at H)
       by_cases c27 : t10 = true
       ·subst c27
        rw [if_pos rfl] at H
        have H' := Aside0.mk H
        clear H
        have hz28 := Sq.c5 B1.out
        have p108 : 0 ≤ (x11_3 : Int) := Dz
        have q8 : x11_3 < (l0_0.length : Int) := Dz
        obtain ⟨ad8, e8, hx8_0, hx8_1, hx8_2⟩ := at_T33 HR0_0.out x11_3 p108 q8
        cases e8
        replace hx8_0 := Sq.cB HB.out hx8_0
        replace hx8_1 := Sq.cB HB.out hx8_1
        replace hx8_2 := Sq.cB HB.out hx8_2
        replace p108 := eq_true p108
        replace q8 := eq_true q8
        go_wp2_with (first | (refine bE 12 33 #[.int .i64 0, .int .i64 0, .int .i64 0] ?_; intro g9 hg w29 B9 hb; have E9 := gW HB hg; obtain ⟨N1_9, N9_1⟩ := nB B1 hg; replace R_8 := rT R_8 hb; replace B1 := kT B1 hb; replace HB := bT HB hb; clear hb hg; have hnb30 := nP N9_1; have hz31 := Sq.c3 B9.out) | (go_at_call 27; (with_reducible refine (Fag.calls k3 _ _ x8_2 ((rd_T33 l0_0 x11_3).f0) true _ ?side1 ?side2 A26.out).mono ?_); (case side1 => refine (Kd.R_reads' (e := 3) (base := w.heap.size) (ok := fun k_ => True) (n := x8_2.length) (c := co21) ?_).2.2; exact (by exact Ho.RS <| (Kd.R_mono (Kd.R_far (p := ⟨g9, 2, none⟩) (Kd.R_far (p := ⟨g9, 1, none⟩) (Kd.R_far (p := ⟨g9, 0, none⟩) (Kd.R_types R_8.out B9.out (by decide)) (fun _ hk => hk.2) (.int .i64 ((rd_T33 l0_0 x11_3).f0))) (fun _ hk => hk.2) (.int .i64 ((rd_T33 l0_0 x11_3).f1))) (fun _ hk => hk.2) (.int .i64 ((rd_T33 l0_0 x11_3).f2))) (fun _ h_ => h_.1)))); (case side2 => exact (Kd.R_reads' R_8.out).2.1); rintro e w' ⟨rfl, ⟨nd, rfl⟩⟩; (try first | exact ⟨rfl, _, World.drewN_drewN _ _ _⟩ | exact ⟨rfl, _, Eq.trans (World.drewN_drewN _ _ _) (congrArg (World.drewN _) (Nat.add_assoc _ _ _))⟩)))
        repeat (go_quiet (first | (refine bE 12 33 #[.int .i64 0, .int .i64 0, .int .i64 0] ?_; intro g9 hg w29 B9 hb; have E9 := gW HB hg; obtain ⟨N1_9, N9_1⟩ := nB B1 hg; replace R_8 := rT R_8 hb; replace B1 := kT B1 hb; replace HB := bT HB hb; clear hb hg; have hnb30 := nP N9_1; have hz31 := Sq.c3 B9.out) | (go_at_call 27; (with_reducible refine (Fag.calls k3 _ _ x8_2 ((rd_T33 l0_0 x11_3).f0) true _ ?side1 ?side2 A26.out).mono ?_); (case side1 => refine (Kd.R_reads' (e := 3) (base := w.heap.size) (ok := fun k_ => True) (n := x8_2.length) (c := co21) ?_).2.2; exact (by exact Ho.RS <| (Kd.R_mono (Kd.R_far (p := ⟨g9, 2, none⟩) (Kd.R_far (p := ⟨g9, 1, none⟩) (Kd.R_far (p := ⟨g9, 0, none⟩) (Kd.R_types R_8.out B9.out (by decide)) (fun _ hk => hk.2) (.int .i64 ((rd_T33 l0_0 x11_3).f0))) (fun _ hk => hk.2) (.int .i64 ((rd_T33 l0_0 x11_3).f1))) (fun _ hk => hk.2) (.int .i64 ((rd_T33 l0_0 x11_3).f2))) (fun _ h_ => h_.1)))); (case side2 => exact (Kd.R_reads' R_8.out).2.1); rintro e w' ⟨rfl, ⟨nd, rfl⟩⟩; (try first | exact ⟨rfl, _, World.drewN_drewN _ _ _⟩ | exact ⟨rfl, _, Eq.trans (World.drewN_drewN _ _ _) (congrArg (World.drewN _) (Nat.add_assoc _ _ _))⟩))); try go_wp2)
        go_roundg k3
        case measure => have := HJ3.out; have := HK2.out; have := HK3.out; omega
        case rel => exact ⟨(x10_3), (wrap64 (x11_3 + 1)), Ey, Ey, H', ⟨by have := HJ3.out; have := HK2.out; have := HK3.out; omega⟩, ⟨rY3 R_8 B9 (fun _ hk => trivial)⟩, ⟨Kz⟩, ⟨Bq⟩⟩
       replace c27 := Bool.eq_false_iff.mpr c27
       subst c27
       rw [if_neg (show ¬ (false = true) by decide)] at H
       by_cases c32 : x10_3 < 0
       ·rw [if_pos c32] at H
        have c32b0 := decide_eq_true c32
        clear c32
        have H' := Aside0.mk H
        clear H
        have hz33 := Sq.c5 B1.out
        have p108 : 0 ≤ (x11_3 : Int) := Dz
        have q8 : x11_3 < (l0_0.length : Int) := Dz
        obtain ⟨ad8, e8, hx8_0, hx8_1, hx8_2⟩ := at_T33 HR0_0.out x11_3 p108 q8
        cases e8
        replace hx8_0 := Sq.cB HB.out hx8_0
        replace hx8_1 := Sq.cB HB.out hx8_1
        replace hx8_2 := Sq.cB HB.out hx8_2
        replace p108 := eq_true p108
        replace q8 := eq_true q8
        go_wp2_with (first | (refine bE 12 33 #[.int .i64 0, .int .i64 0, .int .i64 0] ?_; intro g9 hg w34 B9 hb; have E9 := gW HB hg; obtain ⟨N1_9, N9_1⟩ := nB B1 hg; replace R_8 := rT R_8 hb; replace B1 := kT B1 hb; replace HB := bT HB hb; clear hb hg; have hnb35 := nP N9_1; have hz36 := Sq.c3 B9.out) | (go_at_call 27; (with_reducible refine (Fag.calls k3 _ _ x8_2 ((rd_T33 l0_0 x11_3).f0) false _ ?side1 ?side2 A26.out).mono ?_); (case side1 => refine (Kd.R_reads' (e := 3) (base := w.heap.size) (ok := fun k_ => True) (n := x8_2.length) (c := co21) ?_).2.2; exact (by exact Ho.RS <| (Kd.R_mono (Kd.R_far (p := ⟨g9, 2, none⟩) (Kd.R_far (p := ⟨g9, 1, none⟩) (Kd.R_far (p := ⟨g9, 0, none⟩) (Kd.R_types R_8.out B9.out (by decide)) (fun _ hk => hk.2) (.int .i64 ((rd_T33 l0_0 x11_3).f0))) (fun _ hk => hk.2) (.int .i64 ((rd_T33 l0_0 x11_3).f1))) (fun _ hk => hk.2) (.int .i64 ((rd_T33 l0_0 x11_3).f2))) (fun _ h_ => h_.1)))); (case side2 => exact (Kd.R_reads' R_8.out).2.1); rintro e w' ⟨rfl, ⟨nd, rfl⟩⟩; (try first | exact ⟨rfl, _, World.drewN_drewN _ _ _⟩ | exact ⟨rfl, _, Eq.trans (World.drewN_drewN _ _ _) (congrArg (World.drewN _) (Nat.add_assoc _ _ _))⟩)))
        repeat (go_quiet (first | (refine bE 12 33 #[.int .i64 0, .int .i64 0, .int .i64 0] ?_; intro g9 hg w34 B9 hb; have E9 := gW HB hg; obtain ⟨N1_9, N9_1⟩ := nB B1 hg; replace R_8 := rT R_8 hb; replace B1 := kT B1 hb; replace HB := bT HB hb; clear hb hg; have hnb35 := nP N9_1; have hz36 := Sq.c3 B9.out) | (go_at_call 27; (with_reducible refine (Fag.calls k3 _ _ x8_2 ((rd_T33 l0_0 x11_3).f0) false _ ?side1 ?side2 A26.out).mono ?_); (case side1 => refine (Kd.R_reads' (e := 3) (base := w.heap.size) (ok := fun k_ => True) (n := x8_2.length) (c := co21) ?_).2.2; exact (by exact Ho.RS <| (Kd.R_mono (Kd.R_far (p := ⟨g9, 2, none⟩) (Kd.R_far (p := ⟨g9, 1, none⟩) (Kd.R_far (p := ⟨g9, 0, none⟩) (Kd.R_types R_8.out B9.out (by decide)) (fun _ hk => hk.2) (.int .i64 ((rd_T33 l0_0 x11_3).f0))) (fun _ hk => hk.2) (.int .i64 ((rd_T33 l0_0 x11_3).f1))) (fun _ hk => hk.2) (.int .i64 ((rd_T33 l0_0 x11_3).f2))) (fun _ h_ => h_.1)))); (case side2 => exact (Kd.R_reads' R_8.out).2.1); rintro e w' ⟨rfl, ⟨nd, rfl⟩⟩; (try first | exact ⟨rfl, _, World.drewN_drewN _ _ _⟩ | exact ⟨rfl, _, Eq.trans (World.drewN_drewN _ _ _) (congrArg (World.drewN _) (Nat.add_assoc _ _ _))⟩))); try go_wp2)
        go_roundg k3
        case measure => have := HJ3.out; have := HK2.out; have := HK3.out; omega
        case rel => exact ⟨(x11_3), (wrap64 (x11_3 + 1)), Ey, Ey, H', ⟨by have := HJ3.out; have := HK2.out; have := HK3.out; omega⟩, ⟨rY3 R_8 B9 (fun _ hk => trivial)⟩, ⟨Kz⟩, ⟨Bq⟩⟩
       rw [if_neg c32] at H
       have c32b0 := decide_eq_false c32
       clear c32
       by_cases c37 : 0 ≤ x10_3
       rotate_left
       ·rw [if_neg c37] at H
        exact absurd H (by simp)
       rw [if_pos c37] at H
       have c37b0 := decide_eq_true c37
       clear c37
       by_cases c38 : x10_3 < (l0_0.length : Int)
       rotate_left
       ·rw [if_neg c38] at H
        exact absurd H (by simp)
       rw [if_pos c38] at H
       have c38b0 := decide_eq_true c38
       clear c38
       by_cases c39 : ((rd_T33 l0_0 x11_3).f2) > ((rd_T33 l0_0 x10_3).f2)
       ·rw [if_pos c39] at H
        have c39b0 := decide_eq_true c39
        clear c39
        have H' := Aside0.mk H
        clear H
        have hz40 := Sq.c5 B1.out
        have p108 : 0 ≤ (x11_3 : Int) := Dz
        have q8 : x11_3 < (l0_0.length : Int) := Dz
        obtain ⟨ad8, e8, hx8_0, hx8_1, hx8_2⟩ := at_T33 HR0_0.out x11_3 p108 q8
        cases e8
        replace hx8_0 := Sq.cB HB.out hx8_0
        replace hx8_1 := Sq.cB HB.out hx8_1
        replace hx8_2 := Sq.cB HB.out hx8_2
        replace p108 := eq_true p108
        replace q8 := eq_true q8
        go_wp2_with (first | (refine bE 12 33 #[.int .i64 0, .int .i64 0, .int .i64 0] ?_; intro g9 hg w41 B9 hb; have E9 := gW HB hg; obtain ⟨N1_9, N9_1⟩ := nB B1 hg; replace R_8 := rT R_8 hb; replace B1 := kT B1 hb; replace HB := bT HB hb; clear hb hg; have hnb42 := nP N9_1; have hz43 := Sq.c3 B9.out) | (go_at_call 27; (with_reducible refine (Fag.calls k3 _ _ x8_2 ((rd_T33 l0_0 x11_3).f0) false _ ?side1 ?side2 A26.out).mono ?_); (case side1 => refine (Kd.R_reads' (e := 3) (base := w.heap.size) (ok := fun k_ => True) (n := x8_2.length) (c := co21) ?_).2.2; exact (by exact Ho.RS <| (Kd.R_mono (Kd.R_far (p := ⟨g9, 2, none⟩) (Kd.R_far (p := ⟨g9, 1, none⟩) (Kd.R_far (p := ⟨g9, 0, none⟩) (Kd.R_types R_8.out B9.out (by decide)) (fun _ hk => hk.2) (.int .i64 ((rd_T33 l0_0 x11_3).f0))) (fun _ hk => hk.2) (.int .i64 ((rd_T33 l0_0 x11_3).f1))) (fun _ hk => hk.2) (.int .i64 ((rd_T33 l0_0 x11_3).f2))) (fun _ h_ => h_.1)))); (case side2 => exact (Kd.R_reads' R_8.out).2.1); rintro e w' ⟨rfl, ⟨nd, rfl⟩⟩; (try first | exact ⟨rfl, _, World.drewN_drewN _ _ _⟩ | exact ⟨rfl, _, Eq.trans (World.drewN_drewN _ _ _) (congrArg (World.drewN _) (Nat.add_assoc _ _ _))⟩); have hz44 := Sq.c5 B1.out; have p11 : 0 ≤ (x10_3 : Int) := Dz; have q11 : x10_3 < (l0_0.length : Int) := Dz; obtain ⟨ad11, e11, hx11_0, hx11_1, hx11_2⟩ := at_T33 HR0_0.out x10_3 p11 q11; obtain rfl : ad8 = ad11 := (by injection e11); replace hx11_0 := fr3 HB E9 hx11_0; replace hx11_1 := fr3 HB E9 hx11_1; replace hx11_2 := fr3 HB E9 hx11_2; replace p11 := eq_true p11; replace q11 := eq_true q11))
        repeat (go_quiet (first | (refine bE 12 33 #[.int .i64 0, .int .i64 0, .int .i64 0] ?_; intro g9 hg w41 B9 hb; have E9 := gW HB hg; obtain ⟨N1_9, N9_1⟩ := nB B1 hg; replace R_8 := rT R_8 hb; replace B1 := kT B1 hb; replace HB := bT HB hb; clear hb hg; have hnb42 := nP N9_1; have hz43 := Sq.c3 B9.out) | (go_at_call 27; (with_reducible refine (Fag.calls k3 _ _ x8_2 ((rd_T33 l0_0 x11_3).f0) false _ ?side1 ?side2 A26.out).mono ?_); (case side1 => refine (Kd.R_reads' (e := 3) (base := w.heap.size) (ok := fun k_ => True) (n := x8_2.length) (c := co21) ?_).2.2; exact (by exact Ho.RS <| (Kd.R_mono (Kd.R_far (p := ⟨g9, 2, none⟩) (Kd.R_far (p := ⟨g9, 1, none⟩) (Kd.R_far (p := ⟨g9, 0, none⟩) (Kd.R_types R_8.out B9.out (by decide)) (fun _ hk => hk.2) (.int .i64 ((rd_T33 l0_0 x11_3).f0))) (fun _ hk => hk.2) (.int .i64 ((rd_T33 l0_0 x11_3).f1))) (fun _ hk => hk.2) (.int .i64 ((rd_T33 l0_0 x11_3).f2))) (fun _ h_ => h_.1)))); (case side2 => exact (Kd.R_reads' R_8.out).2.1); rintro e w' ⟨rfl, ⟨nd, rfl⟩⟩; (try first | exact ⟨rfl, _, World.drewN_drewN _ _ _⟩ | exact ⟨rfl, _, Eq.trans (World.drewN_drewN _ _ _) (congrArg (World.drewN _) (Nat.add_assoc _ _ _))⟩); have hz44 := Sq.c5 B1.out; have p11 : 0 ≤ (x10_3 : Int) := Dz; have q11 : x10_3 < (l0_0.length : Int) := Dz; obtain ⟨ad11, e11, hx11_0, hx11_1, hx11_2⟩ := at_T33 HR0_0.out x10_3 p11 q11; obtain rfl : ad8 = ad11 := (by injection e11); replace hx11_0 := fr3 HB E9 hx11_0; replace hx11_1 := fr3 HB E9 hx11_1; replace hx11_2 := fr3 HB E9 hx11_2; replace p11 := eq_true p11; replace q11 := eq_true q11)); try go_wp2)
        go_roundg k3
        case measure => have := HJ3.out; have := HK2.out; have := HK3.out; omega
        case rel => exact ⟨(x11_3), (wrap64 (x11_3 + 1)), Ey, Ey, H', ⟨by have := HJ3.out; have := HK2.out; have := HK3.out; omega⟩, ⟨rY3 R_8 B9 (fun _ hk => trivial)⟩, ⟨Kz⟩, ⟨Bq⟩⟩
       rw [if_neg c39] at H
       have c39b0 := decide_eq_false c39
       clear c39
       have H' := Aside0.mk H
       clear H
       have hz45 := Sq.c5 B1.out
       have p108 : 0 ≤ (x11_3 : Int) := Dz
       have q8 : x11_3 < (l0_0.length : Int) := Dz
       obtain ⟨ad8, e8, hx8_0, hx8_1, hx8_2⟩ := at_T33 HR0_0.out x11_3 p108 q8
       cases e8
       replace hx8_0 := Sq.cB HB.out hx8_0
       replace hx8_1 := Sq.cB HB.out hx8_1
       replace hx8_2 := Sq.cB HB.out hx8_2
       replace p108 := eq_true p108
       replace q8 := eq_true q8
       go_wp2_with (first | (refine bE 12 33 #[.int .i64 0, .int .i64 0, .int .i64 0] ?_; intro g9 hg w46 B9 hb; have E9 := gW HB hg; obtain ⟨N1_9, N9_1⟩ := nB B1 hg; replace R_8 := rT R_8 hb; replace B1 := kT B1 hb; replace HB := bT HB hb; clear hb hg; have hnb47 := nP N9_1; have hz48 := Sq.c3 B9.out) | (go_at_call 27; (with_reducible refine (Fag.calls k3 _ _ x8_2 ((rd_T33 l0_0 x11_3).f0) false _ ?side1 ?side2 A26.out).mono ?_); (case side1 => refine (Kd.R_reads' (e := 3) (base := w.heap.size) (ok := fun k_ => True) (n := x8_2.length) (c := co21) ?_).2.2; exact (by exact Ho.RS <| (Kd.R_mono (Kd.R_far (p := ⟨g9, 2, none⟩) (Kd.R_far (p := ⟨g9, 1, none⟩) (Kd.R_far (p := ⟨g9, 0, none⟩) (Kd.R_types R_8.out B9.out (by decide)) (fun _ hk => hk.2) (.int .i64 ((rd_T33 l0_0 x11_3).f0))) (fun _ hk => hk.2) (.int .i64 ((rd_T33 l0_0 x11_3).f1))) (fun _ hk => hk.2) (.int .i64 ((rd_T33 l0_0 x11_3).f2))) (fun _ h_ => h_.1)))); (case side2 => exact (Kd.R_reads' R_8.out).2.1); rintro e w' ⟨rfl, ⟨nd, rfl⟩⟩; (try first | exact ⟨rfl, _, World.drewN_drewN _ _ _⟩ | exact ⟨rfl, _, Eq.trans (World.drewN_drewN _ _ _) (congrArg (World.drewN _) (Nat.add_assoc _ _ _))⟩); have hz49 := Sq.c5 B1.out; have p11 : 0 ≤ (x10_3 : Int) := Dz; have q11 : x10_3 < (l0_0.length : Int) := Dz; obtain ⟨ad11, e11, hx11_0, hx11_1, hx11_2⟩ := at_T33 HR0_0.out x10_3 p11 q11; obtain rfl : ad8 = ad11 := (by injection e11); replace hx11_0 := fr3 HB E9 hx11_0; replace hx11_1 := fr3 HB E9 hx11_1; replace hx11_2 := fr3 HB E9 hx11_2; replace p11 := eq_true p11; replace q11 := eq_true q11))
       repeat (go_quiet (first | (refine bE 12 33 #[.int .i64 0, .int .i64 0, .int .i64 0] ?_; intro g9 hg w46 B9 hb; have E9 := gW HB hg; obtain ⟨N1_9, N9_1⟩ := nB B1 hg; replace R_8 := rT R_8 hb; replace B1 := kT B1 hb; replace HB := bT HB hb; clear hb hg; have hnb47 := nP N9_1; have hz48 := Sq.c3 B9.out) | (go_at_call 27; (with_reducible refine (Fag.calls k3 _ _ x8_2 ((rd_T33 l0_0 x11_3).f0) false _ ?side1 ?side2 A26.out).mono ?_); (case side1 => refine (Kd.R_reads' (e := 3) (base := w.heap.size) (ok := fun k_ => True) (n := x8_2.length) (c := co21) ?_).2.2; exact (by exact Ho.RS <| (Kd.R_mono (Kd.R_far (p := ⟨g9, 2, none⟩) (Kd.R_far (p := ⟨g9, 1, none⟩) (Kd.R_far (p := ⟨g9, 0, none⟩) (Kd.R_types R_8.out B9.out (by decide)) (fun _ hk => hk.2) (.int .i64 ((rd_T33 l0_0 x11_3).f0))) (fun _ hk => hk.2) (.int .i64 ((rd_T33 l0_0 x11_3).f1))) (fun _ hk => hk.2) (.int .i64 ((rd_T33 l0_0 x11_3).f2))) (fun _ h_ => h_.1)))); (case side2 => exact (Kd.R_reads' R_8.out).2.1); rintro e w' ⟨rfl, ⟨nd, rfl⟩⟩; (try first | exact ⟨rfl, _, World.drewN_drewN _ _ _⟩ | exact ⟨rfl, _, Eq.trans (World.drewN_drewN _ _ _) (congrArg (World.drewN _) (Nat.add_assoc _ _ _))⟩); have hz49 := Sq.c5 B1.out; have p11 : 0 ≤ (x10_3 : Int) := Dz; have q11 : x10_3 < (l0_0.length : Int) := Dz; obtain ⟨ad11, e11, hx11_0, hx11_1, hx11_2⟩ := at_T33 HR0_0.out x10_3 p11 q11; obtain rfl : ad8 = ad11 := (by injection e11); replace hx11_0 := fr3 HB E9 hx11_0; replace hx11_1 := fr3 HB E9 hx11_1; replace hx11_2 := fr3 HB E9 hx11_2; replace p11 := eq_true p11; replace q11 := eq_true q11)); try go_wp2)
       go_roundg k3
       case measure => have := HJ3.out; have := HK2.out; have := HK3.out; omega
       case rel => exact ⟨(x10_3), (wrap64 (x11_3 + 1)), Ey, Ey, H', ⟨by have := HJ3.out; have := HK2.out; have := HK3.out; omega⟩, ⟨rY3 R_8 B9 (fun _ hk => trivial)⟩, ⟨Kz⟩, ⟨Bq⟩⟩
end
/-! ### Faa: function 39 -/
def Faa.f : Nat → Int → Option (ByteArray)
  | 0, _ => none
  | k + 1, a0 => if a0 < 0 then ((Faa.f k (wrap64 (-a0))).bind fun t101 => (if 1 + t101.size ≤ 9223372036854775807 then (some ((⟨#[45]⟩ : ByteArray) ++ t101)) else (none))) else (if a0 < 10 then (if 0 ≤ a0 then (if a0 ≤ (wrap64 (a0 + 1)) then (if (wrap64 (a0 + 1)) ≤ 10 then (some ((⟨#[48, 49, 50, 51, 52, 53, 54, 55, 56, 57]⟩ : ByteArray).extract (a0 : Int).toNat ((wrap64 (a0 + 1)) : Int).toNat)) else (none)) else (none)) else (none)) else ((Faa.f k (wrap64 (Int.tdiv a0 10))).bind fun t102 => (if 0 ≤ (Int.tmod a0 10) then (if (Int.tmod a0 10) ≤ (wrap64 ((Int.tmod a0 10) + 1)) then (if (wrap64 ((Int.tmod a0 10) + 1)) ≤ 10 then (if t102.size + ((⟨#[48, 49, 50, 51, 52, 53, 54, 55, 56, 57]⟩ : ByteArray).extract ((Int.tmod a0 10) : Int).toNat ((wrap64 ((Int.tmod a0 10) + 1)) : Int).toNat).size ≤ 9223372036854775807 then (some (t102 ++ ((⟨#[48, 49, 50, 51, 52, 53, 54, 55, 56, 57]⟩ : ByteArray).extract ((Int.tmod a0 10) : Int).toNat ((wrap64 ((Int.tmod a0 10) + 1)) : Int).toNat))) else (none)) else (none)) else (none)) else (none))))
theorem Faa.mono_l : ∀ k, (∀ y0, LeO (Faa.f k y0) (Faa.f (k + 1) y0))
  | 0 => fun _ r h => by simp [Faa.f] at h
  | k + 1 => by
    have ih0 := Faa.mono_l k
    · intro y0
      unfold Faa.f
      repeat' (with_reducible first | exact ih0 _ | exact LeO.refl _ | exact LeO.none _ | refine LeO.ite ?_ ?_ | refine LeO.bind ?_ (fun _ => ?_))
theorem Faa.mono : ∀ a0 k, LeO (Faa.f k a0) (Faa.f (k + 1) a0) := by
  intro a0 k
  have ih0 := Faa.mono_l k
  exact ih0 a0
def Faa.T5 : Bool × List (List Nat × List Nat) := (true, [([], []), ([0], [0]), ([1], [1]), ([], []), ([3], [3]), ([], []), ([5], [5]), ([6], [6]), ([4, 7], [4, 7]), ([2, 8], [2, 8]), ([9, 2, 0, 1, 2, 3, 4, 5, 6, 7, 8, 9], [9])])
def Faa.B5 : List Nat := [0, 1, 3, 0, 8, 0, 32, 96, 248, 511, 1023]
theorem Faa.tab5 : rtab .any (opsOf Tryz.f39 5) = Faa.T5 := by kernel_rfl
theorem Faa.bits5 : waitsOk Faa.T5.2 Faa.B5 = true := by kernel_rfl
theorem Faa.calls (k : Nat) : ∀ (a0 : Int) (r : ByteArray) (w : World) (h : Faa.f k a0 = some r),
  Calls Tryz.prog 39 #[.int .i64 a0] w fun e w' => e = .returned (.string r) ∧ Below w.heap.size w w' := by
 induction k using Nat.strongRecOn with
 | _ k ih =>
 intro a0 r w h
 cases k with
 | zero => exact absurd h (by simp [Faa.f])
 | succ k =>
 simp only [Faa.f] at h
 have HB := Aside0.mk (Below.refl w.heap.size w)
 have H : (if a0 < 0 then ((Faa.f k (wrap64 (-a0))).bind fun t1 => (if 1 + t1.size ≤ 9223372036854775807 then (some ((⟨#[45]⟩ : ByteArray) ++ t1)) else (none))) else (if a0 < 10 then (if 0 ≤ a0 then (if a0 ≤ (wrap64 (a0 + 1)) then (if (wrap64 (a0 + 1)) ≤ 10 then (some ((⟨#[48, 49, 50, 51, 52, 53, 54, 55, 56, 57]⟩ : ByteArray).extract (a0 : Int).toNat ((wrap64 (a0 + 1)) : Int).toNat)) else (none)) else (none)) else (none)) else ((Faa.f k (wrap64 (Int.tdiv a0 10))).bind fun t2 => (if 0 ≤ (Int.tmod a0 10) then (if (Int.tmod a0 10) ≤ (wrap64 ((Int.tmod a0 10) + 1)) then (if (wrap64 ((Int.tmod a0 10) + 1)) ≤ 10 then (if t2.size + ((⟨#[48, 49, 50, 51, 52, 53, 54, 55, 56, 57]⟩ : ByteArray).extract ((Int.tmod a0 10) : Int).toNat ((wrap64 ((Int.tmod a0 10) + 1)) : Int).toNat).size ≤ 9223372036854775807 then (some (t2 ++ ((⟨#[48, 49, 50, 51, 52, 53, 54, 55, 56, 57]⟩ : ByteArray).extract ((Int.tmod a0 10) : Int).toNat ((wrap64 ((Int.tmod a0 10) + 1)) : Int).toNat))) else (none)) else (none)) else (none)) else (none))))) = some r := h
 clear h
 by_cases c2 : a0 < 0
 ·rw [if_pos c2] at H
  have c2b0 := decide_eq_true c2
  clear c2
  obtain ⟨t1, A3, H⟩ := bn H
  (try dsimp only at H)
  by_cases c4 : 1 + t1.size ≤ 9223372036854775807
  rotate_left
  ·rw [if_neg c4] at H
   exact absurd H (by simp)
  rw [if_pos c4] at H
  have c4b0 := eq_true c4
  have c4b1 := decide_eq_true c4
  try have c4b2 : (9223372036854775807 < 1 + t1.size) = False := eq_false (Nat.not_lt.2 c4)
  obtain rfl := Option.some.inj H
  go_enter Tryz.func39, Tryz.ntmps39
  go_wp2_with (first | (refine cE (some 7) Tryz.func39 #[.int .i64 (wrap64 (-a0))] ?_; (with_reducible refine (ih k (by omega) (wrap64 (-a0)) t1 _ A3.out).mono ?_); rintro e w5 ⟨rfl, hb⟩; refine ⟨_, rfl, ?_⟩; replace HB := bT HB hb; clear hb))
  go_ret
  exact ⟨Ez, by exact eS HB.out⟩
 rw [if_neg c2] at H
 have c2b0 := decide_eq_false c2
 clear c2
 by_cases c6 : a0 < 10
 ·rw [if_pos c6] at H
  have c6b0 := decide_eq_true c6
  clear c6
  by_cases c7 : 0 ≤ a0
  rotate_left
  ·rw [if_neg c7] at H
   exact absurd H (by simp)
  rw [if_pos c7] at H
  have c7b0 := eq_true c7
  have c7b1 := decide_eq_true c7
  clear c7
  by_cases c8 : a0 ≤ (wrap64 (a0 + 1))
  rotate_left
  ·rw [if_neg c8] at H
   exact absurd H (by simp)
  rw [if_pos c8] at H
  have c8b0 := eq_true c8
  have c8b1 := decide_eq_true c8
  by_cases c9 : (wrap64 (a0 + 1)) ≤ 10
  rotate_left
  ·rw [if_neg c9] at H
   exact absurd H (by simp)
  rw [if_pos c9] at H
  have c9b0 := eq_true c9
  have c9b1 := decide_eq_true c9
  obtain rfl := Option.some.inj H
  go_enter Tryz.func39, Tryz.ntmps39
  go_wp2
  go_ret
  exact ⟨Ez, by exact eS HB.out⟩
 rw [if_neg c6] at H
 have c6b0 := decide_eq_false c6
 clear c6
 obtain ⟨t2, A10, H⟩ := bn H
 (try dsimp only at H)
 obtain ⟨ji11, hji11⟩ : ∃ j_ : Int, (Int.tmod a0 10) = j_ := ⟨_, rfl⟩
 replace H : (if 0 ≤ (ji11) then (if (ji11) ≤ (wrap64 ((ji11) + 1)) then (if (wrap64 ((ji11) + 1)) ≤ 10 then (if t2.size + ((⟨#[48, 49, 50, 51, 52, 53, 54, 55, 56, 57]⟩ : ByteArray).extract ((ji11) : Int).toNat ((wrap64 ((ji11) + 1)) : Int).toNat).size ≤ 9223372036854775807 then (some (t2 ++ ((⟨#[48, 49, 50, 51, 52, 53, 54, 55, 56, 57]⟩ : ByteArray).extract ((ji11) : Int).toNat ((wrap64 ((ji11) + 1)) : Int).toNat))) else (none)) else (none)) else (none)) else (none)) = some r := by first | (rw [hji11] at H; exact H) | (simp only [hji11] at H ⊢; exact H)
 (try rw [hji11] at A10)
 by_cases c12 : 0 ≤ (ji11)
 rotate_left
 ·rw [if_neg c12] at H
  exact absurd H (by simp)
 rw [if_pos c12] at H
 have c12b0 := eq_true c12
 have c12b1 := decide_eq_true c12
 clear c12
 by_cases c13 : (ji11) ≤ (wrap64 ((ji11) + 1))
 rotate_left
 ·rw [if_neg c13] at H
  exact absurd H (by simp)
 rw [if_pos c13] at H
 have c13b0 := eq_true c13
 have c13b1 := decide_eq_true c13
 by_cases c14 : (wrap64 ((ji11) + 1)) ≤ 10
 rotate_left
 ·rw [if_neg c14] at H
  exact absurd H (by simp)
 rw [if_pos c14] at H
 have c14b0 := eq_true c14
 have c14b1 := decide_eq_true c14
 by_cases c15 : t2.size + ((⟨#[48, 49, 50, 51, 52, 53, 54, 55, 56, 57]⟩ : ByteArray).extract ((ji11) : Int).toNat ((wrap64 ((ji11) + 1)) : Int).toNat).size ≤ 9223372036854775807
 rotate_left
 ·rw [if_neg c15] at H
  exact absurd H (by simp)
 rw [if_pos c15] at H
 have c15b0 := eq_true c15
 have c15b1 := decide_eq_true c15
 try have c15b2 : (9223372036854775807 < t2.size + ((⟨#[48, 49, 50, 51, 52, 53, 54, 55, 56, 57]⟩ : ByteArray).extract ((ji11) : Int).toNat ((wrap64 ((ji11) + 1)) : Int).toNat).size) = False := eq_false (Nat.not_lt.2 c15)
 have c15b3 : (9223372036854775807 < t2.size + ((wrap64 (ji11 + 1)).toNat - ji11.toNat)) = False := eq_false (by have h_ := c15; rw [ByteArray.size_extract] at h_; have e_ : (⟨#[48, 49, 50, 51, 52, 53, 54, 55, 56, 57]⟩ : ByteArray).size = 10 := rfl; rw [e_] at h_; omega)
 obtain rfl := Option.some.inj H
 go_enter Tryz.func39, Tryz.ntmps39
 try go_wp2
 replace HB := bD HB
 refine sT 11 (fun w' => True) [] Faa.tab5 Faa.bits5 trivial fun hHeld HT_ HW_ => ?_
 generalize w.drew = w16 at HB hHeld ⊢
 refine Pu 0 ?_
 refine Pu 1 ?_
 refine Pu 3 ?_
 refine Pu 4 ?_
 refine Pu 5 ?_
 refine Pu 6 ?_
 refine Pu 7 ?_
 refine Pu 8 ?_
 refine oN 2 fun K hK => ?_
 refine gO Tryz.func39 #[.int .i64 (wrap64 (Int.tdiv a0 10))] ?_
 with_reducible refine (ih k (by omega) (wrap64 (Int.tdiv a0 10)) t2 _ A10.out).mono ?_
 rintro e w17 ⟨rfl, hb⟩
 refine ⟨_, rfl, ?_⟩
 replace HB := bT HB hb
 clear hb
 refine hK.out _ _ trivial (fun hHeld => ?_)
 clear hK K
 refine nO 17 ?_
 refine Pu 9 ?_
 refine Pu 10 ?_
 refine dO ?_
 try go_wp2
 go_ret
 exact ⟨by first | rfl | (simp [errW_none, errW_some] <;> rfl) | (simp only [← hji11]; first | rfl | (simp [errW_none, errW_some] <;> rfl)) | (simp [*, errW_none, errW_some] <;> rfl), by exact eS HB.out⟩
end Go.Proofs.YtiomfignokichaaGreatDoor.X
