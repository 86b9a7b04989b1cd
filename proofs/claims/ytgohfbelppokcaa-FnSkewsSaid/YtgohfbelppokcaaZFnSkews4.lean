/- What the law FnSkews needs, part 5 of 5: what each function of the program that it reaches returns (printed by this session's own program, checked by Lean), and plain mathematics about it. Conditions: those of each theorem. -/
import Derived.Test.YtgohfbelppokcaaZFnSkews3
import Derived.Test.YtgohfbelppokcaaYG
import Derived.ProofKit
import Derived.WideShapes
-- Qnear
namespace Go.Proofs.Ytgohfbelppokcaa.Pure
open Go Go.RowKit Go.Proofs Go.Proofs.Ytgohfbelppokcaa.X Go.Proofs.YtgohfbelppokcaaW.PrintWords Go.Proofs.YtgohfbelppokcaaW.PrintLast
set_option linter.unusedVariables false
set_option linter.unusedSimpArgs false

def nearB (x n d p : Int) : Bool := decide (100 * absI (x * d - n) ≤ p * n)
theorem near_w {x n d p : Int} (hx : 1 ≤ x ∧ x ≤ 20000) (hn : 0 ≤ n ∧ n ≤ 80800) (hd : 1 ≤ d ∧ d ≤ 200) (hp : 0 ≤ p ∧ p ≤ 101) :
    (0 ≤ x * d ∧ x * d ≤ 4000000) ∧ (0 ≤ absI (x * d - n) ∧ absI (x * d - n) ≤ 4080800) ∧ (0 ≤ p * n ∧ p * n ≤ 8160800) := by
  have h1 := mul_bd (a := x) (b := d) (A := 20000) (B := 200) (by omega) (by omega) (by omega) (by omega)
  have h2 := mul_bd (a := p) (b := n) (A := 101) (B := 80800) (by omega) (by omega) (by omega) (by omega)
  exact ⟨by omega, absI_bd (by omega) (by omega), by omega⟩
theorem l15Near_eq {x n d p : Int} (hx : 1 ≤ x ∧ x ≤ 20000) (hn : 0 ≤ n ∧ n ≤ 80800) (hd : 1 ≤ d ∧ d ≤ 200) (hp : 0 ≤ p ∧ p ≤ 101) : spec_l15Near.f x n d p = some (nearB x n d p) := by
  obtain ⟨h1, h2, h3⟩ := near_w hx hn hd hp
  unfold spec_l15Near.f
  rw [w64 (x := x * d) (by omega) (by omega), w64 (x := x * d - n) (by omega) (by omega), w64 (x := -(x * d - n)) (by omega) (by omega), most2_eq _ (by omega) (by omega)]
  simp only [Option.bind_some]
  rw [w64 (x := 100 * absI (x * d - n)) (by omega) (by omega), w64 (x := p * n) (by omega) (by omega)]
  rfl
theorem nearI_eq {x n d p : Int} (hx : 1 ≤ x ∧ x ≤ 20000) (hn : 0 ≤ n ∧ n ≤ 80800) (hd : 1 ≤ d ∧ d ≤ 200) (hp : 0 ≤ p ∧ p ≤ 101) : impl_WithinSize_1.f x n d p = some (nearB x n d p) := by
  obtain ⟨h1, h2, h3⟩ := near_w hx hn hd hp
  unfold impl_WithinSize_1.f
  rw [w64 (x := x * d) (by omega) (by omega), w64 (x := x * d - n) (by omega) (by omega), abs_eq (by omega) (by omega)]
  simp only [Option.bind_some]
  rw [w64 (x := 100 * absI (x * d - n)) (by omega) (by omega), w64 (x := p * n) (by omega) (by omega)]
  rfl
theorem absI_mul {g z : Int} (hg : 0 < g) : absI (g * z) = g * absI z := by
  unfold absI
  rcases Int.lt_or_le z 0 with h | h
  · rw [if_pos (Int.mul_neg_of_pos_of_neg hg h), if_pos h, Int.mul_neg]
  · have := Int.mul_nonneg (Int.le_of_lt hg) h
    rw [if_neg (by omega), if_neg (by omega)]
theorem near_scale {x n d p : Int} (hd : 0 < d) : nearB x (fracM n d).1 (fracM n d).2 p = nearB x n d p := by
  have m1 := fracM_mul (n := n) hd
  have g1 := gcdM_pos (a := n) hd
  generalize (fracM n d).1 = n1 at *
  generalize (fracM n d).2 = d1 at *
  generalize gcdM n d = g at *
  obtain ⟨rfl, rfl⟩ := m1
  unfold nearB
  have e1 : x * (g * d1) - g * n1 = g * (x * d1 - n1) := by rw [Int.mul_sub, Int.mul_left_comm]
  have e2 : p * (g * n1) = g * (p * n1) := Int.mul_left_comm _ _ _
  have e3 : 100 * (g * absI (x * d1 - n1)) = g * (100 * absI (x * d1 - n1)) := Int.mul_left_comm _ _ _
  rw [e1, e2, absI_mul g1, e3]
  congr 1
  exact propext ⟨fun h => Int.mul_le_mul_of_nonneg_left h (by omega), fun h => Int.le_of_mul_le_mul_left h g1⟩
def withinM (w h : Int) (l : List Int) (a b e x1 x2 y1 y2 p : Int) : Bool × Bool :=
  if (chartB w h l && gaugeB a b e) && (measureB x1 x2 y1 y2 && decide (0 ≤ p ∧ p ≤ 100)) then
    (nearB x1 (wideM w a e) a p && (nearB x2 (wideM w a e) a p && (nearB y1 (wideM h b e) b p && nearB y2 (wideM h b e) b p)), true)
  else (false, false)
theorem withinS_eq {k : Nat} {w h : Int} {l : List Int} (a b e x1 x2 y1 y2 p : Int) (hk : l.length < k) (hl : l.length ≤ 1048576) : spec_WithinSize.f k w h l a b e x1 x2 y1 y2 p = some (withinM w h l a b e x1 x2 y1 y2 p) := by
  obtain ⟨k, rfl, hk2⟩ := succ_of hk
  simp only [spec_WithinSize.f, asked_eq a b e hk hl, l15Measure_eq, l1In_eq, Option.bind_some, withinM, spec_WithinSize.j0]
  cases hc : (chartB w h l && gaugeB a b e)
  · simp
  cases hm : measureB x1 x2 y1 y2
  · simp
  cases hp : decide (0 ≤ p ∧ p ≤ 100)
  · simp
  obtain ⟨h1, h2, h3, h4⟩ := size_of hc
  have hm := measure_of hm
  have hp := of_decide_eq_true hp
  simp only [if_true, spec_l15Wide.f, h1.2.2, h2.2.2, Option.bind_some, Bool.not_true, Bool.false_eq_true, if_false, Bool.and_self]
  rw [l15Near_eq (x := x1) (by omega) (by omega) h3 (by omega), l15Near_eq (x := x2) (by omega) (by omega) h3 (by omega), l15Near_eq (x := y1) (by omega) (by omega) h4 (by omega), l15Near_eq (x := y2) (by omega) (by omega) h4 (by omega)]
  simp only [Option.bind_some]
  cases nearB x1 (wideM w a e) a p <;> cases nearB x2 (wideM w a e) a p <;> cases nearB y1 (wideM h b e) b p <;> rfl
theorem withinI_eq {k : Nat} {w h : Int} {l : List Int} (a b e x1 x2 y1 y2 p : Int) (hk : 301 < k) : impl_WithinSize.f k w h l a b e x1 x2 y1 y2 p = some (withinM w h l a b e x1 x2 y1 y2 p) := by
  obtain ⟨k, rfl, hk2⟩ := succ_of hk
  simp only [impl_WithinSize.f, sizeI_eq (k := k + 1) (w := w) (h := h) (l := l) a b e (by omega), IsMeasure_eq, in_eq, Option.bind_some, withinM, impl_WithinSize.j0, sizeM]
  cases hc : (chartB w h l && gaugeB a b e)
  · simp
  cases hm : measureB x1 x2 y1 y2
  · simp
  cases hp : decide (0 ≤ p ∧ p ≤ 100)
  · simp
  obtain ⟨h1, h2, h3, h4⟩ := size_of hc
  have hm := measure_of hm
  have hp := of_decide_eq_true hp
  simp only [if_true, Bool.not_true, Bool.false_eq_true, if_false, Bool.and_self]
  have f1 := fracM_bd (n := wideM w a e) (d := a) (by omega) (by omega)
  have f2 := fracM_bd (n := wideM h b e) (d := b) (by omega) (by omega)
  rw [nearI_eq (x := x1) (by omega) (by omega) (by omega) (by omega), nearI_eq (x := x2) (by omega) (by omega) (by omega) (by omega), nearI_eq (x := y1) (by omega) (by omega) (by omega) (by omega), nearI_eq (x := y2) (by omega) (by omega) (by omega) (by omega)]
  simp only [Option.bind_some, near_scale (show 0 < a by omega), near_scale (show 0 < b by omega)]
  cases nearB x1 (wideM w a e) a p <;> cases nearB x2 (wideM w a e) a p <;> cases nearB y1 (wideM h b e) b p <;> rfl

end Go.Proofs.Ytgohfbelppokcaa.Pure

-- Qoffsize
namespace Go.Proofs.Ytgohfbelppokcaa.Pure
open Go Go.RowKit Go.Proofs Go.Proofs.Ytgohfbelppokcaa.X Go.Proofs.YtgohfbelppokcaaW.PrintWords Go.Proofs.YtgohfbelppokcaaW.PrintLast
set_option linter.unusedVariables false
set_option linter.unusedSimpArgs false

theorem tdiv_neg_mod {m b : Int} (hm : 0 ≤ m) (hb : 0 < b) : ∃ q r, Int.tdiv (-m) b = -q ∧ Int.tmod (-m) b = -r ∧ r + b * q = m ∧ 0 ≤ r ∧ r < b ∧ q = m / b := by
  refine ⟨m / b, m % b, ?_, ?_, ?_, Int.emod_nonneg m (by omega), Int.emod_lt_of_pos m hb, rfl⟩
  · rw [Int.neg_tdiv, Int.tdiv_eq_ediv_of_nonneg hm]
  · rw [Int.neg_tmod, Int.tmod_eq_emod_of_nonneg hm]
  · exact Int.emod_add_mul_ediv m b
theorem ediv_is {a b q r : Int} (hb : 0 < b) (h : r + b * q = a) (h0 : 0 ≤ r) (h1 : r < b) : a / b = q := ((Int.ediv_emod_unique hb).mpr ⟨h, h0, h1⟩).1
theorem ediv_abs {a b B : Int} (hb : 0 < b) (h1 : -B ≤ a) (h2 : a ≤ B) : -B ≤ a / b ∧ a / b ≤ B := by
  rcases Int.le_total 0 a with h | h
  · have := ediv_bd h hb; omega
  · have e : a / b ≤ 0 := Int.ediv_nonpos_of_nonpos_of_neg (by omega) (by omega) |> fun h => h
    have : a ≤ a / b := (Int.le_ediv_iff_mul_le hb).mpr (by have := Int.mul_le_mul_of_nonpos_left (a := a) (b := b) (c := 1) h (by omega); omega)
    omega
theorem floorDiv_eq {a b : Int} (hb : 0 < b ∧ b ≤ 1073741824) (h1 : -1073741824 ≤ a) (h2 : a ≤ 1073741824) : impl_floorDiv.f a b = some (a / b) := by
  unfold impl_floorDiv.f
  rw [if_neg (by omega)]
  have hd := ediv_abs hb.1 h1 h2
  rcases Int.lt_or_le a 0 with h | h
  · obtain ⟨m, rfl⟩ : ∃ m, a = -m := ⟨-a, by omega⟩
    obtain ⟨q, r, e1, e2, e3, r0, r1, eq⟩ := tdiv_neg_mod (m := m) (by omega) hb.1
    have hq := ediv_bd (a := m) (by omega) hb.1
    rw [e1, e2]
    by_cases hr : r = 0
    · rw [if_neg (by omega), w64 (by omega) (by omega)]
      congr 1
      exact (ediv_is (q := -q) (r := 0) hb.1 (by rw [Int.mul_neg]; omega) (by omega) (by omega)).symm
    · rw [if_pos (by omega), w64 (x := -q) (by omega) (by omega), w64 (by omega) (by omega)]
      congr 1
      exact (ediv_is (q := -q - 1) (r := b - r) hb.1 (by rw [Int.mul_sub, Int.mul_neg]; omega) (by omega) (by omega)).symm
  · rw [Int.tmod_eq_emod_of_nonneg h, Int.tdiv_eq_ediv_of_nonneg h]
    have := Int.emod_nonneg a (show b ≠ 0 by omega)
    rw [if_neg (by omega), w64 (by omega) (by omega)]
theorem l15Floor_eq {a b : Int} (hb : 0 < b ∧ b ≤ 1073741824) (h1 : -1073741824 ≤ a) (h2 : a ≤ 1073741824) : spec_l15Floor.f a b = some (a / b) := by
  unfold spec_l15Floor.f
  have hd := ediv_abs hb.1 h1 h2
  rcases Int.lt_or_le a 0 with h | h
  · rw [if_neg (by omega), if_neg (by omega), w64 (x := -a) (by omega) (by omega), w64 (x := -a + b) (by omega) (by omega), w64 (x := -a + b - 1) (by omega) (by omega), Int.tdiv_eq_ediv_of_nonneg (by omega)]
    have hq := ediv_bd (a := -a + b - 1) (b := b) (by omega) hb.1
    rw [w64 (x := (-a + b - 1) / b) (by omega) (by omega), w64 (by omega) (by omega)]
    congr 1
    have e3 := Int.emod_add_mul_ediv (-a + b - 1) b
    have r0 := Int.emod_nonneg (-a + b - 1) (show b ≠ 0 by omega)
    have r1 := Int.emod_lt_of_pos (-a + b - 1) hb.1
    refine (ediv_is (r := b - 1 - (-a + b - 1) % b) hb.1 ?_ (by omega) (by omega)).symm
    rw [Int.mul_neg]; omega
  · rw [if_pos (by omega), if_neg (by omega), Int.tdiv_eq_ediv_of_nonneg h, w64 (by omega) (by omega)]
def offM (x y n d : Int) : Int := ((x + y) * d - 2 * n) / (2 * d)
theorem off_scale {x y n d : Int} (hd : 0 < d) : offM x y (fracM n d).1 (fracM n d).2 = offM x y n d := by
  have m1 := fracM_mul (n := n) hd
  have g1 := gcdM_pos (a := n) hd
  generalize (fracM n d).1 = n1 at *
  generalize (fracM n d).2 = d1 at *
  generalize gcdM n d = g at *
  obtain ⟨rfl, rfl⟩ := m1
  unfold offM
  have e1 : (x + y) * (g * d1) - 2 * (g * n1) = g * ((x + y) * d1 - 2 * n1) := by rw [Int.mul_sub, Int.mul_left_comm, Int.mul_left_comm 2]
  have e2 : 2 * (g * d1) = g * (2 * d1) := Int.mul_left_comm _ _ _
  rw [e1, e2, Int.mul_ediv_mul_of_pos _ _ g1]
theorem off_w {x y n d : Int} (hx : 1 ≤ x ∧ x ≤ 20000) (hy : 1 ≤ y ∧ y ≤ 20000) (hn : 0 ≤ n ∧ n ≤ 80800) (hd : 1 ≤ d ∧ d ≤ 200) :
    wrap64 (wrap64 (wrap64 (x + y) * d) - wrap64 (2 * n)) = (x + y) * d - 2 * n ∧ wrap64 (2 * d) = 2 * d ∧ -1073741824 ≤ (x + y) * d - 2 * n ∧ (x + y) * d - 2 * n ≤ 1073741824 := by
  have h1 := mul_bd (a := x + y) (b := d) (A := 40000) (B := 200) (by omega) (by omega) (by omega) (by omega)
  rw [w64 (x := x + y) (by omega) (by omega), w64 (x := (x + y) * d) (by omega) (by omega), w64 (x := 2 * n) (by omega) (by omega), w64 (x := (x + y) * d - 2 * n) (by omega) (by omega), w64 (by omega) (by omega)]
  exact ⟨rfl, rfl, by omega, by omega⟩
def offSizeM (w h : Int) (l : List Int) (a b e x1 x2 y1 y2 : Int) : Int × Int × Bool :=
  if (chartB w h l && gaugeB a b e) && measureB x1 x2 y1 y2 then (offM x1 x2 (wideM w a e) a, offM y1 y2 (wideM h b e) b, true) else (0, 0, false)
theorem offS_eq {k : Nat} {w h : Int} {l : List Int} (a b e x1 x2 y1 y2 : Int) (hk : l.length < k) (hl : l.length ≤ 1048576) : spec_OffSize.f k w h l a b e x1 x2 y1 y2 = some (offSizeM w h l a b e x1 x2 y1 y2) := by
  obtain ⟨k, rfl, hk2⟩ := succ_of hk
  simp only [spec_OffSize.f, asked_eq a b e hk hl, l15Measure_eq, Option.bind_some, offSizeM, spec_OffSize.j0]
  cases hc : (chartB w h l && gaugeB a b e)
  · simp
  cases hm : measureB x1 x2 y1 y2
  · simp
  obtain ⟨h1, h2, h3, h4⟩ := size_of hc
  have hm := measure_of hm
  simp only [if_true, spec_l15Wide.f, h1.2.2, h2.2.2, Option.bind_some, Bool.not_true, Bool.false_eq_true, if_false, Bool.and_self]
  obtain ⟨w1, w2, w3, w4⟩ := off_w (x := x1) (y := x2) (n := wideM w a e) (d := a) (by omega) (by omega) (by omega) h3
  obtain ⟨v1, v2, v3, v4⟩ := off_w (x := y1) (y := y2) (n := wideM h b e) (d := b) (by omega) (by omega) (by omega) h4
  rw [w1, w2, v1, v2, l15Floor_eq (by omega) w3 w4, l15Floor_eq (by omega) v3 v4]
  rfl
theorem offI_eq {k : Nat} {w h : Int} {l : List Int} (a b e x1 x2 y1 y2 : Int) (hk : 301 < k) : impl_OffSize.f k w h l a b e x1 x2 y1 y2 = some (offSizeM w h l a b e x1 x2 y1 y2) := by
  obtain ⟨k, rfl, hk2⟩ := succ_of hk
  simp only [impl_OffSize.f, sizeI_eq (k := k + 1) (w := w) (h := h) (l := l) a b e (by omega), IsMeasure_eq, Option.bind_some, offSizeM, impl_OffSize.j0, sizeM]
  cases hc : (chartB w h l && gaugeB a b e)
  · simp
  cases hm : measureB x1 x2 y1 y2
  · simp
  obtain ⟨h1, h2, h3, h4⟩ := size_of hc
  have hm := measure_of hm
  simp only [if_true, Bool.not_true, Bool.false_eq_true, if_false, Bool.and_self]
  have f1 := fracM_bd (n := wideM w a e) (d := a) (by omega) (by omega)
  have f2 := fracM_bd (n := wideM h b e) (d := b) (by omega) (by omega)
  rw [← off_scale (x := x1) (y := x2) (n := wideM w a e) (show 0 < a by omega), ← off_scale (x := y1) (y := y2) (n := wideM h b e) (show 0 < b by omega)]
  obtain ⟨w1, w2, w3, w4⟩ := off_w (x := x1) (y := x2) (n := (fracM (wideM w a e) a).1) (d := (fracM (wideM w a e) a).2) (by omega) (by omega) (by omega) (by omega)
  obtain ⟨v1, v2, v3, v4⟩ := off_w (x := y1) (y := y2) (n := (fracM (wideM h b e) b).1) (d := (fracM (wideM h b e) b).2) (by omega) (by omega) (by omega) (by omega)
  rw [w1, w2, v1, v2, floorDiv_eq (by omega) w3 w4, floorDiv_eq (by omega) v3 v4]
  rfl

end Go.Proofs.Ytgohfbelppokcaa.Pure

-- Qcursorc
namespace Go.Proofs.Ytgohfbelppokcaa.Pure
open Go Go.RowKit Go.Proofs Go.Proofs.Ytgohfbelppokcaa.X Go.Proofs.YtgohfbelppokcaaW.PrintWords Go.Proofs.YtgohfbelppokcaaW.PrintLast
set_option linter.unusedVariables false
set_option linter.unusedSimpArgs false

theorem gauge_ex {s : List Int} {p : Int} (h : Int) (hs : curOk s) (hp : 0 ≤ p ∧ p ≤ 900000) : ∃ a b c p' h', spec_l1Cur_gauge.f s p h = some (a, b, c, p', h') ∧ (p ≤ p' ∧ p' ≤ p + 10) ∧ (-1 ≤ a ∧ a ≤ 201) ∧ (-1 ≤ b ∧ b ≤ 201) ∧ (-1 ≤ c ∧ c ≤ 201) := by
  obtain ⟨v1, p1, h1, e1, b1, m1⟩ := among_ex h [1, 3, 10, 40, 75, 200] hs (p := p) (by omega) (by simp)
  obtain ⟨v2, p2, h2, e2, b2, m2⟩ := among_ex h1 [1, 4, 10, 50, 200] hs (p := p1) (by omega) (by simp)
  obtain ⟨v3, p3, h3, e3, b3, m3⟩ := among_ex h2 [0, 0, 5, 20, 200] hs (p := p2) (by omega) (by simp)
  obtain ⟨v4, p4, h4, e4, b4, _⟩ := pick_ex h3 hs (p := p3) (n := 32) (by omega) (by omega)
  obtain ⟨v5, p5, h5, e5, b5, m5⟩ := among_ex h4 [0, 201] hs (p := p4) (by omega) (by simp)
  obtain ⟨v6, p6, h6, e6, b6, m6⟩ := among_ex h4 [-1, 201] hs (p := p4) (by omega) (by simp)
  simp only [spec_l1Cur_gauge.f, e1, e2, e3, e4, e5, e6, Option.bind_some]
  simp at m1 m2 m3 m5 m6
  by_cases g0 : v4 = 0
  · rw [if_pos g0]; exact ⟨_, _, _, _, _, rfl, by omega, by omega, by omega, by omega⟩
  rw [if_neg g0]
  by_cases g1 : v4 = 1
  · rw [if_pos g1]; exact ⟨_, _, _, _, _, rfl, by omega, by omega, by omega, by omega⟩
  rw [if_neg g1]
  by_cases g2 : v4 = 2
  · rw [if_pos g2]; exact ⟨_, _, _, _, _, rfl, by omega, by omega, by omega, by omega⟩
  rw [if_neg g2]; exact ⟨_, _, _, _, _, rfl, by omega, by omega, by omega, by omega⟩
theorem plain_loop {s : List Int} (hs : curOk s) (W H : Nat) (hW : W ≤ 9 ∧ H ≤ 9) (B : Int) (hB : B ≤ 100000) : ∀ (n k i : Nat) (p h : Int) (l : List Int), i + n = W * H → n < k → l.length = i → (∀ x ∈ l, 0 ≤ x ∧ x ≤ 5) → 0 ≤ p → p ≤ B + 4 * i → ∃ l' p' h', spec_l1Cur_plain.l0 k (W : Int) (H : Int) (i : Int) s p h (W : Int) (H : Int) l = some ((W : Int), (H : Int), l', p', h') ∧ l'.length = W * H ∧ (∀ x ∈ l', 0 ≤ x ∧ x ≤ 5) ∧ p ≤ p' ∧ p' ≤ B + 4 * (W * H : Nat) := by
  have hm : W * H ≤ 81 := Nat.mul_le_mul hW.1 hW.2
  have hw : wrap64 ((W : Int) * (H : Int)) = ((W * H : Nat) : Int) := by rw [← Int.natCast_mul]; exact w64 (by omega) (by omega)
  generalize hWH : W * H = M at *
  intro n
  induction n with
  | zero =>
    intro k i p h l hi hk hl hx hp hpB
    obtain ⟨k, rfl, _⟩ := succ_of hk
    simp only [spec_l1Cur_plain.l0, hw]
    rw [if_neg (by omega)]
    exact ⟨_, _, _, rfl, by omega, hx, by omega, by omega⟩
  | succ n ih =>
    intro k i p h l hi hk hl hx hp hpB
    obtain ⟨k, rfl, hk⟩ := succ_of hk
    obtain ⟨v1, p1, h1, e1, b1, m1⟩ := among_ex h [0, 0, 0, 1, 1, 2, 5] hs (p := p) (by omega) (by simp)
    have hW1 : 0 < W := Nat.pos_of_ne_zero (fun h => by subst h; simp at hWH; omega)
    simp only [spec_l1Cur_plain.l0, hw, e1, Option.bind_some]
    simp at m1
    have hv : 0 ≤ v1 ∧ v1 ≤ 5 := by omega
    have happ : ∀ x : Int, (0 ≤ x ∧ x ≤ 5) → ∀ y ∈ l ++ [x], 0 ≤ y ∧ y ≤ 5 := by
      intro x hx2 y hy
      rcases List.mem_append.mp hy with h | h
      · exact hx y h
      · rw [List.mem_singleton] at h; subst h; exact hx2
    rw [if_pos (by omega)]
    by_cases g : (i : Int) ≥ W
    · rw [if_pos g]
      obtain ⟨b, p2, h2, e2, b2⟩ := one_ex h1 hs (p := p1) (n := 3) (by omega) (by omega)
      simp only [e2, Option.bind_some]
      cases b
      · simp only [Bool.false_eq_true, if_false]
        rw [if_pos (by omega), wstep (n := M) (by omega) (by omega)]
        obtain ⟨l', p', h', e, r1, r2, r3, r4⟩ := ih k (i + 1) p2 h2 (l ++ [v1]) (by omega) (by omega) (by rw [List.length_append, List.length_singleton, hl]) (happ v1 hv) (by omega) (by omega)
        exact ⟨l', p', h', e, r1, r2, by omega, r4⟩
      · simp only [if_true]
        rw [w64 (x := (i : Int) - W) (by omega) (by omega), if_pos (by omega), if_pos (by omega), if_pos (by omega), wstep (n := M) (by omega) (by omega)]
        have hlt : i - W < l.length := by omega
        have hr : 0 ≤ l.getD (i - W) 0 ∧ l.getD (i - W) 0 ≤ 5 := by
          refine hx _ ?_
          rw [List.getD_eq_getElem?_getD, List.getElem?_eq_getElem hlt]; exact List.getElem_mem hlt
        have er : rd l ((i : Int) - W) = l.getD (i - W) 0 := by
          rw [show (i : Int) - W = ((i - W : Nat) : Int) by omega, rd_nat]
        rw [er]
        obtain ⟨l', p', h', e, r1, r2, r3, r4⟩ := ih k (i + 1) p2 h2 (l ++ [l.getD (i - W) 0]) (by omega) (by omega) (by rw [List.length_append, List.length_singleton, hl]) (happ _ hr) (by omega) (by omega)
        exact ⟨l', p', h', e, r1, r2, by omega, r4⟩
    · rw [if_neg g, if_pos (by omega), wstep (n := M) (by omega) (by omega)]
      obtain ⟨l', p', h', e, r1, r2, r3, r4⟩ := ih k (i + 1) p1 h1 (l ++ [v1]) (by omega) (by omega) (by rw [List.length_append, List.length_singleton, hl]) (happ v1 hv) (by omega) (by omega)
      exact ⟨l', p', h', e, r1, r2, by omega, r4⟩
theorem plain_ex {k : Nat} {s : List Int} {p w h : Int} (c : Int) (hs : curOk s) (hk : 100 < k) (hp : 0 ≤ p ∧ p ≤ 100000) (hw : 0 ≤ w ∧ w ≤ 9) (hh : 0 ≤ h ∧ h ≤ 9) : ∃ l' p' h', spec_l1Cur_plain.f k s p c w h = some (w, h, l', p', h') ∧ (p ≤ p' ∧ p' ≤ p + 324) ∧ (l'.length : Int) = w * h ∧ (∀ x ∈ l', 0 ≤ x ∧ x ≤ 5) := by
  obtain ⟨W, rfl⟩ := nat_of hw.1
  obtain ⟨H, rfl⟩ := nat_of hh.1
  have hm : W * H ≤ 81 := Nat.mul_le_mul (show W ≤ 9 by omega) (show H ≤ 9 by omega)
  obtain ⟨l', p', h', e, r1, r2, r3, r4⟩ := plain_loop hs W H (by omega) p (by omega) (W * H) k 0 p c [] (by omega) (by omega) rfl (fun x hx => absurd hx (by simp)) (by omega) (by omega)
  refine ⟨l', p', h', e, by omega, by rw [r1, Int.natCast_mul], r2⟩
theorem chart_ex {k : Nat} {s : List Int} {p : Int} (c : Int) (hs : curOk s) (hk : 100 < k) (hp : 0 ≤ p ∧ p ≤ 10000) : ∃ w h l' p' h', spec_l1Cur_chart.f k s p c = some (w, h, l', p', h') ∧ (p ≤ p' ∧ p' ≤ p + 2000) ∧ (0 ≤ w ∧ w ≤ 9) ∧ (0 ≤ h ∧ h ≤ 9) ∧ l'.length ≤ 100 ∧ (∀ x ∈ l', -1 ≤ x ∧ x ≤ 6) := by
  obtain ⟨w, p1, h1, e1, b1, m1⟩ := among_ex c [1, 2, 3, 3, 4, 4, 5, 6, 8] hs (p := p) (by omega) (by simp)
  obtain ⟨h, p2, h2, e2, b2, m2⟩ := among_ex h1 [1, 2, 3, 3, 4, 5, 8] hs (p := p1) (by omega) (by simp)
  simp at m1 m2
  have hw : 1 ≤ w ∧ w ≤ 8 := by omega
  have hh : 1 ≤ h ∧ h ≤ 8 := by omega
  clear m1 m2
  obtain ⟨l, p3, h3, e3, b3, c3, x3⟩ := plain_ex h2 hs hk (p := p2) (w := w) (h := h) (by omega) (by omega) (by omega)
  obtain ⟨v4, p4, h4, e4, b4, _⟩ := pick_ex h3 hs (p := p3) (n := 40) (by omega) (by omega)
  have hb := mul_bd (a := w) (b := h) (A := 8) (B := 8) (by omega) (by omega) (by omega) (by omega)
  have hpos : 0 < w * h := Int.mul_pos (by omega) (by omega)
  obtain ⟨v5, p5, h5, e5, b5, m5, m6⟩ := pick_ex h4 hs (p := p4) (n := (l.length : Int)) (by omega) (by omega)
  have m7 := m6 (by omega)
  obtain ⟨v6, p6, h6, e6, b6, m8⟩ := among_ex h5 [-1, 6] hs (p := p5) (by omega) (by simp)
  obtain ⟨v7, p7, h7, e7, b7, m9⟩ := among_ex h4 [0, 9] hs (p := p4) (by omega) (by simp)
  simp at m8 m9
  obtain ⟨l8, p8, h8, e8, b8, c8, x8⟩ := plain_ex h7 hs hk (p := p7) (w := v7) (h := 1) (by omega) (by omega) (by omega)
  simp only [spec_l1Cur_chart.f, e1, e2, e3, e4, e5, e6, e7, e8, Option.bind_some]
  by_cases g0 : v4 = 0
  · rw [if_pos g0, if_pos m5, if_pos m7]
    refine ⟨_, _, _, _, _, rfl, by omega, by omega, by omega, by rw [List.length_set]; omega, fun x hx => ?_⟩
    rcases List.mem_or_eq_of_mem_set hx with h | rfl
    · have := x3 x h; omega
    · omega
  rw [if_neg g0]
  by_cases g1 : v4 = 1
  · rw [if_pos g1, if_pos (by omega)]
    refine ⟨_, _, _, _, _, rfl, by omega, by omega, by omega, by rw [List.length_append, List.length_singleton]; omega, fun x hx => ?_⟩
    rcases List.mem_append.mp hx with h | h
    · have := x3 x h; omega
    · rw [List.mem_singleton] at h; omega
  rw [if_neg g1]
  by_cases g2 : v4 = 2
  · rw [if_pos g2]
    refine ⟨_, _, _, _, _, rfl, by omega, by omega, by omega, by omega, fun x hx => ?_⟩
    have := x8 x hx; omega
  rw [if_neg g2]
  refine ⟨_, _, _, _, _, rfl, by omega, by omega, by omega, by omega, fun x hx => ?_⟩
  have := x3 x hx; omega

end Go.Proofs.Ytgohfbelppokcaa.Pure

-- Qskewcur
namespace Go.Proofs.Ytgohfbelppokcaa.Pure
open Go Go.RowKit Go.Proofs Go.Proofs.Ytgohfbelppokcaa.X Go.Proofs.YtgohfbelppokcaaW.PrintWords Go.Proofs.YtgohfbelppokcaaW.PrintLast
set_option linter.unusedVariables false
set_option linter.unusedSimpArgs false

theorem most_ex (a b : Int) : ∃ t, spec_l1Most.f a b = some t := by
  unfold spec_l1Most.f; split <;> exact ⟨_, rfl⟩
theorem measure_j0 {k : Nat} {s : List Int} {p : Int} (h a b : Int) (hs : curOk s) (hk : 0 < k) (hp : 0 ≤ p ∧ p ≤ 900000) : ∃ x0 x1 x2 x3 p' h', spec_l1Cur_measure.j0 k a b s p h = some (x0, x1, x2, x3, p', h') ∧ (p ≤ p' ∧ p' ≤ p + 12) := by
  obtain ⟨k, rfl, _⟩ := succ_of hk
  obtain ⟨v1, p1, h1, e1, b1, _⟩ := among_ex h [0, 0, 1, 3, 10] hs (p := p) (by omega) (by simp)
  obtain ⟨v2, p2, h2, e2, b2, _⟩ := among_ex h1 [0, 0, 1, 5] hs (p := p1) (by omega) (by simp)
  obtain ⟨v3, p3, h3, e3, b3, _⟩ := among_ex h2 [0, 1, 2, 20] hs (p := p2) (by omega) (by simp)
  obtain ⟨v4, p4, h4, e4, b4, _⟩ := among_ex h3 [0, 0, 4] hs (p := p3) (by omega) (by simp)
  obtain ⟨v5, p5, h5, e5, b5⟩ := one_ex h4 hs (p := p4) (n := 24) (by omega) (by omega)
  obtain ⟨v6, p6, h6, e6, b6, _⟩ := among_ex h5 [0, 1, 20000, 20001] hs (p := p5) (by omega) (by simp)
  simp only [spec_l1Cur_measure.j0, e1, e2, e3, e4, e5, e6, Option.bind_some]
  cases v5
  · simp only [Bool.false_eq_true, if_false]; exact ⟨_, _, _, _, _, _, rfl, by omega⟩
  · simp only [if_true]; exact ⟨_, _, _, _, _, _, rfl, by omega⟩
theorem measure_ex {k : Nat} {s : List Int} {p w hh : Int} {l : List Int} {a b e : Int} (h : Int) (hs : curOk s) (hk : 2000000 < k) (hl : l.length ≤ 1000) (hp : 0 ≤ p ∧ p ≤ 900000) : ∃ x0 x1 x2 x3 p' h', spec_l1Cur_measure.f k s p h w hh l a b e = some (x0, x1, x2, x3, p', h') ∧ (p ≤ p' ∧ p' ≤ p + 12) := by
  unfold spec_l1Cur_measure.f
  rw [sizeS_eq (k := k) (w := w) (h := hh) (l := l) a b e (by omega) (by omega) (by omega), Option.bind_some]
  unfold sizeM
  cases hc : (chartB w hh l && gaugeB a b e)
  · simp only [Bool.false_eq_true, if_false]
    exact measure_j0 h 100 120 hs (by omega) hp
  · obtain ⟨h1, h2, h3, h4⟩ := size_of hc
    have f1 := fracM_bd (n := wideM w a e) (d := a) (by omega) (by omega)
    have f2 := fracM_bd (n := wideM hh b e) (d := b) (by omega) (by omega)
    obtain ⟨t1, e1⟩ := most_ex 1 (wrap64 (Int.tdiv (fracM (wideM w a e) a).1 (fracM (wideM w a e) a).2))
    obtain ⟨t2, e2⟩ := most_ex 1 (wrap64 (Int.tdiv (fracM (wideM hh b e) b).1 (fracM (wideM hh b e) b).2))
    simp only [if_true, e1, e2, Option.bind_some]
    rw [if_neg (by omega), if_neg (by omega)]
    exact measure_j0 h t1 t2 hs (by omega) hp
theorem asked_ex {k : Nat} {s : List Int} (hs : curOk s) (hk : 2000000 < k) : ∃ w hh l a b e x0 x1 x2 x3 p' h', (∃ p1 h1, spec_l1Cur_chart.f k s 0 0 = some (w, hh, l, p1, h1) ∧ ∃ p2 h2, spec_l1Cur_gauge.f s p1 h1 = some (a, b, e, p2, h2) ∧ spec_l1Cur_measure.f k s p2 h2 w hh l a b e = some (x0, x1, x2, x3, p', h')) ∧ l.length ≤ 100 ∧ (0 ≤ p' ∧ p' ≤ 20000) := by
  obtain ⟨w, hh, l, p1, h1, e1, b1, _, _, hl, _⟩ := chart_ex (k := k) 0 hs (p := 0) (by omega) (by omega)
  obtain ⟨a, b, e, p2, h2, e2, b2, _, _, _⟩ := gauge_ex h1 hs (p := p1) (by omega)
  obtain ⟨x0, x1, x2, x3, p3, h3, e3, b3⟩ := measure_ex (k := k) (w := w) (hh := hh) (l := l) (a := a) (b := b) (e := e) h2 hs hk (by omega) (p := p2) (by omega)
  exact ⟨w, hh, l, a, b, e, x0, x1, x2, x3, p3, h3, ⟨p1, h1, e1, p2, h2, e2, e3⟩, hl, by omega⟩

end Go.Proofs.Ytgohfbelppokcaa.Pure

-- Qskewslaw
namespace Go.Proofs.Ytgohfbelppokcaa.Pure
open Go Go.RowKit Go.Proofs Go.Proofs.YtgohfbelppokcaaW.PrintWords Go.Proofs.YtgohfbelppokcaaW.PrintLast
set_option linter.unusedVariables false
set_option linter.unusedSimpArgs false

theorem absI_zero {x : Int} : absI x = 0 ↔ x = 0 := by unfold absI; split <;> omega
theorem absI_nn (x : Int) : 0 ≤ absI x := by unfold absI; split <;> omega
theorem skew_zero {a b c d : Int} (h : measureB a b c d = true) : (skewM a b c d).1 = 0 ↔ (absI (a - b) = 0 ∧ absI (c - d) = 0) := by
  have hm := measure_of h
  have hW := absI_nn (a - b)
  have hL := absI_nn (c - d)
  unfold skewM
  rw [if_pos h]
  by_cases g : absI (c - d) * (a + b) > absI (a - b) * (c + d)
  · rw [if_pos g]
    have m := (fracM_mul (n := absI (c - d)) (d := c + d) (by omega)).1
    have g1 := gcdM_pos (a := absI (c - d)) (b := c + d) (by omega)
    have hp : 0 ≤ absI (a - b) * (c + d) := Int.mul_nonneg hW (by omega)
    have hL0 : absI (c - d) ≠ 0 := by
      intro e; rw [e] at g; simp at g; omega
    constructor
    · intro e
      simp only at e
      rw [e] at m; simp at m; omega
    · intro e; omega
  · rw [if_neg g]
    have m := (fracM_mul (n := absI (a - b)) (d := a + b) (by omega)).1
    have g1 := gcdM_pos (a := absI (a - b)) (b := a + b) (by omega)
    constructor
    · intro e
      simp only at e
      rw [e] at m
      have hW0 : absI (a - b) = 0 := by simp at m; omega
      refine ⟨hW0, ?_⟩
      rw [hW0] at g
      have hz : 0 * (c + d) = 0 := Int.zero_mul _
      rw [hz] at g
      rcases Int.lt_or_le 0 (absI (c - d)) with q | q
      · have := Int.mul_pos q (show 0 < a + b by omega); omega
      · omega
    · intro e
      simp only
      rw [e.1] at m ⊢
      rcases Int.mul_eq_zero.mp m.symm with q | q
      · rw [e.1] at g1; omega
      · exact q
theorem near_mono {x n d p : Int} (hn : 0 ≤ n) (h : nearB x n d p = true) : nearB x n d (p + 1) = true := by
  unfold nearB at *
  have h := of_decide_eq_true h
  refine decide_eq_true ?_
  rw [Int.add_mul, Int.one_mul]; omega
theorem near_zero {x n d : Int} (h : nearB x n d 0 = true) : x * d = n := by
  unfold nearB at h
  have h := of_decide_eq_true h
  have := absI_nn (x * d - n)
  rw [Int.zero_mul] at h
  have := (absI_zero (x := x * d - n)).mp (by omega)
  omega
theorem off_zero {x y n d : Int} (hx : nearB x n d 0 = true) (hy : nearB y n d 0 = true) : offM x y n d = 0 := by
  have h1 := near_zero hx
  have h2 := near_zero hy
  unfold offM
  have e : (x + y) * d - 2 * n = 0 := by rw [Int.add_mul]; omega
  rw [e, Int.zero_ediv]
theorem within_more {w h : Int} {l : List Int} {a b e x1 x2 y1 y2 p : Int} (hp : p < 100) (hh : (withinM w h l a b e x1 x2 y1 y2 p).1 = true) : withinM w h l a b e x1 x2 y1 y2 (p + 1) = (true, true) := by
  unfold withinM at *
  by_cases hc : ((chartB w h l && gaugeB a b e) && (measureB x1 x2 y1 y2 && decide (0 ≤ p ∧ p ≤ 100))) = true
  · rw [if_pos hc] at hh
    simp only [Bool.and_eq_true] at hc hh
    have hp0 := of_decide_eq_true hc.2.2
    obtain ⟨h1, h2, h3, h4⟩ := size_of (show (chartB w h l && gaugeB a b e) = true by rw [hc.1.1, hc.1.2]; rfl)
    rw [hc.1.1, hc.1.2, hc.2.1, decide_eq_true (show 0 ≤ p + 1 ∧ p + 1 ≤ 100 by omega), if_pos (show ((true && true) && (true && true)) = true from rfl)]
    rw [near_mono (by omega) hh.1, near_mono (by omega) hh.2.1, near_mono (by omega) hh.2.2.1, near_mono (by omega) hh.2.2.2]; rfl
  · rw [if_neg hc] at hh; exact absurd hh (by simp)
theorem within_zero {w h : Int} {l : List Int} {a b e x1 x2 y1 y2 : Int} (hh : (withinM w h l a b e x1 x2 y1 y2 0).1 = true) : offSizeM w h l a b e x1 x2 y1 y2 = (0, 0, true) := by
  unfold withinM at hh
  unfold offSizeM
  by_cases hc : ((chartB w h l && gaugeB a b e) && (measureB x1 x2 y1 y2 && decide ((0 : Int) ≤ 0 ∧ (0 : Int) ≤ 100))) = true
  · rw [if_pos hc] at hh
    simp only [Bool.and_eq_true] at hc hh
    rw [hc.1.1, hc.1.2, hc.2.1, if_pos (show ((true && true) && true) = true from rfl), off_zero hh.1 hh.2.1, off_zero hh.2.2.1 hh.2.2.2]
  · rw [if_neg hc] at hh; exact absurd hh (by simp)

end Go.Proofs.Ytgohfbelppokcaa.Pure

-- PureFnSkews
namespace Go.Proofs.Ytgohfbelppokcaa.Pure
open Go Go.RowKit Go.Proofs Go.Proofs.Ytgohfbelppokcaa.X Go.Proofs.YtgohfbelppokcaaW.PrintWords Go.Proofs.YtgohfbelppokcaaW.PrintLast
set_option linter.unusedVariables false
set_option linter.unusedSimpArgs false

theorem skews_off {k : Nat} {l : List Int} (hs : curOk l) (hk : 2100000 < k) : ((spec_DrawOffSize.f k l).bind fun bt166 => ((impl_OffSize.f k bt166.1 bt166.2.1 bt166.2.2.1 bt166.2.2.2.1 bt166.2.2.2.2.1 bt166.2.2.2.2.2.1 bt166.2.2.2.2.2.2.1 bt166.2.2.2.2.2.2.2.1 bt166.2.2.2.2.2.2.2.2.1 bt166.2.2.2.2.2.2.2.2.2).bind fun bt181 => ((spec_OffSize.f k bt166.1 bt166.2.1 bt166.2.2.1 bt166.2.2.2.1 bt166.2.2.2.2.1 bt166.2.2.2.2.2.1 bt166.2.2.2.2.2.2.1 bt166.2.2.2.2.2.2.2.1 bt166.2.2.2.2.2.2.2.2.1 bt166.2.2.2.2.2.2.2.2.2).bind fun bt184 => (if bt181.1 = bt184.1 then (if bt181.2.1 = bt184.2.1 then (some (bt181.2.2 == bt184.2.2)) else (some false)) else (some false))))) = some true := by
  obtain ⟨w, hh, c, a, b, e, x0, x1, x2, x3, p', h', ⟨p1, h1, e1, p2, h2, e2, e3⟩, hl, hp⟩ := asked_ex (k := k) hs (by omega)
  have hd : spec_DrawOffSize.f k l = some (w, hh, c, a, b, e, x0, x1, x2, x3) := by simp only [spec_DrawOffSize.f, e1, e2, e3, Option.bind_some]
  simp only [hd, Option.bind_some, offI_eq (k := k) (w := w) (h := hh) (l := c) a b e x0 x1 x2 x3 (by omega), offS_eq (k := k) (w := w) (h := hh) (l := c) a b e x0 x1 x2 x3 (by omega) (by omega), if_true, beq_self_eq_true]
theorem skews_j1 {k : Nat} {l : List Int} (hs : curOk l) (hk : 2200000 < k) : laws_FnSkews.j1 k l false = some true := by
  obtain ⟨k, rfl, hk1⟩ := succ_of hk
  obtain ⟨w, hh, c, a, b, e, x0, x1, x2, x3, p', h', ⟨p1, h1, e1, p2, h2, e2, e3⟩, hl, hp⟩ := asked_ex (k := k) hs (by omega)
  obtain ⟨p, p4, h4, e4, b4, _⟩ := among_ex h' [0, 1, 2, 5, 10, 100, 101, -1] hs (p := p') (by omega) (by simp)
  have hd : spec_DrawWithinSize.f k l = some (w, hh, c, a, b, e, x0, x1, x2, x3, p) := by simp only [spec_DrawWithinSize.f, e1, e2, e3, e4, Option.bind_some]
  simp only [laws_FnSkews.j1, hd, Option.bind_some, withinI_eq (k := k) (w := w) (h := hh) (l := c) a b e x0 x1 x2 x3 p (by omega), withinS_eq (k := k) (w := w) (h := hh) (l := c) a b e x0 x1 x2 x3 p (by omega) (by omega), bne_self_eq_false, Bool.false_eq_true, if_false]
  obtain ⟨k, rfl, hk2⟩ := succ_of (show 2199999 < k by omega)
  simp only [laws_FnSkews.j2, Bool.false_eq_true, if_false]
  have hr : ∀ k, 2150000 < k → laws_FnSkews.j4 k l p (withinM w hh c a b e x0 x1 x2 x3 p).1 w hh c a b e x0 x1 x2 x3 = some true := by
    intro k hk
    obtain ⟨k, rfl, hk3⟩ := succ_of hk
    obtain ⟨k, rfl, hk4⟩ := succ_of (show 2149999 < k by omega)
    cases hw : (withinM w hh c a b e x0 x1 x2 x3 p).1
    · simp only [laws_FnSkews.j4, Bool.false_eq_true, if_false, laws_FnSkews.j5]
      exact skews_off hs (by omega)
    · simp only [laws_FnSkews.j4, if_true, laws_FnSkews.j5]
      by_cases hp0 : p = 0
      · subst hp0
        simp only [beq_self_eq_true, if_true, offI_eq (k := k) (w := w) (h := hh) (l := c) a b e x0 x1 x2 x3 (by omega), within_zero hw, Option.bind_some, bne_self_eq_false]
        obtain ⟨k, rfl, hk5⟩ := succ_of (show 2149998 < k by omega)
        simp only [laws_FnSkews.j6, Bool.false_eq_true, if_false]
        exact skews_off hs (by omega)
      · rw [show (p == 0) = false from beq_eq_false_iff_ne.mpr hp0]
        simp only [Bool.false_eq_true, if_false]
        exact skews_off hs (by omega)
  obtain ⟨k, rfl, hk6⟩ := succ_of (show 2199998 < k by omega)
  cases hw : (withinM w hh c a b e x0 x1 x2 x3 p).1
  · simp only [Bool.false_eq_true, if_false, laws_FnSkews.j3]
    have := hr k (by omega)
    rw [hw] at this
    exact this
  · simp only [if_true]
    have h4 := hr k (by omega)
    rw [hw] at h4
    by_cases hp1 : p < 100
    · rw [decide_eq_true hp1]
      have hpb : 0 ≤ p := by
        unfold withinM at hw
        split at hw
        · rename_i g
          simp only [Bool.and_eq_true, decide_eq_true_eq] at g
          exact g.2.2.1
        · simp at hw
      simp only [laws_FnSkews.j3, if_true]
      rw [w64 (x := p + 1) (by omega) (by omega), withinI_eq (k := k) (w := w) (h := hh) (l := c) a b e x0 x1 x2 x3 (p + 1) (by omega), within_more hp1 hw]
      simp only [Option.bind_some, if_true]
      exact h4
    · rw [decide_eq_false hp1]
      simp only [laws_FnSkews.j3, Bool.false_eq_true, if_false]
      exact h4
theorem FnSkews : laws_FnSkews.Pure := by
  intro l hl
  obtain ⟨k, hk⟩ : ∃ k, k = 2300000 := ⟨_, rfl⟩
  refine ⟨k, ?_⟩
  simp only [laws_FnSkews.f, laws_vBig.f, Option.bind_some]
  by_cases hbig : (l.length : Int) > 65536
  · rw [decide_eq_true hbig, if_pos rfl]
  rw [decide_eq_false hbig, if_neg (by simp)]
  have hs : curOk l := ⟨by omega, fun y hy => wf8 (hl.2 y hy)⟩
  obtain ⟨w, hh, c, a, b, e, x0, x1, x2, x3, p', h', ⟨p1, h1, e1, p2, h2, e2, e3⟩, hl, hp⟩ := asked_ex (k := k) hs (by omega)
  have hd : spec_DrawSkewOf.f k l = some (x0, x1, x2, x3) := by simp only [spec_DrawSkewOf.f, spec_DrawIsMeasure.f, e1, e2, e3, Option.bind_some]
  have hok : (skewM x0 x1 x2 x3).2.2 = measureB x0 x1 x2 x3 := by
    unfold skewM
    cases measureB x0 x1 x2 x3
    · rfl
    · rw [if_pos rfl]; split <;> rfl
  have hsk := fun h => skew_zero (a := x0) (b := x1) (c := x2) (d := x3) h
  simp only [hd, Option.bind_some, skewI_eq (k := k) (by omega) x0 x1 x2 x3, skewS_eq (k := k) (by omega) x0 x1 x2 x3, IsMeasure_eq, if_true, bne_self_eq_false, Bool.false_eq_true, if_false, hok]
  obtain ⟨k, rfl, hk7⟩ := succ_of (show 2299999 < k by omega)
  simp only [laws_FnSkews.j0, Bool.false_eq_true, if_false, straightenI_eq, straightenS_eq, Option.bind_some, if_true, bne_self_eq_false, straightenM]
  cases hm : measureB x0 x1 x2 x3
  · simp only [Bool.false_eq_true, if_false, bne_self_eq_false]
    exact skews_j1 hs (by omega)
  · have hz := hsk hm
    simp only [if_true, bne_self_eq_false, Bool.false_eq_true, if_false]
    by_cases g1 : absI (x0 - x1) = 0
    · rw [if_pos g1]
      by_cases g2 : absI (x2 - x3) = 0
      · rw [show ((skewM x0 x1 x2 x3).1 == 0) = true from beq_iff_eq.mpr (hz.mpr ⟨g1, g2⟩), g2]
        exact skews_j1 hs (by omega)
      · rw [show ((skewM x0 x1 x2 x3).1 == 0) = false from beq_eq_false_iff_ne.mpr (fun e => g2 (hz.mp e).2), show (absI (x2 - x3) == 0) = false from beq_eq_false_iff_ne.mpr g2]
        exact skews_j1 hs (by omega)
    · rw [if_neg g1, show ((skewM x0 x1 x2 x3).1 == 0) = false from beq_eq_false_iff_ne.mpr (fun e => g1 (hz.mp e).1)]
      exact skews_j1 hs (by omega)

end Go.Proofs.Ytgohfbelppokcaa.Pure

-- Open
namespace Go.Proofs.Open
open Go.RowKit Go.WideShapes Go.Proofs.YtgohfbelppokcaaW.PrintWords
set_option linter.unusedVariables false

theorem mapM_cons_some {α β : Type} {f : α → Option β} {a : α} {l : List α} {ys : List β} (h : (a :: l).mapM f = some ys) : ∃ y ys', f a = some y ∧ l.mapM f = some ys' ∧ ys = y :: ys' := by
  rw [List.mapM_cons] at h
  obtain ⟨y, hy, h⟩ := Option.bind_eq_some_iff.mp h
  obtain ⟨ys', hys, h⟩ := Option.bind_eq_some_iff.mp h
  exact ⟨y, ys', hy, hys, (Option.some.inj h).symm⟩
theorem mapM_some_get {α β : Type} {f : α → Option β} : ∀ {l : List α} {ys : List β}, l.mapM f = some ys → ys.length = l.length ∧ ∀ (i : Nat) (a : α), l[i]? = some a → ∃ y, f a = some y ∧ ys[i]? = some y
  | [], ys, h => by
    obtain rfl : ys = [] := by simpa using h
    exact ⟨rfl, fun i a h => by simp at h⟩
  | a :: l, ys, h => by
    obtain ⟨y, ys', hy, hys, rfl⟩ := mapM_cons_some h
    obtain ⟨hl, hg⟩ := mapM_some_get hys
    refine ⟨by simp [hl], fun i b hb => ?_⟩
    cases i with
    | zero => obtain rfl : a = b := by simpa using hb
              exact ⟨y, hy, rfl⟩
    | succ i => exact hg i b (by simpa using hb)
theorem cells_get {w : World} {base n : Nat} {a : Addr} {cs : List Value} (h : w.cells? base a n = some cs) : cs.length = n ∧ ∀ i u, cs[i]? = some u → w.cell? (a.add i) = some u := by
  unfold World.cells? at h
  split at h
  · obtain ⟨hl, hg⟩ := mapM_some_get h
    rw [List.length_range] at hl
    refine ⟨hl, fun i u hu => ?_⟩
    have hi : i < n := by have := (List.getElem?_eq_some_iff.1 hu).1; omega
    obtain ⟨y, hy, hy2⟩ := hg i i (by simp [List.getElem?_range hi])
    rw [hu] at hy2
    injection hy2 with hy2
    rw [hy2]; exact hy
  · cases h
theorem add_add (a : Addr) (i j : Nat) : (a.add i).add j = a.add (i + j) := by
  by_cases hi : i = 0
  · subst hi
    rw [Nat.zero_add, show a.add 0 = a by unfold Addr.add; simp]
  · by_cases hj : j = 0
    · subst hj
      rw [Nat.add_zero, show (a.add i).add 0 = a.add i by unfold Addr.add; simp]
    · unfold Addr.add
      simp [hi, hj, Nat.add_assoc]
/-- Whatever reads as a datum of type t is an x of kind d, within ok. -/
structure Opens {α : Type} (P : Program) (W : World) (t : TypeId) (d : Kd α) (ok : α → Prop) : Prop where
  get : ∀ {H : Type} (enc : TypeId × Value → H) (base : Nat) (spare : Nat → Bool) (held : Bool) (fuel : Nat) (cs : List Value) (y : DataW H × List MemPlace), DataW.trod enc P W base spare held fuel t cs = some y → ∃ x, d.K W x cs ∧ ok x
theorem Opens.int {P : Program} {W : World} {t : TypeId} {k : IntKind} (hu : P.underlying t = some (.int k)) : Opens P W t (Kd.int k) (fun x => (Lit.int k x).wf = true) := ⟨by
  intro H enc base spare held fuel cs y h
  cases fuel with
  | zero => simp [DataW.trod] at h
  | succ fuel =>
    simp only [DataW.trod, hu] at h
    split at h <;> first | (cases h; done) | skip
    all_goals rename_i heq
    all_goals first | (cases heq; done) | skip
    rename_i k0 k' n
    injection heq with heq
    injection heq with heq
    subst heq
    split at h
    · rename_i hk
      obtain ⟨rfl, hw⟩ := hk
      exact ⟨n, rfl, hw⟩
    · cases h⟩
theorem Opens.bool {P : Program} {W : World} {t : TypeId} (hu : P.underlying t = some .bool) : Opens P W t Kd.bool (fun _ => True) := ⟨by
  intro H enc base spare held fuel cs y h
  cases fuel with
  | zero => simp [DataW.trod] at h
  | succ fuel =>
    simp only [DataW.trod, hu] at h
    split at h <;> first | (cases h; done) | skip
    all_goals rename_i heq
    all_goals first | (cases heq; done) | skip
    rename_i b
    exact ⟨b, rfl, trivial⟩⟩
theorem Opens.string {P : Program} {W : World} {t : TypeId} (hu : P.underlying t = some .string) : Opens P W t Kd.string (fun s => s.size ≤ 9223372036854775807) := ⟨by
  intro H enc base spare held fuel cs y h
  cases fuel with
  | zero => simp [DataW.trod] at h
  | succ fuel =>
    simp only [DataW.trod, hu] at h
    split at h <;> first | (cases h; done) | skip
    all_goals rename_i heq
    all_goals first | (cases heq; done) | skip
    rename_i s
    split at h
    · rename_i hs
      exact ⟨s, rfl, by simpa [maxLen] using hs⟩
    · cases h⟩
theorem pick {α : Type} {n : Nat} {Q : Nat → α → Prop} (h : ∀ i, i < n → ∃ x, Q i x) : ∃ xs : List α, xs.length = n ∧ ∀ i x, xs[i]? = some x → Q i x := by
  induction n with
  | zero => exact ⟨[], rfl, fun i x h => by simp at h⟩
  | succ n ih =>
    obtain ⟨xs, hl, hq⟩ := ih (fun i hi => h i (by omega))
    obtain ⟨x, hx⟩ := h n (by omega)
    refine ⟨xs ++ [x], by simp [hl], fun i z hz => ?_⟩
    by_cases hi : i < n
    · rw [List.getElem?_append_left (by omega)] at hz
      exact hq i z hz
    · have hlt := (List.getElem?_eq_some_iff.1 hz).1
      simp [hl] at hlt
      obtain rfl : i = n := by omega
      rw [List.getElem?_append_right (by omega), hl, Nat.sub_self] at hz
      obtain rfl : x = z := by simpa using hz
      exact hx
theorem Opens.slice {α : Type} {P : Program} {W : World} {t e : TypeId} {d : Kd α} {ok : α → Prop} (hu : P.underlying t = some (.slice e)) (hc : P.cellsOf e = d.sz) (h : Opens P W e d ok) :
    Opens P W t (Kd.slice e d) (fun l => l.length ≤ 9223372036854775807 ∧ ∀ x ∈ l, ok x) := ⟨by
  intro H enc base spare held fuel cs y hd
  cases fuel with
  | zero => simp [DataW.trod] at hd
  | succ fuel =>
    simp only [DataW.trod, hu] at hd
    split at hd <;> first | (cases hd; done) | skip
    all_goals rename_i heq
    all_goals first | (cases heq; done) | skip
    · exact ⟨[], ⟨none, 0, rfl, Nat.le_refl _, rfl, by simp, fun hp => absurd hp (by simp)⟩, by simp, fun x hx => by simp at hx⟩
    · rename_i e' a len cap
      injection heq with heq
      injection heq with heq
      subst heq
      split at hd
      · rename_i hb
        obtain ⟨hb1, hb2, hb3⟩ := hb
        obtain ⟨elems, hel, _⟩ := Option.bind_eq_some_iff.mp hd
        obtain ⟨hl, hg⟩ := mapM_some_get hel
        rw [List.length_range] at hl
        have hm : len ≤ 9223372036854775807 := by have : cap ≤ 9223372036854775807 := by simpa [maxLen] using hb3
                                                  omega
        obtain ⟨xs, hxl, hxs⟩ := pick (n := len) (Q := fun i x => ∃ c, c.length = d.sz ∧ d.K W x c ∧ ok x ∧ ∀ j u, c[j]? = some u → W.cell? (a.add (i * d.sz + j)) = some u) (fun i hi => by
          obtain ⟨z, hz, _⟩ := hg i i (by simp [List.getElem?_range hi])
          obtain ⟨c, hcc, hct⟩ := Option.bind_eq_some_iff.mp hz
          obtain ⟨x, hK, hok⟩ := h.get enc base spare held fuel c z hct
          obtain ⟨hcl, hcell⟩ := cells_get hcc
          refine ⟨x, c, by rw [hcl, hc], hK, hok, fun j u hu => ?_⟩
          have := hcell j u hu
          rw [add_add, hc] at this
          exact this)
        refine ⟨xs, ⟨some a, cap, by rw [hxl], by omega, rfl, by omega, fun _ => ⟨a, rfl, fun j p hj => ?_⟩⟩, by omega, fun x hx => ?_⟩
        · obtain ⟨c, h1, h2, h3, h4⟩ := hxs j p hj
          exact ⟨c, h1, h2, h4⟩
        · obtain ⟨j, hj, rfl⟩ := List.mem_iff_getElem.mp hx
          obtain ⟨c, h1, h2, h3, h4⟩ := hxs j _ (List.getElem?_eq_getElem hj)
          exact h3
      · cases hd⟩
/-- The fields from an offset on. -/
structure OpensAt {α : Type} (P : Program) (W : World) (fs : List Field) (off : Nat) (d : Kd α) (ok : α → Prop) : Prop where
  get : ∀ {H : Type} (enc : TypeId × Value → H) (base : Nat) (spare : Nat → Bool) (held : Bool) (fuel : Nat) (cs : List Value) (ys : List (DataW H × List MemPlace)), cs.length = off + d.sz →
    (fs.mapM fun f => DataW.trod enc P W base spare held fuel f.type ((cs.drop f.offset).take (P.cellsOf f.type))) = some ys → ∃ x, d.K W x (cs.drop off) ∧ ok x
theorem OpensAt.one {α : Type} {P : Program} {W : World} {f : Field} {off : Nat} {d : Kd α} {ok : α → Prop} (ho : f.offset = off) (hc : P.cellsOf f.type = d.sz) (h : Opens P W f.type d ok) : OpensAt P W [f] off d ok := ⟨by
  intro H enc base spare held fuel cs ys hl hm
  obtain ⟨y, _, hy, _, _⟩ := mapM_cons_some hm
  rw [ho, hc, List.take_of_length_le (by rw [List.length_drop]; omega)] at hy
  exact h.get enc base spare held fuel _ y hy⟩
theorem OpensAt.cons {α β : Type} {P : Program} {W : World} {f : Field} {fs : List Field} {off : Nat} {d : Kd α} {d2 : Kd β} {ok : α → Prop} {ok2 : β → Prop} (ho : f.offset = off) (hc : P.cellsOf f.type = d.sz) (h : Opens P W f.type d ok) (h2 : OpensAt P W fs (off + d.sz) d2 ok2) :
    OpensAt P W (f :: fs) off (Kd.pair d d2) (fun x => ok x.1 ∧ ok2 x.2) := ⟨by
  intro H enc base spare held fuel cs ys hl hm
  have hl2 : cs.length = off + (d.sz + d2.sz) := hl
  obtain ⟨y, ys', hy, hys, _⟩ := mapM_cons_some hm
  rw [ho, hc] at hy
  obtain ⟨x, hK, hok⟩ := h.get enc base spare held fuel _ y hy
  obtain ⟨x2, hK2, hok2⟩ := h2.get enc base spare held fuel cs ys' (by omega) hys
  refine ⟨(x, x2), ⟨(cs.drop off).take d.sz, cs.drop (off + d.sz), ?_, hK, hK2⟩, hok, hok2⟩
  rw [← List.drop_drop, List.take_append_drop]⟩
theorem Opens.struct {α : Type} {P : Program} {W : World} {t : TypeId} {fs : Array Field} {d : Kd α} {ok : α → Prop} (hu : P.underlying t = some (.struct fs)) (hc : P.cellsOf t = d.sz) (h : OpensAt P W fs.toList 0 d ok) : Opens P W t d ok := ⟨by
  intro H enc base spare held fuel cs y hd
  cases fuel with
  | zero => simp [DataW.trod] at hd
  | succ fuel =>
    simp only [DataW.trod, hu] at hd
    split at hd
    · rename_i hl
      obtain ⟨ys, hys, _⟩ := Option.map_eq_some_iff.mp hd
      exact h.get enc base spare held fuel cs ys (by omega) hys
    · cases hd⟩
theorem Opens.iso {α β : Type} {P : Program} {W : World} {t : TypeId} {d : Kd α} {f : β → α} {ok : α → Prop} (h : Opens P W t d ok) (g : α → β) (hg : ∀ x, f (g x) = x) : Opens P W t (Kd.iso d f) (fun y => ok (f y)) := ⟨by
  intro H enc base spare held fuel cs y hd
  obtain ⟨x, hK, hok⟩ := h.get enc base spare held fuel cs y hd
  refine ⟨g x, ?_, ?_⟩
  · show d.K W (f (g x)) cs
    rw [hg]; exact hK
  · rw [hg]; exact hok⟩
theorem wf_i64 {x : Int} (h : (Lit.int .i64 x).wf = true) : -9223372036854775808 ≤ x ∧ x ≤ 9223372036854775807 := by
  have h1 := h
  simp [Lit.wf] at h1
  exact ⟨h1.1, h1.2⟩
end Go.Proofs.Open

-- XOpens
namespace Go.Proofs.Ytgohfbelppokcaa.X
open Ho (bS eS)
open Go.RowKit Go.Proofs.YtgohfbelppokcaaW.PrintWords Go.Proofs.YtgohfbelppokcaaW.PrintLast Go.Proofs.YtgohfbelppokcaaW.PrintMore
attribute [local go_sem] max2_int min2_int max_two min_two max_three min_three max_four min_four   -- for this text's walks alone
set_option linter.unusedVariables false
set_option linter.unusedSimpArgs false

end Go.Proofs.Ytgohfbelppokcaa.X
