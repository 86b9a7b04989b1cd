/- What laws of this seat need, part 5: what each function of the program that it reaches returns (printed by this session's own program, checked by Lean), and plain mathematics about it. Conditions: those of each theorem. -/
import Derived.Test.YtfibaganajembaaZUD
import Derived.Test.YtfibaganajembaaYU
-- Qbase
namespace Go.Proofs.Ytfibaganajembaa.Pure
open Go Go.RowKit Go.Proofs Go.Proofs.YtfibaganajembaaW.PrintWords Go.Proofs.YtfibaganajembaaW.PrintLast
set_option linter.unusedVariables false
set_option linter.unusedSimpArgs false

theorem w64 {x : Int} (h1 : -9223372036854775808 ≤ x) (h2 : x ≤ 9223372036854775807) : wrap64 x = x := by unfold wrap64; omega
theorem w64b {x : Int} (h : -9223372036854775808 ≤ x ∧ x ≤ 9223372036854775807) : wrap64 x = x := w64 h.1 h.2
theorem ite_sf (a b : Bool) : (if a = true then some b else some false) = some (a && b) := by cases a <;> rfl
theorem ite_sf2 (a b : Bool) : (if a = true then some false else some b) = some (!a && b) := by cases a <;> rfl
theorem wf_bd {x : Int} (h : (Lit.int .i64 x).wf = true) : -9223372036854775808 ≤ x ∧ x ≤ 9223372036854775807 := by
  have h1 := h
  simp [Lit.wf] at h1
  exact ⟨h1.1, h1.2⟩
/-- a product of two numbers within bounds -/
theorem mul_bd {a b A B : Int} (ha : 0 ≤ a) (hA : a ≤ A) (hb : 0 ≤ b) (hB : b ≤ B) : 0 ≤ a * b ∧ a * b ≤ A * B :=
  ⟨Int.mul_nonneg ha hb, Int.mul_le_mul hA hB hb (Int.le_trans ha hA)⟩
theorem drop_step {α : Type} {l : List α} {i : Nat} (h : i < l.length) (d : α) : l.drop i = l.getD i d :: l.drop (i + 1) := by
  rw [List.drop_eq_getElem_cons h]; congr 1; simp [List.getD_eq_getElem?_getD, List.getElem?_eq_getElem h]
theorem wstep {i : Nat} {n : Nat} (h : i < n) (hn : n ≤ 9223372036854775807) : wrap64 ((i : Int) + 1) = ((i + 1 : Nat) : Int) := by unfold wrap64; omega
theorem nat_of {i : Int} (h : 0 ≤ i) : ∃ n : Nat, i = n := ⟨i.toNat, by omega⟩
theorem succ_of {k d : Nat} (h : d < k) : ∃ m, k = m + 1 ∧ d ≤ m := ⟨k - 1, by omega, by omega⟩

end Go.Proofs.Ytfibaganajembaa.Pure

-- Qloops
namespace Go.Proofs.Ytfibaganajembaa.Pure
open Go Go.RowKit Go.Proofs Go.Proofs.YtfibaganajembaaW.PrintWords Go.Proofs.YtfibaganajembaaW.PrintLast
set_option linter.unusedVariables false
set_option linter.unusedSimpArgs false

/-- A loop that copies element by element into a new row. -/
theorem copy_loop {α β : Type} (L : Nat → List α → List β → Int → Option (List β)) (f : α → β) (d : α) (l : List α) (hb : l.length ≤ 9223372036854775806)
    (hs : ∀ k x3 (i : Nat), i < l.length → x3.length = l.length → L (k + 1) l x3 i = L k l (x3.set i (f (l.getD i d))) (wrap64 ((i : Int) + 1)))
    (he : ∀ k x3 (i : Nat), l.length ≤ i → L (k + 1) l x3 i = some x3) :
    ∀ n k (i : Nat) (x3 : List β), i + n = l.length → n < k → x3.length = l.length → x3.take i = (l.take i).map f → L k l x3 i = some (l.map f) := by
  intro n
  induction n with
  | zero =>
    intro k i x3 hi hk hl ht
    obtain ⟨k, rfl, _⟩ := succ_of hk
    rw [he k x3 i (by omega)]
    rw [List.take_of_length_le (by omega), List.take_of_length_le (by omega)] at ht
    rw [ht]
  | succ n ih =>
    intro k i x3 hi hk hl ht
    obtain ⟨k, rfl, hk⟩ := succ_of hk
    rw [hs k x3 i (by omega) hl, wstep (show i < l.length by omega) (by omega)]
    refine ih k (i + 1) _ (by omega) (by omega) (by rw [List.length_set]; exact hl) ?_
    rw [List.take_succ_eq_append_getElem (by rw [List.length_set]; omega), List.take_succ_eq_append_getElem (by omega), List.map_append, ← ht]
    congr 1
    · rw [List.take_set_of_le (Nat.le_refl _)]
    · simp [List.getD_eq_getElem?_getD, List.getElem?_eq_getElem (show i < l.length by omega)]
/-- A loop that compares a row with itself. -/
theorem refl_loop {α : Type} (L : Nat → List α → List α → Int → Option Bool) (l : List α) (hb : l.length ≤ 9223372036854775806)
    (hs : ∀ k (i : Nat), i < l.length → L (k + 1) l l i = L k l l (wrap64 ((i : Int) + 1))) (he : ∀ k (i : Nat), l.length ≤ i → L (k + 1) l l i = some true) :
    ∀ n k (i : Nat), i + n = l.length → n < k → L k l l i = some true := by
  intro n
  induction n with
  | zero =>
    intro k i hi hk
    obtain ⟨k, rfl, _⟩ := succ_of hk
    exact he k i (by omega)
  | succ n ih =>
    intro k i hi hk
    obtain ⟨k, rfl, hk⟩ := succ_of hk
    rw [hs k i (by omega), wstep (show i < l.length by omega) (by omega)]
    exact ih k (i + 1) (by omega) (by omega)
/-- A loop that asks of all elements, from i on. -/
theorem all_loop {α : Type} (L : Nat → Int → Option Bool) (q : α → Bool) (d : α) (l : List α) (e : Bool) (hb : l.length ≤ 9223372036854775806)
    (hs : ∀ k (i : Nat), i < l.length → L (k + 1) i = if q (l.getD i d) = true then L k (wrap64 ((i : Int) + 1)) else some false) (he : ∀ k (i : Nat), l.length ≤ i → L (k + 1) i = some e) :
    ∀ n k (i : Nat), i + n = l.length → n < k → L k i = some ((l.drop i).all q && e) := by
  intro n
  induction n with
  | zero =>
    intro k i hi hk
    obtain ⟨k, rfl, _⟩ := succ_of hk
    rw [he k i (by omega), List.drop_eq_nil_of_le (by omega)]; rfl
  | succ n ih =>
    intro k i hi hk
    obtain ⟨k, rfl, hk⟩ := succ_of hk
    rw [hs k i (by omega), wstep (show i < l.length by omega) (by omega), drop_step (by omega) d, List.all_cons, ih k (i + 1) (by omega) (by omega)]
    cases q (l.getD i d) <;> simp
/-- What marks leave: each element tells its own number. -/
def markM {α : Type} (g : Int → α) (c : Int) (n : Nat) (s : Int) : List α := (List.range n).map fun (j : Nat) => g (s + c * (j : Int))
theorem markM_length {α : Type} (g : Int → α) (c : Int) (n : Nat) (s : Int) : (markM g c n s).length = n := by simp [markM]
theorem markM_getD {α : Type} (g : Int → α) (c : Int) (n : Nat) (s : Int) (d : α) {i : Nat} (h : i < n) : (markM g c n s).getD i d = g (s + c * i) := by
  simp [markM, List.getD_eq_getElem?_getD, List.getElem?_map, List.getElem?_range h]
/-- A loop that marks. -/
theorem mark_loop {α : Type} (L : Nat → List α → Int → Int → Option (Int × List α)) (g : Int → α) (c : Int) (n0 : Nat) (s : Int) (hb : n0 ≤ 9223372036854775806) 
    (hs : ∀ k x (i : Nat), i < n0 → x.length = n0 → L (k + 1) x (s + c * i) i = L k (x.set i (g (s + c * i))) (s + c * ((i + 1 : Nat) : Int)) (wrap64 ((i : Int) + 1)))
    (he : ∀ k x m (i : Nat), n0 ≤ i → x.length = n0 → L (k + 1) x m i = some (m, x)) :
    ∀ n k (i : Nat) (x : List α), i + n = n0 → n < k → x.length = n0 → x.take i = (markM g c n0 s).take i → L k x (s + c * i) i = some (s + c * n0, markM g c n0 s) := by
  intro n
  induction n with
  | zero =>
    intro k i x hi hk hl ht
    obtain ⟨k, rfl, _⟩ := succ_of hk
    rw [he k x _ i (by omega) hl]
    rw [List.take_of_length_le (by omega), List.take_of_length_le (by rw [markM_length]; omega)] at ht
    rw [ht]; simp [show i = n0 by omega]
  | succ n ih =>
    intro k i x hi hk hl ht
    obtain ⟨k, rfl, hk⟩ := succ_of hk
    rw [hs k x i (by omega) hl, wstep (show i < n0 by omega) (by omega)]
    refine ih k (i + 1) _ (by omega) (by omega) (by rw [List.length_set]; exact hl) ?_
    rw [List.take_succ_eq_append_getElem (by rw [List.length_set]; omega), List.take_succ_eq_append_getElem (by rw [markM_length]; omega), ← ht]
    congr 1
    · rw [List.take_set_of_le (Nat.le_refl _)]
    · simp [markM]
/-- A loop that asks for the marks. -/
theorem held_loop {α : Type} (L : Nat → List α → Int → Int → Option Int) (g : Int → α) (c : Int) (n0 : Nat) (s : Int) (hb : n0 ≤ 9223372036854775806)
    (hs : ∀ k (i : Nat), i < n0 → L (k + 1) (markM g c n0 s) (s + c * i) i = L k (markM g c n0 s) (s + c * ((i + 1 : Nat) : Int)) (wrap64 ((i : Int) + 1)))
    (he : ∀ k m (i : Nat), n0 ≤ i → L (k + 1) (markM g c n0 s) m i = some m) :
    ∀ n k (i : Nat), i + n = n0 → n < k → L k (markM g c n0 s) (s + c * i) i = some (s + c * n0) := by
  intro n
  induction n with
  | zero =>
    intro k i hi hk
    obtain ⟨k, rfl, _⟩ := succ_of hk
    rw [he k _ i (by omega), show i = n0 by omega]
  | succ n ih =>
    intro k i hi hk
    obtain ⟨k, rfl, hk⟩ := succ_of hk
    rw [hs k i (by omega), wstep (show i < n0 by omega) (by omega)]
    exact ih k (i + 1) (by omega) (by omega)
theorem rd_nat (l : List Int) (i : Nat) : rd l (i : Int) = l.getD i 0 := by simp [rd]

end Go.Proofs.Ytfibaganajembaa.Pure

-- QlistDeviation
namespace Go.Proofs.Ytfibaganajembaa.Pure
open Go Go.RowKit Go.Proofs Go.Proofs.Ytfibaganajembaa.X Go.Proofs.YtfibaganajembaaW.PrintWords Go.Proofs.YtfibaganajembaaW.PrintLast
set_option linter.unusedVariables false
set_option linter.unusedSimpArgs false

def toDeviation (x : S106) : S89 := ⟨x.f0, x.f1⟩
theorem rdVDeviation_nat (l : List S106) (i : Nat) : rd_T106 l (i : Int) = l.getD i z106 := by simp [rd_T106]
theorem rdIDeviation_nat (l : List S89) (i : Nat) : rd_T89 l (i : Int) = l.getD i z89 := by simp [rd_T89]
theorem szDeviationS_eq {l : List S106} {a : Int} (hl : l.length ≤ 9223372036854775807) (ha : 0 ≤ a ∧ a ≤ 9223372036854775807) : laws_szDeviationS.f l a = some (if a < l.length then -1 else a - l.length) := by
  unfold laws_szDeviationS.f
  rw [w64 (by omega) (by omega)]
  by_cases h : a < l.length
  · rw [if_pos (by omega), if_pos h]
  · rw [if_neg (by omega), if_neg h]
theorem toDeviationS_eq {k : Nat} {l : List S106} (hk : l.length < k) (hl : l.length ≤ 1048576) : laws_toDeviationS.f k l = some (l.map toDeviation) := by
  unfold laws_toDeviationS.f
  rw [if_pos (by omega), if_pos (by simp; omega)]
  exact copy_loop laws_toDeviationS.l0 toDeviation z106 l (by omega)
    (fun k x3 i h1 h2 => by
      simp only [laws_toDeviationS.l0, laws_toDeviation.f, Option.bind_some]
      rw [if_pos (by omega), if_pos (by omega), if_pos (by omega), rdVDeviation_nat]
      simp [toDeviation])
    (fun k x3 i h1 => by simp only [laws_toDeviationS.l0]; rw [if_neg (by omega)])
    l.length k 0 _ (by omega) hk (by simp) (by simp)
theorem eqDeviation_refl (a0 a1 : Int) : laws_eqDeviation.f a0 a1 a0 a1 = some true := by simp [laws_eqDeviation.f]
theorem eqDeviationS_refl {k : Nat} {l : List S89} (hk : l.length < k) (hl : l.length ≤ 9223372036854775806) : laws_eqDeviationS.f k l l = some true := by
  unfold laws_eqDeviationS.f
  rw [if_pos rfl]
  exact refl_loop laws_eqDeviationS.l0 l hl
    (fun k i h => by simp only [laws_eqDeviationS.l0, eqDeviation_refl, Option.bind_some]; rw [if_pos (by omega), if_pos (by omega), if_pos (by omega)]; simp)
    (fun k i h => by simp only [laws_eqDeviationS.l0]; rw [if_neg (by omega)])
    l.length k 0 (by omega) hk

end Go.Proofs.Ytfibaganajembaa.Pure

-- QeqInts
namespace Go.Proofs.Ytfibaganajembaa.Pure
open Go Go.RowKit Go.Proofs Go.Proofs.Ytfibaganajembaa.X Go.Proofs.YtfibaganajembaaW.PrintWords Go.Proofs.YtfibaganajembaaW.PrintLast
set_option linter.unusedVariables false
set_option linter.unusedSimpArgs false

theorem eqIntS_refl {k : Nat} {l : List Int} (hk : l.length < k) (hl : l.length ≤ 9223372036854775806) : laws_eqIntS.f k l l = some true := by
  unfold laws_eqIntS.f
  rw [if_pos rfl]
  exact refl_loop laws_eqIntS.l0 l hl
    (fun k i h => by simp only [laws_eqIntS.l0]; rw [if_pos (by omega), if_pos (by omega), if_pos (by omega)]; simp)
    (fun k i h => by simp only [laws_eqIntS.l0]; rw [if_neg (by omega)])
    l.length k 0 (by omega) hk

end Go.Proofs.Ytfibaganajembaa.Pure

-- Qinrange
namespace Go.Proofs.Ytfibaganajembaa.Pure
open Go Go.RowKit Go.Proofs Go.Proofs.Ytfibaganajembaa.X Go.Proofs.YtfibaganajembaaW.PrintWords Go.Proofs.YtfibaganajembaaW.PrintLast
set_option linter.unusedVariables false
set_option linter.unusedSimpArgs false

theorem in_eq (x a b : Int) : impl_in.f x a b = some (decide (a ≤ x ∧ x ≤ b)) := by
  unfold impl_in.f
  by_cases h1 : a ≤ x <;> simp [h1]

end Go.Proofs.Ytfibaganajembaa.Pure

-- Qspecin
namespace Go.Proofs.Ytfibaganajembaa.Pure
open Go Go.RowKit Go.Proofs Go.Proofs.Ytfibaganajembaa.X Go.Proofs.YtfibaganajembaaW.PrintWords Go.Proofs.YtfibaganajembaaW.PrintLast
set_option linter.unusedVariables false
set_option linter.unusedSimpArgs false

theorem l1In_eq (x a b : Int) : spec_l1In.f x a b = some (decide (a ≤ x ∧ x ≤ b)) := by
  unfold spec_l1In.f
  by_cases h1 : a ≤ x <;> simp [h1]

end Go.Proofs.Ytfibaganajembaa.Pure

-- QtoInts
namespace Go.Proofs.Ytfibaganajembaa.Pure
open Go Go.RowKit Go.Proofs Go.Proofs.Ytfibaganajembaa.X Go.Proofs.YtfibaganajembaaW.PrintWords Go.Proofs.YtfibaganajembaaW.PrintLast
set_option linter.unusedVariables false
set_option linter.unusedSimpArgs false

theorem toIntS_eq {k : Nat} {l : List Int} (hk : l.length < k) (hl : l.length ≤ 1048576) : laws_toIntS.f k l = some l := by
  unfold laws_toIntS.f
  rw [if_pos (by omega), if_pos (by simp; omega)]
  have h := copy_loop laws_toIntS.l0 (fun x => x) 0 l (by omega)
    (fun k x3 i h1 h2 => by
      simp only [laws_toIntS.l0]
      rw [if_pos (by omega), if_pos (by omega), if_pos (by omega), rd_nat]; simp)
    (fun k x3 i h1 => by simp only [laws_toIntS.l0]; rw [if_neg (by omega)])
    l.length k 0 (List.replicate l.length 0) (by omega) hk (by simp) (by simp)
  simpa using h

end Go.Proofs.Ytfibaganajembaa.Pure

-- Qchart
namespace Go.Proofs.Ytfibaganajembaa.Pure
open Go Go.RowKit Go.Proofs Go.Proofs.Ytfibaganajembaa.X Go.Proofs.YtfibaganajembaaW.PrintWords Go.Proofs.YtfibaganajembaaW.PrintLast
set_option linter.unusedVariables false
set_option linter.unusedSimpArgs false

def colorB (x : Int) : Bool := decide (0 ≤ x ∧ x ≤ 5)
def sideB (x : Int) : Bool := decide (1 ≤ x ∧ x ≤ 8)
def chartB (w h : Int) (l : List Int) : Bool := sideB w && (sideB h && (decide ((l.length : Int) = w * h) && l.all colorB))
theorem side_of {x : Int} (h : sideB x = true) : 1 ≤ x ∧ x ≤ 8 := by simpa [sideB] using h
theorem side_w {w h : Int} (hw : sideB w = true) (hh : sideB h = true) : 0 ≤ w * h ∧ w * h ≤ 64 := by
  have := side_of hw; have := side_of hh
  exact mul_bd (A := 8) (B := 8) (by omega) (by omega) (by omega) (by omega)
theorem chart_of {w h : Int} {l : List Int} (hc : chartB w h l = true) : (1 ≤ w ∧ w ≤ 8) ∧ (1 ≤ h ∧ h ≤ 8) ∧ (l.length : Int) = w * h ∧ l.length ≤ 64 ∧ ∀ x ∈ l, 0 ≤ x ∧ x ≤ 5 := by
  simp only [chartB, Bool.and_eq_true, decide_eq_true_eq, List.all_eq_true] at hc
  obtain ⟨h1, h2, h3, h4⟩ := hc
  have := side_w h1 h2
  exact ⟨side_of h1, side_of h2, h3, by omega, fun x hx => by simpa [colorB] using h4 x hx⟩
theorem szIntS_eq {l : List Int} {a : Int} (hl : l.length ≤ 9223372036854775807) (ha : 0 ≤ a ∧ a ≤ 9223372036854775807) : laws_szIntS.f l a = some (if a < l.length then -1 else a - l.length) := by
  unfold laws_szIntS.f
  rw [w64 (by omega) (by omega)]
  by_cases h : a < l.length
  · rw [if_pos (by omega), if_pos h]
  · rw [if_neg (by omega), if_neg h]
theorem szChart_eq {w h a : Int} {l : List Int} (hl : l.length ≤ 9223372036854775807) (ha : 0 ≤ a ∧ a ≤ 9223372036854775807) : laws_szChart.f w h l a = some (if a < l.length then -1 else a - l.length) := by
  unfold laws_szChart.f
  rw [szIntS_eq hl ha]
  by_cases h : a < l.length
  · simp [h]
  · simp only [if_neg h, Option.bind_some]; rw [if_neg (by omega)]
theorem toChart_eq {k : Nat} {w h : Int} {l : List Int} (hk : l.length < k) (hl : l.length ≤ 1048576) : laws_toChart.f k w h l = some (w, h, l) := by
  simp only [laws_toChart.f, toIntS_eq hk hl, Option.bind_some]
theorem eqChart_refl {k : Nat} {w h : Int} {l : List Int} (hk : l.length < k) (hl : l.length ≤ 1048576) : laws_eqChart.f k w h l w h l = some true := by
  simp only [laws_eqChart.f, eqIntS_refl hk (by omega), Option.bind_some, if_true]
theorem isColor_eq (x : Int) : impl_isColor.f x = some (colorB x) := by simp only [impl_isColor.f, in_eq, Option.bind_some, colorB]
theorem isSide_eq (x : Int) : impl_isSide.f x = some (sideB x) := by simp only [impl_isSide.f, in_eq, Option.bind_some, sideB]
theorem l2Color_eq (x : Int) : spec_l2Color.f x = some (colorB x) := by simp only [spec_l2Color.f, l1In_eq, Option.bind_some, colorB]
theorem l2Side_eq (x : Int) : spec_l2Side.f x = some (sideB x) := by simp only [spec_l2Side.f, l1In_eq, Option.bind_some, sideB]
theorem IsChart_eq (w h : Int) (l : List Int) : impl_IsChart.f w h l = some (chartB w h l) := by
  simp only [impl_IsChart.f, isSide_eq, impl_areAll_int__impl_isColor.f, Ho.allO_eq (q := colorB) (fun x _ => isColor_eq x), Option.bind_some, chartB]
  cases hw : sideB w
  · simp
  · cases hh : sideB h
    · simp
    · have := side_w hw hh
      rw [w64 (by omega) (by omega)]
      by_cases he : (l.length : Int) = w * h <;> simp [he]
theorem l2Good_eq {k : Nat} {w h : Int} {l : List Int} (hk : l.length < k) (hl : l.length ≤ 1048576) : spec_l2Good.f k w h l = some (chartB w h l) := by
  unfold spec_l2Good.f
  have hx := all_loop (fun k i => spec_l2Good.l0 k i w h l) colorB 0 l (sideB w && (sideB h && decide ((l.length : Int) = w * h))) (by omega)
    (fun k i h1 => by
      simp only [spec_l2Good.l0]
      rw [if_pos (by omega), if_pos (by omega), rd_nat, l2Color_eq]
      simp only [Option.bind_some])
    (fun k i h1 => by
      simp only [spec_l2Good.l0]
      rw [if_neg (by omega)]
      simp only [l2Side_eq, Option.bind_some]
      cases hw : sideB w
      · simp
      · cases hh : sideB h
        · simp
        · have := side_w hw hh
          rw [w64 (by omega) (by omega)]
          simp [BEq.beq, instBEqOfDecidableEq])
    l.length k 0 (by omega) hk
  refine hx.trans ?_
  simp only [List.drop_zero, chartB]
  cases sideB w <;> cases sideB h <;> cases l.all colorB <;> simp

end Go.Proofs.Ytfibaganajembaa.Pure

-- Qidxall
namespace Go.Proofs.Ytfibaganajembaa.Pure
open Go Go.RowKit Go.Proofs Go.Proofs.YtfibaganajembaaW.PrintWords Go.Proofs.YtfibaganajembaaW.PrintLast
set_option linter.unusedVariables false
set_option linter.unusedSimpArgs false

/-- q at all numbers from i on, n of them -/
def allR (q : Nat → Bool) (i n : Nat) : Bool := (List.range' i n).all q
theorem allR_iff {q : Nat → Bool} {i n : Nat} : allR q i n = true ↔ ∀ j, i ≤ j → j < i + n → q j = true := by
  unfold allR
  rw [List.all_eq_true]
  exact ⟨fun h j h1 h2 => h j (List.mem_range'_1.mpr ⟨h1, h2⟩), fun h j hj => h j (List.mem_range'_1.mp hj).1 (List.mem_range'_1.mp hj).2⟩
theorem allR_succ (q : Nat → Bool) (i n : Nat) : allR q i (n + 1) = (q i && allR q (i + 1) n) := by
  unfold allR; rw [List.range'_succ, List.all_cons]
/-- A loop that asks of all numbers, from i on. -/
theorem idx_loop (L : Nat → Int → Option Bool) (q : Nat → Bool) (i0 n0 : Nat) (e : Bool) (hb : n0 ≤ 9223372036854775806)
    (hs : ∀ k (i : Nat), i0 ≤ i → i < n0 → L (k + 1) i = if q i = true then L k (wrap64 ((i : Int) + 1)) else some false) (he : ∀ k (i : Nat), n0 ≤ i → L (k + 1) i = some e) :
    ∀ n k (i : Nat), i0 ≤ i → i + n = n0 → n < k → L k i = some (allR q i n && e) := by
  intro n
  induction n with
  | zero =>
    intro k i h0 hi hk
    obtain ⟨k, rfl, _⟩ := succ_of hk
    rw [he k i (by omega)]; simp [allR]
  | succ n ih =>
    intro k i h0 hi hk
    obtain ⟨k, rfl, hk⟩ := succ_of hk
    rw [hs k i h0 (by omega), wstep (show i < n0 by omega) (by omega), allR_succ, ih k (i + 1) (by omega) (by omega) (by omega)]
    cases q i <;> simp
theorem all_getD {α : Type} {p : α → Bool} {l : List α} (d : α) : l.all p = true ↔ ∀ j, j < l.length → p (l.getD j d) = true := by
  rw [List.all_eq_true]
  constructor
  · intro h j hj
    rw [List.getD_eq_getElem?_getD, List.getElem?_eq_getElem hj]
    exact h _ (List.getElem_mem hj)
  · intro h x hx
    obtain ⟨j, hj, rfl⟩ := List.mem_iff_getElem.mp hx
    have := h j hj
    rwa [List.getD_eq_getElem?_getD, List.getElem?_eq_getElem hj] at this
/-- A loop that adds up. -/
theorem sum_loop {α β : Type} (L : Nat → Int → Int → Option β) (v : α → Int) (r : Int → Option β) (d : α) (B : Int) (l : List α) (hb : l.length ≤ 9223372036854775806) (hv : ∀ x ∈ l, 0 ≤ v x ∧ v x ≤ B)
    (hs : ∀ k (acc : Int) (i : Nat), i < l.length → 0 ≤ acc → acc ≤ B * i → L (k + 1) acc i = L k (acc + v (l.getD i d)) (wrap64 ((i : Int) + 1)))
    (he : ∀ k (acc : Int) (i : Nat), l.length ≤ i → L (k + 1) acc i = r acc) :
    ∀ n k (acc : Int) (i : Nat), i + n = l.length → n < k → 0 ≤ acc → acc ≤ B * i → L k acc i = r (acc + ((l.drop i).map v).sum) := by
  intro n
  induction n with
  | zero =>
    intro k acc i hi hk h0 h1
    obtain ⟨k, rfl, _⟩ := succ_of hk
    rw [he k acc i (by omega), List.drop_eq_nil_of_le (by omega)]; simp
  | succ n ih =>
    intro k acc i hi hk h0 h1
    obtain ⟨k, rfl, hk⟩ := succ_of hk
    have hlt : i < l.length := by omega
    have hm : l.getD i d ∈ l := by rw [List.getD_eq_getElem?_getD, List.getElem?_eq_getElem hlt]; exact List.getElem_mem hlt
    have := hv _ hm
    rw [hs k acc i hlt h0 h1, wstep hlt (by omega), drop_step hlt d, List.map_cons, List.sum_cons]
    have hB : B * ((i + 1 : Nat) : Int) = B * i + B := by push_cast; rw [Int.mul_add, Int.mul_one]
    rw [ih k _ (i + 1) (by omega) (by omega) (by omega) (by omega), Int.add_assoc]
/-- The same, where the end leans on all that was asked, and needs fuel of its own. -/
theorem idx_loop2 (L : Nat → Int → Option Bool) (q : Nat → Bool) (i0 n0 m0 : Nat) (e : Bool) (hb : n0 ≤ 9223372036854775806)
    (hs : ∀ k (i : Nat), i0 ≤ i → i < n0 → m0 ≤ k → L (k + 1) i = if q i = true then L k (wrap64 ((i : Int) + 1)) else some false) (he : (∀ j, i0 ≤ j → j < n0 → q j = true) → ∀ k, m0 ≤ k → L (k + 1) (n0 : Int) = some e) :
    ∀ n k (i : Nat), i0 ≤ i → i + n = n0 → n + m0 < k → (∀ j, i0 ≤ j → j < i → q j = true) → L k i = some (allR q i n && e) := by
  intro n
  induction n with
  | zero =>
    intro k i h0 hi hk hq
    obtain ⟨k, rfl, _⟩ := succ_of (show 0 < k by omega)
    obtain rfl : i = n0 := by omega
    rw [he hq k (by omega)]; simp [allR]
  | succ n ih =>
    intro k i h0 hi hk hq
    obtain ⟨k, rfl, hk'⟩ := succ_of (show 0 < k by omega)
    rw [hs k i h0 (by omega) (by omega), wstep (show i < n0 by omega) (by omega), allR_succ]
    cases hc : q i
    · simp
    · rw [if_pos rfl, ih k (i + 1) (by omega) (by omega) (by omega) (fun j h1 h2 => by
        by_cases hj : j = i
        · rw [hj]; exact hc
        · exact hq j h1 (by omega)), Bool.true_and]

end Go.Proofs.Ytfibaganajembaa.Pure

-- Qpicks
namespace Go.Proofs.Ytfibaganajembaa.Pure
open Go Go.RowKit Go.Proofs Go.Proofs.YtfibaganajembaaW.PrintWords Go.Proofs.YtfibaganajembaaW.PrintLast
set_option linter.unusedVariables false
set_option linter.unusedSimpArgs false

/-- A loop that collects the numbers of which q holds. -/
theorem pick_loop {β : Type} (L : Nat → List Int → Int → Option β) (q : Nat → Bool) (r : List Int → Option β) (n0 m0 : Nat) (hb : n0 ≤ 9223372036854775806)
    (hs : ∀ k out (i : Nat), i < n0 → out.length ≤ i → m0 ≤ k → L (k + 1) out i = if q i = true then L k (out ++ [(i : Int)]) (wrap64 ((i : Int) + 1)) else L k out (wrap64 ((i : Int) + 1))) (he : ∀ k out, L (k + 1) out (n0 : Int) = r out) :
    ∀ n k (i : Nat) (out : List Int), i + n = n0 → n + m0 < k → out.length ≤ i → L k out i = r (out ++ ((List.range' i n).filter q).map fun (j : Nat) => (j : Int)) := by
  intro n
  induction n with
  | zero =>
    intro k i out hi hk ho
    obtain ⟨k, rfl, _⟩ := succ_of (show 0 < k by omega)
    obtain rfl : i = n0 := by omega
    rw [he]; simp
  | succ n ih =>
    intro k i out hi hk ho
    obtain ⟨k, rfl, hk'⟩ := succ_of (show 0 < k by omega)
    rw [hs k out i (by omega) ho (by omega), wstep (show i < n0 by omega) (by omega), List.range'_succ]
    cases hq : q i
    · simp only [Bool.false_eq_true, if_false]
      rw [ih k (i + 1) out (by omega) (by omega) (by omega), List.filter_cons_of_neg (by simp [hq])]
    · simp only [if_true]
      rw [ih k (i + 1) _ (by omega) (by omega) (by rw [List.length_append, List.length_singleton]; omega), List.filter_cons_of_pos hq, List.map_cons, List.append_assoc]; rfl
/-- A loop that looks for an element. -/
theorem any_loop {α : Type} (L : Nat → Int → Option Bool) (q : α → Bool) (d : α) (l : List α) (hb : l.length ≤ 9223372036854775806)
    (hs : ∀ k (i : Nat), i < l.length → L (k + 1) i = if q (l.getD i d) = true then some true else L k (wrap64 ((i : Int) + 1))) (he : ∀ k (i : Nat), l.length ≤ i → L (k + 1) i = some false) :
    ∀ n k (i : Nat), i + n = l.length → n < k → L k i = some ((l.drop i).any q) := by
  intro n
  induction n with
  | zero =>
    intro k i hi hk
    obtain ⟨k, rfl, _⟩ := succ_of hk
    rw [he k i (by omega), List.drop_eq_nil_of_le (by omega)]; rfl
  | succ n ih =>
    intro k i hi hk
    obtain ⟨k, rfl, hk⟩ := succ_of hk
    rw [hs k i (by omega), wstep (show i < l.length by omega) (by omega), drop_step (by omega) d, List.any_cons, ih k (i + 1) (by omega) (by omega)]
    cases q (l.getD i d) <;> simp

end Go.Proofs.Ytfibaganajembaa.Pure

-- Qweaving
namespace Go.Proofs.Ytfibaganajembaa.Pure
open Go Go.RowKit Go.Proofs Go.Proofs.Ytfibaganajembaa.X Go.Proofs.YtfibaganajembaaW.PrintWords Go.Proofs.YtfibaganajembaaW.PrintLast
set_option linter.unusedVariables false
set_option linter.unusedSimpArgs false

def agreedB (ag : List S89) (i : Int) : Bool := ag.any fun d => d.f0 == i
def mistB (p kn : List Int) (ag : List S89) (i : Nat) : Bool := !(decide (rd kn i = rd p i)) && !agreedB ag i
def mistM (p kn : List Int) (ag : List S89) : List Int := ((List.range' 0 kn.length).filter (mistB p kn ag)).map fun (j : Nat) => (j : Int)
def devB (p kn : List Int) (d : S89) : Bool := decide (0 ≤ d.f0 ∧ d.f0 ≤ (kn.length : Int) - 1) && (decide (rd kn d.f0 = d.f1) && !decide (d.f1 = rd p d.f0))
def ascD (ag : List S89) (j : Nat) : Bool := decide ((ag.getD (j - 1) z89).f0 < (ag.getD j z89).f0)
def doneB (h : Int) (p kn : List Int) (wf : Int) (ag : List S89) (dn : Bool) : Bool := if dn then (if wf = h then ((mistM p kn ag).length : Int) == 0 else false) else true
def weavingB (w h : Int) (p kn : List Int) (wf : Int) (ag : List S89) (dn : Bool) : Bool :=
  chartB w h p && (decide (0 ≤ wf ∧ wf ≤ h) && (kn.all colorB && (decide (wf * w ≤ kn.length ∧ (kn.length : Int) ≤ wf * w + w ∧ kn.length ≤ p.length) && (decide (ag.length ≤ 10) && ((allR (ascD ag) 1 (ag.length - 1) && ag.all (devB p kn)) && doneB h p kn wf ag dn)))))
theorem agreedS_eq {k : Nat} {w h : Int} {p kn : List Int} {wf : Int} {ag : List S89} {dn : Bool} (i : Int) (hk : ag.length < k) (hb : ag.length ≤ 1048576) : spec_l19Agreed.f k w h p kn wf ag dn i = some (agreedB ag i) := by
  unfold spec_l19Agreed.f
  have hx := any_loop (fun k j => spec_l19Agreed.l0 k i j w h p kn wf ag dn) (fun d => d.f0 == i) z89 ag (by omega)
    (fun k j h1 => by
      simp only [spec_l19Agreed.l0, rdIDeviation_nat]
      rw [if_pos (by omega), if_pos (by omega)]
      by_cases g : (ag.getD j z89).f0 = i
      · rw [if_pos g, if_pos (by simpa using g)]
      · rw [if_neg g, if_neg (by simpa using g)])
    (fun k j h1 => by simp only [spec_l19Agreed.l0]; rw [if_neg (by omega)])
    ag.length k 0 (by omega) hk
  simpa [agreedB] using hx
theorem agreedI_eq {w h : Int} {p kn : List Int} {wf : Int} {ag : List S89} {dn : Bool} (i : Int) : impl_Weaving_isAgreed.f w h p kn wf ag dn i = some (agreedB ag i) := by
  simp only [impl_Weaving_isAgreed.f, impl_Deviation__impl_Weaving_isAgreed_1.f, impl_Weaving_isAgreed_1.f]
  rw [Ho.hasO_eq (p := fun (x_ : S89) => some (x_.f0 == i)) (q := fun d => d.f0 == i) (fun x _ => rfl)]
  rfl
theorem mistS_eq {k : Nat} {w h : Int} {p kn : List Int} {wf : Int} {ag : List S89} {dn : Bool} (hk : kn.length + ag.length + 1 < k) (hb : ag.length ≤ 1048576) (hn : kn.length ≤ 1048576) (hp : kn.length ≤ p.length) : spec_l19Mistakes.f k w h p kn wf ag dn = some (mistM p kn ag) := by
  unfold spec_l19Mistakes.f
  have hx := pick_loop (fun k out i => spec_l19Mistakes.l0 k out i w h p kn wf ag dn) (mistB p kn ag) (fun out => some out) kn.length (ag.length + 1) (by omega)
    (fun k out i h1 h2 h3 => by
      simp only [spec_l19Mistakes.l0]
      rw [if_pos (by omega), if_pos (by omega), if_pos (by omega)]
      unfold mistB
      by_cases g : rd kn i = rd p i
      · rw [if_pos g, decide_eq_true g]; simp
      · rw [if_neg g, decide_eq_false g, agreedS_eq _ (by omega) hb]
        simp only [Option.bind_some]
        cases agreedB ag i
        · simp only [Bool.false_eq_true, if_false, Bool.not_false, Bool.and_self, if_true]
          rw [if_pos (by omega)]
        · simp)
    (fun k out => by simp only [spec_l19Mistakes.l0]; rw [if_neg (by omega)])
    kn.length k 0 [] (by omega) (by omega) (by simp)
  simpa [mistM] using hx
theorem mistI_eq {k : Nat} {w h : Int} {p kn : List Int} {wf : Int} {ag : List S89} {dn : Bool} (hk : kn.length + 1 < k) (hn : kn.length ≤ 1048576) (hp : kn.length ≤ p.length) : impl_Weaving_mistakes.f k w h p kn wf ag dn = some (mistM p kn ag) := by
  unfold impl_Weaving_mistakes.f
  have hx := pick_loop (fun k out i => impl_Weaving_mistakes.l0 k out kn (kn.length : Int) i w h p kn wf ag dn) (mistB p kn ag) (fun out => some out) kn.length 0 (by omega)
    (fun k out i h1 h2 h3 => by
      simp only [impl_Weaving_mistakes.l0]
      rw [if_pos (by omega), if_pos (by omega), if_pos (by omega), if_pos (by omega)]
      unfold mistB
      by_cases g : rd kn i = rd p i
      · rw [if_pos g, decide_eq_true g]; simp
      · rw [if_neg g, decide_eq_false g, agreedI_eq]
        simp only [Option.bind_some]
        cases agreedB ag i
        · simp only [Bool.false_eq_true, if_false, Bool.not_false, Bool.and_self, if_true]
          rw [if_pos (by omega)]
        · simp)
    (fun k out => by simp only [impl_Weaving_mistakes.l0]; rw [if_neg (by omega)])
    kn.length k 0 [] (by omega) (by omega) (by simp)
  simpa [mistM] using hx
theorem colorsS_eq {k : Nat} {l : List Int} (hk : l.length < k) (hl : l.length ≤ 1048576) : spec_l8Colors.f k l = some (l.all colorB) := by
  unfold spec_l8Colors.f
  have hx := all_loop (fun k i => spec_l8Colors.l0 k l i) colorB 0 l true (by omega)
    (fun k i h1 => by
      simp only [spec_l8Colors.l0]
      rw [if_pos (by omega), if_pos (by omega), rd_nat, l2Color_eq]
      simp only [Option.bind_some])
    (fun k i h1 => by simp only [spec_l8Colors.l0]; rw [if_neg (by omega)])
    l.length k 0 (by omega) hk
  simpa using hx
theorem weavingS_eq {k : Nat} {w h : Int} {p kn : List Int} {wf : Int} {ag : List S89} {dn : Bool} (hk : p.length + kn.length + 2 * ag.length + 10 < k) (hp : p.length ≤ 1048576) (hn : kn.length ≤ 1048576) (ha : ag.length ≤ 1048576) : spec_l19Good.f k w h p kn wf ag dn = some (weavingB w h p kn wf ag dn) := by
  obtain ⟨k, rfl, hk⟩ := succ_of (show 0 < k by omega)
  have dead : spec_l19Good.j0 (k + 1) true w h p kn wf ag dn = some false := by rw [spec_l19Good.j0]; simp
  simp only [spec_l19Good.f, l2Good_eq (k := k + 1) (w := w) (h := h) (l := p) (by omega) hp, colorsS_eq (k := k + 1) (l := kn) (by omega) hn, l1In_eq, Option.bind_some, dead, weavingB]
  cases hc : chartB w h p
  · simp
  have hx := chart_of hc
  cases hcol : kn.all colorB
  · simp
  simp only [if_true, Bool.true_and]
  by_cases g1 : (kn.length : Int) > p.length
  · rw [if_pos g1, decide_eq_false (show ¬ (wf * w ≤ kn.length ∧ (kn.length : Int) ≤ wf * w + w ∧ kn.length ≤ p.length) by omega)]; simp
  rw [if_neg g1]
  by_cases g2 : 0 ≤ wf ∧ wf ≤ h
  · have hm := mul_bd (a := wf) (b := w) (A := 8) (B := 8) (by omega) (by omega) (by omega) (by omega)
    have hm2 : (wf + 1) * w = wf * w + w := by rw [Int.add_mul, Int.one_mul]
    rw [decide_eq_true g2, w64 (x := wf * w) (by omega) (by omega), w64 (x := wf + 1) (by omega) (by omega), hm2, w64 (x := wf * w + w) (by omega) (by omega)]
    simp only [if_true, Bool.true_and]
    by_cases g3 : wf * w ≤ (kn.length : Int) ∧ (kn.length : Int) ≤ wf * w + w
    · rw [decide_eq_true g3, decide_eq_true (show wf * w ≤ (kn.length : Int) ∧ (kn.length : Int) ≤ wf * w + w ∧ kn.length ≤ p.length by omega)]
      simp only [if_true, Bool.true_and]
      by_cases g4 : ag.length ≤ 10
      · rw [decide_eq_false (show ¬ (ag.length : Int) > 10 by omega), decide_eq_true g4, spec_l19Good.j0]
        simp only [Bool.false_eq_true, if_false, Bool.true_and]
        have hl := idx_loop2 (fun k i => spec_l19Good.l0 k i w h p kn wf ag dn) (fun j => devB p kn (ag.getD j z89) && (decide (j = 0) || ascD ag j)) 0 ag.length (kn.length + ag.length + 2) (doneB h p kn wf ag dn) (by omega)
          (fun k i _ h1 h2 => by
            simp only [spec_l19Good.l0, rdIDeviation_nat]
            rw [if_pos (by omega), if_pos (by omega), w64 (x := (kn.length : Int) - 1) (by omega) (by omega), l1In_eq]
            simp only [Option.bind_some]
            unfold devB
            obtain ⟨d, hd⟩ : ∃ d, ag.getD i z89 = d := ⟨_, rfl⟩
            rw [hd]
            by_cases q1 : 0 ≤ d.f0 ∧ d.f0 ≤ (kn.length : Int) - 1
            · rw [decide_eq_true q1]
              simp only [if_true, Bool.true_and]
              have e2 : (if 0 ≤ d.f0 then (if d.f0 < (kn.length : Int) then (if d.f1 = rd kn d.f0 then (if d.f0 < (p.length : Int) then (if d.f1 = rd p d.f0 then some false else spec_l19Good.l0 k (wrap64 ((i : Int) + 1)) w h p kn wf ag dn) else none) else some false) else none) else none) = if (decide (rd kn d.f0 = d.f1) && !decide (d.f1 = rd p d.f0)) = true then spec_l19Good.l0 k (wrap64 ((i : Int) + 1)) w h p kn wf ag dn else some false := by
                rw [if_pos (by omega), if_pos (by omega)]
                by_cases q2 : d.f1 = rd kn d.f0
                · rw [if_pos q2, decide_eq_true q2.symm, if_pos (by omega)]
                  by_cases q3 : d.f1 = rd p d.f0
                  · rw [if_pos q3, decide_eq_true q3]; simp
                  · rw [if_neg q3, decide_eq_false q3]; simp
                · rw [if_neg q2, decide_eq_false (fun e => q2 e.symm)]; simp
              by_cases hi : i = 0
              · rw [if_neg (by omega), e2, decide_eq_true hi]; simp
              · rw [if_pos (by omega), w64 (x := (i : Int) - 1) (by omega) (by omega), if_pos (by omega), if_pos (by omega), show (i : Int) - 1 = ((i - 1 : Nat) : Int) by omega, rdIDeviation_nat, e2, decide_eq_false hi]
                unfold ascD
                rw [hd]
                by_cases q4 : (ag.getD (i - 1) z89).f0 ≥ d.f0
                · rw [if_pos q4, decide_eq_false (show ¬ (ag.getD (i - 1) z89).f0 < d.f0 by omega)]; simp
                · rw [if_neg q4, decide_eq_true (show (ag.getD (i - 1) z89).f0 < d.f0 by omega)]; simp
            · rw [decide_eq_false q1]; simp)
          (fun _ k hk => by
            simp only [spec_l19Good.l0]
            rw [if_neg (by omega)]
            unfold doneB
            cases dn
            · simp
            · simp only [if_true]
              by_cases q5 : wf = h
              · rw [if_pos q5, if_pos q5, mistS_eq (by omega) ha hn (by omega)]; simp
              · rw [if_neg q5, if_neg q5])
          ag.length k 0 (by omega) (by omega) (by omega) (fun j h1 h2 => by omega)
        refine hl.trans (congrArg some ?_)
        congr 1
        rw [Bool.eq_iff_iff, Bool.and_eq_true, allR_iff, allR_iff, all_getD z89]
        constructor
        · intro hq
          refine ⟨fun j h1 h2 => ?_, fun j hj => ?_⟩
          · have := hq j (by omega) (by omega)
            rw [Bool.and_eq_true, decide_eq_false (show ¬ j = 0 by omega), Bool.false_or] at this; exact this.2
          · have := hq j (by omega) (by omega)
            rw [Bool.and_eq_true] at this; exact this.1
        · intro hq j h1 h2
          rw [Bool.and_eq_true]
          refine ⟨hq.2 j (by omega), ?_⟩
          by_cases hj : j = 0
          · rw [decide_eq_true hj]; rfl
          · rw [hq.1 j (by omega) (by omega), Bool.or_true]
      · rw [decide_eq_true (show (ag.length : Int) > 10 by omega), dead, decide_eq_false g4]; simp
    · rw [decide_eq_false g3, decide_eq_false (show ¬ (wf * w ≤ (kn.length : Int) ∧ (kn.length : Int) ≤ wf * w + w ∧ kn.length ≤ p.length) from fun e => g3 ⟨e.1, e.2.1⟩)]; simp
  · rw [decide_eq_false g2]; simp
theorem isDev_eq {w h : Int} {p kn : List Int} {wf : Int} {ag : List S89} {dn : Bool} (hn : kn.length ≤ 1048576) (hp : kn.length ≤ p.length) (d : S89) : impl_Weaving_isDeviation.f w h p kn wf ag dn d.f0 d.f1 = some (devB p kn d) := by
  simp only [impl_Weaving_isDeviation.f, in_eq, Option.bind_some]
  rw [w64 (x := (kn.length : Int) - 1) (by omega) (by omega)]
  unfold devB
  by_cases q1 : 0 ≤ d.f0 ∧ d.f0 ≤ (kn.length : Int) - 1
  · rw [decide_eq_true q1, if_pos rfl, if_pos (by omega), if_pos (by omega)]
    by_cases q2 : rd kn d.f0 = d.f1
    · rw [if_pos q2, decide_eq_true q2, if_pos (by omega)]
      congr 1
    · rw [if_neg q2, decide_eq_false q2]; simp
  · rw [decide_eq_false q1]; simp
theorem weavingI_eq {k : Nat} {w h : Int} {p kn : List Int} {wf : Int} {ag : List S89} {dn : Bool} (hk : kn.length + ag.length + 10 < k) (hn : kn.length ≤ 1048576) (ha : ag.length ≤ 1048576) (hp0 : p.length ≤ 1048576) : impl_IsWeaving.f k w h p kn wf ag dn = some (weavingB w h p kn wf ag dn) := by
  obtain ⟨k, rfl, hk⟩ := succ_of (show 0 < k by omega)
  have dead : impl_IsWeaving.j0 (k + 1) true w h p kn wf ag dn = some false := by rw [impl_IsWeaving.j0]; simp
  simp only [impl_IsWeaving.f, IsChart_eq, in_eq, impl_areAll_int__impl_isColor.f, Ho.allO_eq (q := colorB) (fun x _ => isColor_eq x), Option.bind_some, dead, weavingB]
  cases hc : chartB w h p
  · simp
  have hx := chart_of hc
  by_cases g2 : 0 ≤ wf ∧ wf ≤ h
  · have hm := mul_bd (a := wf) (b := w) (A := 8) (B := 8) (by omega) (by omega) (by omega) (by omega)
    rw [decide_eq_true g2]
    simp only [if_true, Bool.true_and]
    cases hcol : kn.all colorB
    · simp [dead]
    rw [impl_IsWeaving.j0]
    simp only [Bool.not_true, Bool.false_eq_true, if_false, Bool.true_and, in_eq, Option.bind_some]
    rw [w64 (x := wf * w) (by omega) (by omega), w64 (x := wf * w + w) (by omega) (by omega)]
    have e3 : decide (wf * w ≤ (kn.length : Int) ∧ (kn.length : Int) ≤ mn (wf * w + w) (p.length : Int)) = decide (wf * w ≤ kn.length ∧ (kn.length : Int) ≤ wf * w + w ∧ kn.length ≤ p.length) := by
      congr 1
      unfold mn
      exact propext (by split <;> constructor <;> intro h <;> omega)
    rw [e3]
    by_cases g3 : wf * w ≤ kn.length ∧ (kn.length : Int) ≤ wf * w + w ∧ kn.length ≤ p.length
    · rw [decide_eq_true g3]
      simp only [if_true, Bool.true_and]
      have hasc : impl_Deviation__impl_IsWeaving_1.f k ag = some (allR (ascD ag) 1 (ag.length - 1)) := by
        unfold impl_Deviation__impl_IsWeaving_1.f
        by_cases h0 : ag.length = 0
        · obtain ⟨k, rfl, _⟩ := succ_of (show 0 < k by omega)
          simp only [impl_Deviation__impl_IsWeaving_1.l0]
          rw [if_neg (by omega), h0]; rfl
        have h := idx_loop (fun k i => impl_Deviation__impl_IsWeaving_1.l0 k ag i) (ascD ag) 1 ag.length true (by omega)
          (fun k i h1 h2 => by
            simp only [impl_Deviation__impl_IsWeaving_1.l0, impl_IsWeaving_1.f, Option.bind_some]
            rw [if_pos (by omega), w64 (x := (i : Int) - 1) (by omega) (by omega), if_pos (by omega), if_pos (by omega), if_pos (by omega), show (i : Int) - 1 = ((i - 1 : Nat) : Int) by omega, rdIDeviation_nat, rdIDeviation_nat]
            unfold ascD
            by_cases g : (ag.getD (i - 1) z89).f0 ≥ (ag.getD i z89).f0
            · rw [if_pos g, decide_eq_false (by omega)]; simp
            · rw [if_neg g, decide_eq_true (by omega)]; simp)
          (fun k i h1 => by simp only [impl_Deviation__impl_IsWeaving_1.l0]; rw [if_neg (by omega)])
          (ag.length - 1) k 1 (by omega) (by omega) (by omega)
        simpa using h
      rw [hasc]
      simp only [Option.bind_some]
      by_cases g4 : ag.length ≤ 10
      · rw [if_pos (by omega), decide_eq_true g4]
        cases allR (ascD ag) 1 (ag.length - 1)
        · simp
        simp only [if_true, Bool.true_and, impl_Deviation__impl_Weaving_isDeviation.f]
        rw [Ho.allO_eq (q := devB p kn) (fun x _ => isDev_eq hn g3.2.2 x)]
        simp only [Option.bind_some]
        cases ag.all (devB p kn)
        · simp
        simp only [if_true, Bool.true_and]
        unfold doneB
        cases dn
        · simp
        · simp only [if_true, impl_Weaving_canBeDone.f]
          by_cases q5 : wf = h
          · rw [if_pos q5, if_pos q5, mistI_eq (by omega) hn g3.2.2]; simp
          · rw [if_neg q5, if_neg q5]; simp
      · rw [if_neg (by omega), decide_eq_false g4]; simp
    · rw [decide_eq_false g3]; simp
  · rw [decide_eq_false g2]; simp [dead]

end Go.Proofs.Ytfibaganajembaa.Pure

-- Qweavelaw
namespace Go.Proofs.Ytfibaganajembaa.Pure
open Go Go.RowKit Go.Proofs Go.Proofs.Ytfibaganajembaa.X Go.Proofs.YtfibaganajembaaW.PrintWords Go.Proofs.YtfibaganajembaaW.PrintLast
set_option linter.unusedVariables false
set_option linter.unusedSimpArgs false

theorem szWeaving_ex {w h : Int} {p kn : List Int} {wf : Int} {ag : List S106} {dn : Bool} (hp : p.length ≤ 9223372036854775807) (hn : kn.length ≤ 9223372036854775807) (ha : ag.length ≤ 9223372036854775807) : ∃ r, laws_szWeaving.f w h p kn wf ag dn 1048576 = some r ∧ (r < 0 ∨ (p.length + kn.length + ag.length ≤ 1048576)) := by
  unfold laws_szWeaving.f
  rw [szChart_eq hp (by omega)]
  simp only [Option.bind_some]
  by_cases h1 : (1048576 : Int) < p.length
  · exact ⟨-1, by simp [h1], .inl (by omega)⟩
  rw [if_neg h1, if_neg (by omega), szIntS_eq hn (by omega)]
  simp only [Option.bind_some]
  by_cases h2 : (1048576 : Int) - p.length < kn.length
  · exact ⟨-1, by simp [h2], .inl (by omega)⟩
  rw [if_neg h2, if_neg (by omega), szDeviationS_eq ha (by omega)]
  simp only [Option.bind_some]
  by_cases h3 : (1048576 : Int) - p.length - kn.length < ag.length
  · exact ⟨-1, by simp [h3], .inl (by omega)⟩
  rw [if_neg h3, if_neg (by omega)]
  exact ⟨_, rfl, .inr (by omega)⟩
theorem toWeaving_eq {k : Nat} {w h : Int} {p kn : List Int} {wf : Int} {ag : List S106} {dn : Bool} (hs : p.length + kn.length + ag.length ≤ 1048576) (hk : 1048576 < k) : laws_toWeaving.f k w h p kn wf ag dn = some (w, h, p, kn, wf, ag.map toDeviation, dn) := by
  simp only [laws_toWeaving.f, toChart_eq (k := k) (w := w) (h := h) (l := p) (by omega) (by omega), toIntS_eq (k := k) (l := kn) (by omega) (by omega), toDeviationS_eq (k := k) (l := ag) (by omega) (by omega), Option.bind_some]
theorem eqWeaving_refl {k : Nat} {w h : Int} {p kn : List Int} {wf : Int} {ag : List S89} {dn : Bool} (hs : p.length + kn.length + ag.length ≤ 1048576) (hk : 1048576 < k) : laws_eqWeaving.f k w h p kn wf ag dn w h p kn wf ag dn = some true := by
  simp only [laws_eqWeaving.f, eqChart_refl (k := k) (w := w) (h := h) (l := p) (by omega) (by omega), eqIntS_refl (k := k) (l := kn) (by omega) (by omega), eqDeviationS_refl (k := k) (l := ag) (by omega) (by omega), Option.bind_some, if_true, bne_self_eq_false, Bool.false_eq_true, if_false]
theorem weaving_of {w h : Int} {p kn : List Int} {wf : Int} {ag : List S89} {dn : Bool} (hb : weavingB w h p kn wf ag dn = true) : chartB w h p = true ∧ (0 ≤ wf ∧ wf ≤ h) ∧ (wf * w ≤ kn.length ∧ (kn.length : Int) ≤ wf * w + w ∧ kn.length ≤ p.length) := by
  simp only [weavingB, Bool.and_eq_true, decide_eq_true_eq] at hb
  exact ⟨hb.1, hb.2.1, hb.2.2.2.1⟩

end Go.Proofs.Ytfibaganajembaa.Pure
