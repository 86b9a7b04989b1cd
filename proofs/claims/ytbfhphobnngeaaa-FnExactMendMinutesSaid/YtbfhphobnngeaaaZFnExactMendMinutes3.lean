/- What the law FnExactMendMinutes needs, part 4 of 4: what each function of the program that it reaches returns (printed by this session's own program, checked by Lean), and plain mathematics about it. Conditions: those of each theorem. -/
import Derived.Test.YtbfhphobnngeaaaZFnExactMendMinutes2
import Derived.Test.YtbfhphobnngeaaaYG
-- Qbase
namespace Go.Proofs.Ytbfhphobnngeaaa.Pure
open Go Go.RowKit Go.Proofs Go.Proofs.YtbfhphobnngeaaaW.PrintWords Go.Proofs.YtbfhphobnngeaaaW.PrintLast
set_option linter.unusedVariables false
set_option linter.unusedSimpArgs false

theorem w64 {x : Int} (h1 : -9223372036854775808 ≤ x) (h2 : x ≤ 9223372036854775807) : wrap64 x = x := by unfold wrap64; omega
theorem w64b {x : Int} (h : -9223372036854775808 ≤ x ∧ x ≤ 9223372036854775807) : wrap64 x = x := w64 h.1 h.2
theorem ite_sf (a b : Bool) : (if a = true then some b else some false) = some (a && b) := by cases a <;> rfl
theorem ite_sf2 (a b : Bool) : (if a = true then some false else some b) = some (!a && b) := by cases a <;> rfl
theorem wf_bd {x : Int} (h : (Lit.int .i64 x).wf = true) : -9223372036854775808 ≤ x ∧ x ≤ 9223372036854775807 := by
  have h1 := h
  simp [Lit.wf] at h1
  exact ⟨h1.1, h1.2⟩
/-- a product of two numbers within bounds -/
theorem mul_bd {a b A B : Int} (ha : 0 ≤ a) (hA : a ≤ A) (hb : 0 ≤ b) (hB : b ≤ B) : 0 ≤ a * b ∧ a * b ≤ A * B :=
  ⟨Int.mul_nonneg ha hb, Int.mul_le_mul hA hB hb (Int.le_trans ha hA)⟩
theorem drop_step {α : Type} {l : List α} {i : Nat} (h : i < l.length) (d : α) : l.drop i = l.getD i d :: l.drop (i + 1) := by
  rw [List.drop_eq_getElem_cons h]; congr 1; simp [List.getD_eq_getElem?_getD, List.getElem?_eq_getElem h]
theorem wstep {i : Nat} {n : Nat} (h : i < n) (hn : n ≤ 9223372036854775807) : wrap64 ((i : Int) + 1) = ((i + 1 : Nat) : Int) := by unfold wrap64; omega
theorem nat_of {i : Int} (h : 0 ≤ i) : ∃ n : Nat, i = n := ⟨i.toNat, by omega⟩
theorem succ_of {k d : Nat} (h : d < k) : ∃ m, k = m + 1 ∧ d ≤ m := ⟨k - 1, by omega, by omega⟩

end Go.Proofs.Ytbfhphobnngeaaa.Pure

-- Qloops
namespace Go.Proofs.Ytbfhphobnngeaaa.Pure
open Go Go.RowKit Go.Proofs Go.Proofs.YtbfhphobnngeaaaW.PrintWords Go.Proofs.YtbfhphobnngeaaaW.PrintLast
set_option linter.unusedVariables false
set_option linter.unusedSimpArgs false

/-- A loop that copies element by element into a new row. -/
theorem copy_loop {α β : Type} (L : Nat → List α → List β → Int → Option (List β)) (f : α → β) (d : α) (l : List α) (hb : l.length ≤ 9223372036854775806)
    (hs : ∀ k x3 (i : Nat), i < l.length → x3.length = l.length → L (k + 1) l x3 i = L k l (x3.set i (f (l.getD i d))) (wrap64 ((i : Int) + 1)))
    (he : ∀ k x3 (i : Nat), l.length ≤ i → L (k + 1) l x3 i = some x3) :
    ∀ n k (i : Nat) (x3 : List β), i + n = l.length → n < k → x3.length = l.length → x3.take i = (l.take i).map f → L k l x3 i = some (l.map f) := by
  intro n
  induction n with
  | zero =>
    intro k i x3 hi hk hl ht
    obtain ⟨k, rfl, _⟩ := succ_of hk
    rw [he k x3 i (by omega)]
    rw [List.take_of_length_le (by omega), List.take_of_length_le (by omega)] at ht
    rw [ht]
  | succ n ih =>
    intro k i x3 hi hk hl ht
    obtain ⟨k, rfl, hk⟩ := succ_of hk
    rw [hs k x3 i (by omega) hl, wstep (show i < l.length by omega) (by omega)]
    refine ih k (i + 1) _ (by omega) (by omega) (by rw [List.length_set]; exact hl) ?_
    rw [List.take_succ_eq_append_getElem (by rw [List.length_set]; omega), List.take_succ_eq_append_getElem (by omega), List.map_append, ← ht]
    congr 1
    · rw [List.take_set_of_le (Nat.le_refl _)]
    · simp [List.getD_eq_getElem?_getD, List.getElem?_eq_getElem (show i < l.length by omega)]
/-- A loop that compares a row with itself. -/
theorem refl_loop {α : Type} (L : Nat → List α → List α → Int → Option Bool) (l : List α) (hb : l.length ≤ 9223372036854775806)
    (hs : ∀ k (i : Nat), i < l.length → L (k + 1) l l i = L k l l (wrap64 ((i : Int) + 1))) (he : ∀ k (i : Nat), l.length ≤ i → L (k + 1) l l i = some true) :
    ∀ n k (i : Nat), i + n = l.length → n < k → L k l l i = some true := by
  intro n
  induction n with
  | zero =>
    intro k i hi hk
    obtain ⟨k, rfl, _⟩ := succ_of hk
    exact he k i (by omega)
  | succ n ih =>
    intro k i hi hk
    obtain ⟨k, rfl, hk⟩ := succ_of hk
    rw [hs k i (by omega), wstep (show i < l.length by omega) (by omega)]
    exact ih k (i + 1) (by omega) (by omega)
/-- A loop that asks of all elements, from i on. -/
theorem all_loop {α : Type} (L : Nat → Int → Option Bool) (q : α → Bool) (d : α) (l : List α) (e : Bool) (hb : l.length ≤ 9223372036854775806)
    (hs : ∀ k (i : Nat), i < l.length → L (k + 1) i = if q (l.getD i d) = true then L k (wrap64 ((i : Int) + 1)) else some false) (he : ∀ k (i : Nat), l.length ≤ i → L (k + 1) i = some e) :
    ∀ n k (i : Nat), i + n = l.length → n < k → L k i = some ((l.drop i).all q && e) := by
  intro n
  induction n with
  | zero =>
    intro k i hi hk
    obtain ⟨k, rfl, _⟩ := succ_of hk
    rw [he k i (by omega), List.drop_eq_nil_of_le (by omega)]; rfl
  | succ n ih =>
    intro k i hi hk
    obtain ⟨k, rfl, hk⟩ := succ_of hk
    rw [hs k i (by omega), wstep (show i < l.length by omega) (by omega), drop_step (by omega) d, List.all_cons, ih k (i + 1) (by omega) (by omega)]
    cases q (l.getD i d) <;> simp
/-- What marks leave: each element tells its own number. -/
def markM {α : Type} (g : Int → α) (c : Int) (n : Nat) (s : Int) : List α := (List.range n).map fun (j : Nat) => g (s + c * (j : Int))
theorem markM_length {α : Type} (g : Int → α) (c : Int) (n : Nat) (s : Int) : (markM g c n s).length = n := by simp [markM]
theorem markM_getD {α : Type} (g : Int → α) (c : Int) (n : Nat) (s : Int) (d : α) {i : Nat} (h : i < n) : (markM g c n s).getD i d = g (s + c * i) := by
  simp [markM, List.getD_eq_getElem?_getD, List.getElem?_map, List.getElem?_range h]
/-- A loop that marks. -/
theorem mark_loop {α : Type} (L : Nat → List α → Int → Int → Option (Int × List α)) (g : Int → α) (c : Int) (n0 : Nat) (s : Int) (hb : n0 ≤ 9223372036854775806) 
    (hs : ∀ k x (i : Nat), i < n0 → x.length = n0 → L (k + 1) x (s + c * i) i = L k (x.set i (g (s + c * i))) (s + c * ((i + 1 : Nat) : Int)) (wrap64 ((i : Int) + 1)))
    (he : ∀ k x m (i : Nat), n0 ≤ i → x.length = n0 → L (k + 1) x m i = some (m, x)) :
    ∀ n k (i : Nat) (x : List α), i + n = n0 → n < k → x.length = n0 → x.take i = (markM g c n0 s).take i → L k x (s + c * i) i = some (s + c * n0, markM g c n0 s) := by
  intro n
  induction n with
  | zero =>
    intro k i x hi hk hl ht
    obtain ⟨k, rfl, _⟩ := succ_of hk
    rw [he k x _ i (by omega) hl]
    rw [List.take_of_length_le (by omega), List.take_of_length_le (by rw [markM_length]; omega)] at ht
    rw [ht]; simp [show i = n0 by omega]
  | succ n ih =>
    intro k i x hi hk hl ht
    obtain ⟨k, rfl, hk⟩ := succ_of hk
    rw [hs k x i (by omega) hl, wstep (show i < n0 by omega) (by omega)]
    refine ih k (i + 1) _ (by omega) (by omega) (by rw [List.length_set]; exact hl) ?_
    rw [List.take_succ_eq_append_getElem (by rw [List.length_set]; omega), List.take_succ_eq_append_getElem (by rw [markM_length]; omega), ← ht]
    congr 1
    · rw [List.take_set_of_le (Nat.le_refl _)]
    · simp [markM]
/-- A loop that asks for the marks. -/
theorem held_loop {α : Type} (L : Nat → List α → Int → Int → Option Int) (g : Int → α) (c : Int) (n0 : Nat) (s : Int) (hb : n0 ≤ 9223372036854775806)
    (hs : ∀ k (i : Nat), i < n0 → L (k + 1) (markM g c n0 s) (s + c * i) i = L k (markM g c n0 s) (s + c * ((i + 1 : Nat) : Int)) (wrap64 ((i : Int) + 1)))
    (he : ∀ k m (i : Nat), n0 ≤ i → L (k + 1) (markM g c n0 s) m i = some m) :
    ∀ n k (i : Nat), i + n = n0 → n < k → L k (markM g c n0 s) (s + c * i) i = some (s + c * n0) := by
  intro n
  induction n with
  | zero =>
    intro k i hi hk
    obtain ⟨k, rfl, _⟩ := succ_of hk
    rw [he k _ i (by omega), show i = n0 by omega]
  | succ n ih =>
    intro k i hi hk
    obtain ⟨k, rfl, hk⟩ := succ_of hk
    rw [hs k i (by omega), wstep (show i < n0 by omega) (by omega)]
    exact ih k (i + 1) (by omega) (by omega)
theorem rd_nat (l : List Int) (i : Nat) : rd l (i : Int) = l.getD i 0 := by simp [rd]

end Go.Proofs.Ytbfhphobnngeaaa.Pure

-- QeqInts
namespace Go.Proofs.Ytbfhphobnngeaaa.Pure
open Go Go.RowKit Go.Proofs Go.Proofs.Ytbfhphobnngeaaa.X Go.Proofs.YtbfhphobnngeaaaW.PrintWords Go.Proofs.YtbfhphobnngeaaaW.PrintLast
set_option linter.unusedVariables false
set_option linter.unusedSimpArgs false

theorem eqIntS_refl {k : Nat} {l : List Int} (hk : l.length < k) (hl : l.length ≤ 9223372036854775806) : laws_eqIntS.f k l l = some true := by
  unfold laws_eqIntS.f
  rw [if_pos rfl]
  exact refl_loop laws_eqIntS.l0 l hl
    (fun k i h => by simp only [laws_eqIntS.l0]; rw [if_pos (by omega), if_pos (by omega), if_pos (by omega)]; simp)
    (fun k i h => by simp only [laws_eqIntS.l0]; rw [if_neg (by omega)])
    l.length k 0 (by omega) hk

end Go.Proofs.Ytbfhphobnngeaaa.Pure

-- Qinrange
namespace Go.Proofs.Ytbfhphobnngeaaa.Pure
open Go Go.RowKit Go.Proofs Go.Proofs.Ytbfhphobnngeaaa.X Go.Proofs.YtbfhphobnngeaaaW.PrintWords Go.Proofs.YtbfhphobnngeaaaW.PrintLast
set_option linter.unusedVariables false
set_option linter.unusedSimpArgs false

theorem in_eq (x a b : Int) : impl_in.f x a b = some (decide (a ≤ x ∧ x ≤ b)) := by
  unfold impl_in.f
  by_cases h1 : a ≤ x <;> simp [h1]

end Go.Proofs.Ytbfhphobnngeaaa.Pure

-- Qspecin
namespace Go.Proofs.Ytbfhphobnngeaaa.Pure
open Go Go.RowKit Go.Proofs Go.Proofs.Ytbfhphobnngeaaa.X Go.Proofs.YtbfhphobnngeaaaW.PrintWords Go.Proofs.YtbfhphobnngeaaaW.PrintLast
set_option linter.unusedVariables false
set_option linter.unusedSimpArgs false

theorem l1In_eq (x a b : Int) : spec_l1In.f x a b = some (decide (a ≤ x ∧ x ≤ b)) := by
  unfold spec_l1In.f
  by_cases h1 : a ≤ x <;> simp [h1]

end Go.Proofs.Ytbfhphobnngeaaa.Pure

-- QtoInts
namespace Go.Proofs.Ytbfhphobnngeaaa.Pure
open Go Go.RowKit Go.Proofs Go.Proofs.Ytbfhphobnngeaaa.X Go.Proofs.YtbfhphobnngeaaaW.PrintWords Go.Proofs.YtbfhphobnngeaaaW.PrintLast
set_option linter.unusedVariables false
set_option linter.unusedSimpArgs false

theorem toIntS_eq {k : Nat} {l : List Int} (hk : l.length < k) (hl : l.length ≤ 1048576) : laws_toIntS.f k l = some l := by
  unfold laws_toIntS.f
  rw [if_pos (by omega), if_pos (by simp; omega)]
  have h := copy_loop laws_toIntS.l0 (fun x => x) 0 l (by omega)
    (fun k x3 i h1 h2 => by
      simp only [laws_toIntS.l0]
      rw [if_pos (by omega), if_pos (by omega), if_pos (by omega), rd_nat]; simp)
    (fun k x3 i h1 => by simp only [laws_toIntS.l0]; rw [if_neg (by omega)])
    l.length k 0 (List.replicate l.length 0) (by omega) hk (by simp) (by simp)
  simpa using h

end Go.Proofs.Ytbfhphobnngeaaa.Pure

-- Qchart
namespace Go.Proofs.Ytbfhphobnngeaaa.Pure
open Go Go.RowKit Go.Proofs Go.Proofs.Ytbfhphobnngeaaa.X Go.Proofs.YtbfhphobnngeaaaW.PrintWords Go.Proofs.YtbfhphobnngeaaaW.PrintLast
set_option linter.unusedVariables false
set_option linter.unusedSimpArgs false

def colorB (x : Int) : Bool := decide (0 ≤ x ∧ x ≤ 5)
def sideB (x : Int) : Bool := decide (1 ≤ x ∧ x ≤ 8)
def chartB (w h : Int) (l : List Int) : Bool := sideB w && (sideB h && (decide ((l.length : Int) = w * h) && l.all colorB))
theorem side_of {x : Int} (h : sideB x = true) : 1 ≤ x ∧ x ≤ 8 := by simpa [sideB] using h
theorem side_w {w h : Int} (hw : sideB w = true) (hh : sideB h = true) : 0 ≤ w * h ∧ w * h ≤ 64 := by
  have := side_of hw; have := side_of hh
  exact mul_bd (A := 8) (B := 8) (by omega) (by omega) (by omega) (by omega)
theorem chart_of {w h : Int} {l : List Int} (hc : chartB w h l = true) : (1 ≤ w ∧ w ≤ 8) ∧ (1 ≤ h ∧ h ≤ 8) ∧ (l.length : Int) = w * h ∧ l.length ≤ 64 ∧ ∀ x ∈ l, 0 ≤ x ∧ x ≤ 5 := by
  simp only [chartB, Bool.and_eq_true, decide_eq_true_eq, List.all_eq_true] at hc
  obtain ⟨h1, h2, h3, h4⟩ := hc
  have := side_w h1 h2
  exact ⟨side_of h1, side_of h2, h3, by omega, fun x hx => by simpa [colorB] using h4 x hx⟩
theorem szIntS_eq {l : List Int} {a : Int} (hl : l.length ≤ 9223372036854775807) (ha : 0 ≤ a ∧ a ≤ 9223372036854775807) : laws_szIntS.f l a = some (if a < l.length then -1 else a - l.length) := by
  unfold laws_szIntS.f
  rw [w64 (by omega) (by omega)]
  by_cases h : a < l.length
  · rw [if_pos (by omega), if_pos h]
  · rw [if_neg (by omega), if_neg h]
theorem szChart_eq {w h a : Int} {l : List Int} (hl : l.length ≤ 9223372036854775807) (ha : 0 ≤ a ∧ a ≤ 9223372036854775807) : laws_szChart.f w h l a = some (if a < l.length then -1 else a - l.length) := by
  unfold laws_szChart.f
  rw [szIntS_eq hl ha]
  by_cases h : a < l.length
  · simp [h]
  · simp only [if_neg h, Option.bind_some]; rw [if_neg (by omega)]
theorem toChart_eq {k : Nat} {w h : Int} {l : List Int} (hk : l.length < k) (hl : l.length ≤ 1048576) : laws_toChart.f k w h l = some (w, h, l) := by
  simp only [laws_toChart.f, toIntS_eq hk hl, Option.bind_some]
theorem eqChart_refl {k : Nat} {w h : Int} {l : List Int} (hk : l.length < k) (hl : l.length ≤ 1048576) : laws_eqChart.f k w h l w h l = some true := by
  simp only [laws_eqChart.f, eqIntS_refl hk (by omega), Option.bind_some, if_true]
theorem isColor_eq (x : Int) : impl_isColor.f x = some (colorB x) := by simp only [impl_isColor.f, in_eq, Option.bind_some, colorB]
theorem isSide_eq (x : Int) : impl_isSide.f x = some (sideB x) := by simp only [impl_isSide.f, in_eq, Option.bind_some, sideB]
theorem l2Color_eq (x : Int) : spec_l2Color.f x = some (colorB x) := by simp only [spec_l2Color.f, l1In_eq, Option.bind_some, colorB]
theorem l2Side_eq (x : Int) : spec_l2Side.f x = some (sideB x) := by simp only [spec_l2Side.f, l1In_eq, Option.bind_some, sideB]
theorem IsChart_eq (w h : Int) (l : List Int) : impl_IsChart.f w h l = some (chartB w h l) := by
  simp only [impl_IsChart.f, isSide_eq, impl_areAll_int__impl_isColor.f, Ho.allO_eq (q := colorB) (fun x _ => isColor_eq x), Option.bind_some, chartB]
  cases hw : sideB w
  · simp
  · cases hh : sideB h
    · simp
    · have := side_w hw hh
      rw [w64 (by omega) (by omega)]
      by_cases he : (l.length : Int) = w * h <;> simp [he]
theorem l2Good_eq {k : Nat} {w h : Int} {l : List Int} (hk : l.length < k) (hl : l.length ≤ 1048576) : spec_l2Good.f k w h l = some (chartB w h l) := by
  unfold spec_l2Good.f
  have hx := all_loop (fun k i => spec_l2Good.l0 k i w h l) colorB 0 l (sideB w && (sideB h && decide ((l.length : Int) = w * h))) (by omega)
    (fun k i h1 => by
      simp only [spec_l2Good.l0]
      rw [if_pos (by omega), if_pos (by omega), rd_nat, l2Color_eq]
      simp only [Option.bind_some])
    (fun k i h1 => by
      simp only [spec_l2Good.l0]
      rw [if_neg (by omega)]
      simp only [l2Side_eq, Option.bind_some]
      cases hw : sideB w
      · simp
      · cases hh : sideB h
        · simp
        · have := side_w hw hh
          rw [w64 (by omega) (by omega)]
          simp [BEq.beq, instBEqOfDecidableEq])
    l.length k 0 (by omega) hk
  refine hx.trans ?_
  simp only [List.drop_zero, chartB]
  cases sideB w <;> cases sideB h <;> cases l.all colorB <;> simp

end Go.Proofs.Ytbfhphobnngeaaa.Pure

-- QlistHole
namespace Go.Proofs.Ytbfhphobnngeaaa.Pure
open Go Go.RowKit Go.Proofs Go.Proofs.Ytbfhphobnngeaaa.X Go.Proofs.YtbfhphobnngeaaaW.PrintWords Go.Proofs.YtbfhphobnngeaaaW.PrintLast
set_option linter.unusedVariables false
set_option linter.unusedSimpArgs false

def toHole (x : S67) : S39 := ⟨x.f0, x.f1, x.f2, x.f3⟩
theorem rdVHole_nat (l : List S67) (i : Nat) : rd_T67 l (i : Int) = l.getD i z67 := by simp [rd_T67]
theorem rdIHole_nat (l : List S39) (i : Nat) : rd_T39 l (i : Int) = l.getD i z39 := by simp [rd_T39]
theorem szHoleS_eq {l : List S67} {a : Int} (hl : l.length ≤ 9223372036854775807) (ha : 0 ≤ a ∧ a ≤ 9223372036854775807) : laws_szHoleS.f l a = some (if a < l.length then -1 else a - l.length) := by
  unfold laws_szHoleS.f
  rw [w64 (by omega) (by omega)]
  by_cases h : a < l.length
  · rw [if_pos (by omega), if_pos h]
  · rw [if_neg (by omega), if_neg h]
theorem toHoleS_eq {k : Nat} {l : List S67} (hk : l.length < k) (hl : l.length ≤ 1048576) : laws_toHoleS.f k l = some (l.map toHole) := by
  unfold laws_toHoleS.f
  rw [if_pos (by omega), if_pos (by simp; omega)]
  exact copy_loop laws_toHoleS.l0 toHole z67 l (by omega)
    (fun k x3 i h1 h2 => by
      simp only [laws_toHoleS.l0, laws_toHole.f, Option.bind_some]
      rw [if_pos (by omega), if_pos (by omega), if_pos (by omega), rdVHole_nat]
      simp [toHole])
    (fun k x3 i h1 => by simp only [laws_toHoleS.l0]; rw [if_neg (by omega)])
    l.length k 0 _ (by omega) hk (by simp) (by simp)
theorem eqHole_refl (a0 a1 a2 a3 : Int) : laws_eqHole.f a0 a1 a2 a3 a0 a1 a2 a3 = some true := by simp [laws_eqHole.f]
theorem eqHoleS_refl {k : Nat} {l : List S39} (hk : l.length < k) (hl : l.length ≤ 9223372036854775806) : laws_eqHoleS.f k l l = some true := by
  unfold laws_eqHoleS.f
  rw [if_pos rfl]
  exact refl_loop laws_eqHoleS.l0 l hl
    (fun k i h => by simp only [laws_eqHoleS.l0, eqHole_refl, Option.bind_some]; rw [if_pos (by omega), if_pos (by omega), if_pos (by omega)]; simp)
    (fun k i h => by simp only [laws_eqHoleS.l0]; rw [if_neg (by omega)])
    l.length k 0 (by omega) hk

end Go.Proofs.Ytbfhphobnngeaaa.Pure

-- Qcompact
namespace Go.Proofs.Ytbfhphobnngeaaa.Pure
open Go Go.RowKit Go.Proofs Go.Proofs.Ytbfhphobnngeaaa.X Go.Proofs.YtbfhphobnngeaaaW.PrintWords Go.Proofs.YtbfhphobnngeaaaW.PrintLast
set_option linter.unusedVariables false
set_option linter.unusedSimpArgs false

/-- how many of the first n elements differ from the one ahead of them -/
def chg (x : List Int) : Nat → Nat
  | 0 => 0
  | i + 1 => chg x i + (if i = 0 then 0 else if x.getD i 0 = x.getD (i - 1) 0 then 0 else 1)
theorem chg_le (x : List Int) : ∀ n, chg x n ≤ n - 1 := by
  intro n
  induction n with
  | zero => simp [chg]
  | succ n ih =>
    unfold chg
    split
    · omega
    · split <;> omega
theorem chg_succ (x : List Int) (i : Nat) (h : 1 ≤ i) : chg x (i + 1) = chg x i + (if x.getD i 0 = x.getD (i - 1) 0 then 0 else 1) := by
  rw [chg, if_neg (by omega)]
theorem clr_take_len {α : Type} (l : List α) (k : Nat) (z : α) (h : k ≤ l.length) : ((Cl.clr l k z).take k).length = k := by
  unfold Cl.clr
  rw [List.length_take, List.length_append, List.length_take, List.length_replicate]; omega
theorem compact_l1 {x : List Int} (hs : x.length ≤ 1048576) (j : Nat) : ∀ (m k i o : Nat) (s : List Int), j + i + m = x.length → m < k → 1 ≤ i → s.length = x.length → o = 1 + chg x (j + i) → ∃ r, slices_Compact_int_int.l1 k s (o : Int) (x.drop j) (i : Int) = some r ∧ r.length = 1 + chg x x.length := by
  intro m
  induction m with
  | zero =>
    intro k i o s hi hk h1 hl ho
    obtain ⟨k, rfl, _⟩ := succ_of hk
    have hd : (x.drop j).length = x.length - j := List.length_drop
    have hc := chg_le x (j + i)
    rw [slices_Compact_int_int.l1, if_neg (by omega), if_pos (by omega), if_pos (by omega), Int.toNat_natCast]
    refine ⟨_, rfl, ?_⟩
    rw [clr_take_len _ _ _ (by omega), ho, show j + i = x.length by omega]
  | succ m ih =>
    intro k i o s hi hk h1 hl ho
    obtain ⟨k, rfl, _⟩ := succ_of hk
    have hd : (x.drop j).length = x.length - j := List.length_drop
    have hc := chg_le x (j + i)
    have hr : ∀ q : Nat, rd (x.drop j) (q : Int) = x.getD (j + q) 0 := by
      intro q
      rw [rd_nat, List.getD_eq_getElem?_getD, List.getD_eq_getElem?_getD, List.getElem?_drop]
    have hn := chg_succ x (j + i) (by omega)
    rw [slices_Compact_int_int.l1, if_pos (by omega), if_pos (by omega), w64 (x := (i : Int) - 1) (by omega) (by omega), if_pos (by omega), if_pos (by omega), show (i : Int) - 1 = ((i - 1 : Nat) : Int) by omega, hr, hr, wstep (n := x.length) (i := i) (by omega) (by omega)]
    rw [show j + (i - 1) = j + i - 1 by omega]
    by_cases g : x.getD (j + i) 0 = x.getD (j + i - 1) 0
    · rw [if_pos g] at hn ⊢
      exact ih k (i + 1) o s (by omega) (by omega) (by omega) hl (by rw [ho, show j + (i + 1) = j + i + 1 by omega, hn]; omega)
    · rw [if_neg g] at hn ⊢
      rw [if_pos (by omega), if_pos (by omega), wstep (n := x.length) (i := o) (by omega) (by omega)]
      exact ih k (i + 1) (o + 1) _ (by omega) (by omega) (by omega) (by rw [List.length_set]; exact hl) (by rw [ho, show j + (i + 1) = j + i + 1 by omega, hn]; omega)
theorem compact_l0 {x : List Int} (hs : x.length ≤ 1048576) : ∀ (m k i : Nat), i + m = x.length → m + x.length < k → 1 ≤ i → i = 1 + chg x i → ∃ r, slices_Compact_int_int.l0 k x (i : Int) = some r ∧ r.length = 1 + chg x x.length := by
  intro m
  induction m with
  | zero =>
    intro k i hi hk h1 ho
    obtain ⟨k, rfl, _⟩ := succ_of hk
    rw [slices_Compact_int_int.l0, if_neg (by omega)]
    exact ⟨_, rfl, by rw [show i = x.length by omega] at ho; exact ho⟩
  | succ m ih =>
    intro k i hi hk h1 ho
    obtain ⟨k, rfl, _⟩ := succ_of hk
    have hn := chg_succ x i h1
    rw [slices_Compact_int_int.l0, if_pos (by omega), if_pos (by omega), w64 (x := (i : Int) - 1) (by omega) (by omega), if_pos (by omega), if_pos (by omega), show (i : Int) - 1 = ((i - 1 : Nat) : Int) by omega, rd_nat, rd_nat]
    by_cases g : x.getD i 0 = x.getD (i - 1) 0
    · rw [if_pos g] at hn ⊢
      rw [if_pos (by omega), Int.toNat_natCast]
      have := compact_l1 hs i m k 1 i x (by omega) (by omega) (by omega) rfl (by rw [hn]; omega)
      simpa using this
    · rw [if_neg g] at hn ⊢
      rw [wstep (n := x.length) (by omega) (by omega)]
      exact ih k (i + 1) (by omega) (by omega) (by omega) (by rw [hn]; omega)
theorem compact_ex {k : Nat} {x : List Int} (hs : x.length ≤ 1048576) (h0 : 0 < x.length) (hk : 2 * x.length < k) : ∃ r, slices_Compact_int_int.f k x = some r ∧ r.length = 1 + chg x x.length := by
  unfold slices_Compact_int_int.f
  by_cases g : (x.length : Int) < 2
  · rw [if_pos g]
    refine ⟨_, rfl, ?_⟩
    have := chg_le x x.length
    omega
  · rw [if_neg g]
    exact compact_l0 hs (x.length - 1) k 1 (by omega) (by omega) (by omega) (by simp [chg])
/-- a round of the reference -/
def stepM (s : Int × Int) (c : Int) : Int × Int := if c = s.2 then s else if s.2 ≥ 0 then (s.1 + 1, c) else (s.1, c)
theorem stepM_fold (a : Int) (x : List Int) (hx : ∀ c ∈ x, 0 ≤ c) : ∀ n, 1 ≤ n → n ≤ x.length → (x.take n).foldl stepM (a, -1) = (a + chg x n, x.getD (n - 1) 0) := by
  intro n
  induction n with
  | zero => intro h; omega
  | succ n ih =>
    intro _ hn
    have hlt : n < x.length := by omega
    have hg : x.getD n 0 = x[n] := by rw [List.getD_eq_getElem?_getD, List.getElem?_eq_getElem hlt]; rfl
    have hm : 0 ≤ x.getD n 0 := by rw [hg]; exact hx _ (List.getElem_mem hlt)
    rw [List.take_add_one, List.getElem?_eq_getElem hlt, Option.toList_some, List.foldl_append, List.foldl_cons, List.foldl_nil, ← hg, Nat.add_sub_cancel]
    by_cases h0 : n = 0
    · subst h0
      have e1 : chg x (0 + 1) = 0 := by simp [chg]
      rw [e1]
      show stepM (a, -1) (x.getD 0 0) = _
      unfold stepM
      rw [if_neg (show ¬ x.getD 0 0 = ((a, (-1 : Int)) : Int × Int).2 from by simp only; omega), if_neg (show ¬ ((a, (-1 : Int)) : Int × Int).2 ≥ 0 from by simp only; omega)]
      simp
    · rw [ih (by omega) (by omega), chg_succ x n (by omega)]
      have hp : x.getD (n - 1) 0 = x[n - 1] := by rw [List.getD_eq_getElem?_getD, List.getElem?_eq_getElem (by omega)]; rfl
      have hm1 : 0 ≤ x.getD (n - 1) 0 := by rw [hp]; exact hx _ (List.getElem_mem (by omega))
      unfold stepM
      simp only
      by_cases g : x.getD n 0 = x.getD (n - 1) 0
      · rw [if_pos g, if_pos g, g]; simp
      · rw [if_neg g, if_neg g, if_pos hm1]; push_cast; rw [Int.add_assoc]
theorem stepM_all (a : Int) (x : List Int) (hx : ∀ c ∈ x, 0 ≤ c) (h0 : 0 < x.length) : (x.foldl stepM (a, -1)).1 = a + chg x x.length := by
  have := stepM_fold a x hx x.length (by omega) (by omega)
  rw [List.take_length] at this
  rw [this]

end Go.Proofs.Ytbfhphobnngeaaa.Pure

-- Qcmpint
namespace Go.Proofs.Ytbfhphobnngeaaa.Pure
open Go Go.RowKit Go.Proofs Go.Proofs.Ytbfhphobnngeaaa.X Go.Proofs.YtbfhphobnngeaaaW.PrintWords Go.Proofs.YtbfhphobnngeaaaW.PrintLast
set_option linter.unusedVariables false
set_option linter.unusedSimpArgs false

def cmpI (a b : Int) : Int := if a < b then -1 else if a > b then 1 else 0
theorem cmpI_eq (a b : Int) : cmp_Compare_int.f a b = some (cmpI a b) := by
  simp only [cmp_Compare_int.f, cmp_isNaN_int.f, bne_self_eq_false, Option.bind_some, Bool.false_eq_true, if_false, cmpI]
  (repeat' split) <;> rfl

end Go.Proofs.Ytbfhphobnngeaaa.Pure

-- Qidxall
namespace Go.Proofs.Ytbfhphobnngeaaa.Pure
open Go Go.RowKit Go.Proofs Go.Proofs.YtbfhphobnngeaaaW.PrintWords Go.Proofs.YtbfhphobnngeaaaW.PrintLast
set_option linter.unusedVariables false
set_option linter.unusedSimpArgs false

/-- q at all numbers from i on, n of them -/
def allR (q : Nat → Bool) (i n : Nat) : Bool := (List.range' i n).all q
theorem allR_iff {q : Nat → Bool} {i n : Nat} : allR q i n = true ↔ ∀ j, i ≤ j → j < i + n → q j = true := by
  unfold allR
  rw [List.all_eq_true]
  exact ⟨fun h j h1 h2 => h j (List.mem_range'_1.mpr ⟨h1, h2⟩), fun h j hj => h j (List.mem_range'_1.mp hj).1 (List.mem_range'_1.mp hj).2⟩
theorem allR_succ (q : Nat → Bool) (i n : Nat) : allR q i (n + 1) = (q i && allR q (i + 1) n) := by
  unfold allR; rw [List.range'_succ, List.all_cons]
/-- A loop that asks of all numbers, from i on. -/
theorem idx_loop (L : Nat → Int → Option Bool) (q : Nat → Bool) (i0 n0 : Nat) (e : Bool) (hb : n0 ≤ 9223372036854775806)
    (hs : ∀ k (i : Nat), i0 ≤ i → i < n0 → L (k + 1) i = if q i = true then L k (wrap64 ((i : Int) + 1)) else some false) (he : ∀ k (i : Nat), n0 ≤ i → L (k + 1) i = some e) :
    ∀ n k (i : Nat), i0 ≤ i → i + n = n0 → n < k → L k i = some (allR q i n && e) := by
  intro n
  induction n with
  | zero =>
    intro k i h0 hi hk
    obtain ⟨k, rfl, _⟩ := succ_of hk
    rw [he k i (by omega)]; simp [allR]
  | succ n ih =>
    intro k i h0 hi hk
    obtain ⟨k, rfl, hk⟩ := succ_of hk
    rw [hs k i h0 (by omega), wstep (show i < n0 by omega) (by omega), allR_succ, ih k (i + 1) (by omega) (by omega) (by omega)]
    cases q i <;> simp
theorem all_getD {α : Type} {p : α → Bool} {l : List α} (d : α) : l.all p = true ↔ ∀ j, j < l.length → p (l.getD j d) = true := by
  rw [List.all_eq_true]
  constructor
  · intro h j hj
    rw [List.getD_eq_getElem?_getD, List.getElem?_eq_getElem hj]
    exact h _ (List.getElem_mem hj)
  · intro h x hx
    obtain ⟨j, hj, rfl⟩ := List.mem_iff_getElem.mp hx
    have := h j hj
    rwa [List.getD_eq_getElem?_getD, List.getElem?_eq_getElem hj] at this
/-- A loop that adds up. -/
theorem sum_loop {α β : Type} (L : Nat → Int → Int → Option β) (v : α → Int) (r : Int → Option β) (d : α) (B : Int) (l : List α) (hb : l.length ≤ 9223372036854775806) (hv : ∀ x ∈ l, 0 ≤ v x ∧ v x ≤ B)
    (hs : ∀ k (acc : Int) (i : Nat), i < l.length → 0 ≤ acc → acc ≤ B * i → L (k + 1) acc i = L k (acc + v (l.getD i d)) (wrap64 ((i : Int) + 1)))
    (he : ∀ k (acc : Int) (i : Nat), l.length ≤ i → L (k + 1) acc i = r acc) :
    ∀ n k (acc : Int) (i : Nat), i + n = l.length → n < k → 0 ≤ acc → acc ≤ B * i → L k acc i = r (acc + ((l.drop i).map v).sum) := by
  intro n
  induction n with
  | zero =>
    intro k acc i hi hk h0 h1
    obtain ⟨k, rfl, _⟩ := succ_of hk
    rw [he k acc i (by omega), List.drop_eq_nil_of_le (by omega)]; simp
  | succ n ih =>
    intro k acc i hi hk h0 h1
    obtain ⟨k, rfl, hk⟩ := succ_of hk
    have hlt : i < l.length := by omega
    have hm : l.getD i d ∈ l := by rw [List.getD_eq_getElem?_getD, List.getElem?_eq_getElem hlt]; exact List.getElem_mem hlt
    have := hv _ hm
    rw [hs k acc i hlt h0 h1, wstep hlt (by omega), drop_step hlt d, List.map_cons, List.sum_cons]
    have hB : B * ((i + 1 : Nat) : Int) = B * i + B := by push_cast; rw [Int.mul_add, Int.mul_one]
    rw [ih k _ (i + 1) (by omega) (by omega) (by omega) (by omega), Int.add_assoc]
/-- The same, where the end leans on all that was asked, and needs fuel of its own. -/
theorem idx_loop2 (L : Nat → Int → Option Bool) (q : Nat → Bool) (i0 n0 m0 : Nat) (e : Bool) (hb : n0 ≤ 9223372036854775806)
    (hs : ∀ k (i : Nat), i0 ≤ i → i < n0 → m0 ≤ k → L (k + 1) i = if q i = true then L k (wrap64 ((i : Int) + 1)) else some false) (he : (∀ j, i0 ≤ j → j < n0 → q j = true) → ∀ k, m0 ≤ k → L (k + 1) (n0 : Int) = some e) :
    ∀ n k (i : Nat), i0 ≤ i → i + n = n0 → n + m0 < k → (∀ j, i0 ≤ j → j < i → q j = true) → L k i = some (allR q i n && e) := by
  intro n
  induction n with
  | zero =>
    intro k i h0 hi hk hq
    obtain ⟨k, rfl, _⟩ := succ_of (show 0 < k by omega)
    obtain rfl : i = n0 := by omega
    rw [he hq k (by omega)]; simp [allR]
  | succ n ih =>
    intro k i h0 hi hk hq
    obtain ⟨k, rfl, hk'⟩ := succ_of (show 0 < k by omega)
    rw [hs k i h0 (by omega) (by omega), wstep (show i < n0 by omega) (by omega), allR_succ]
    cases hc : q i
    · simp
    · rw [if_pos rfl, ih k (i + 1) (by omega) (by omega) (by omega) (fun j h1 h2 => by
        by_cases hj : j = i
        · rw [hj]; exact hc
        · exact hq j h1 (by omega)), Bool.true_and]

end Go.Proofs.Ytbfhphobnngeaaa.Pure

-- Qholes
namespace Go.Proofs.Ytbfhphobnngeaaa.Pure
open Go Go.RowKit Go.Proofs Go.Proofs.Ytbfhphobnngeaaa.X Go.Proofs.YtbfhphobnngeaaaW.PrintWords Go.Proofs.YtbfhphobnngeaaaW.PrintLast
set_option linter.unusedVariables false
set_option linter.unusedSimpArgs false

def meetsB (x y : S39) : Bool := decide (x.f0 ≤ y.f2) && (decide (y.f0 ≤ x.f2) && (decide (x.f1 ≤ y.f3) && decide (y.f1 ≤ x.f3)))
theorem meetsB_comm (x y : S39) : meetsB x y = meetsB y x := by
  unfold meetsB
  rw [Bool.eq_iff_iff]; simp only [Bool.and_eq_true, decide_eq_true_eq]; omega
/-- hm, wm: the last row and column -/
def holeB (hm wm : Int) (x : S39) : Bool := decide (0 ≤ x.f2 ∧ x.f2 ≤ hm) && (decide (0 ≤ x.f0 ∧ x.f0 ≤ x.f2) && (decide (0 ≤ x.f3 ∧ x.f3 ≤ wm) && decide (0 ≤ x.f1 ∧ x.f1 ≤ x.f3)))
def ordB (x y : S39) : Bool := decide (x.f0 < y.f0) || (decide (x.f0 = y.f0) && decide (x.f1 < y.f1))
def freeB (l : List S39) (j : Nat) : Bool := allR (fun i => !meetsB (l.getD i z39) (l.getD j z39)) 0 j
def ordAt (l : List S39) (j : Nat) : Bool := decide (j = 0) || ordB (l.getD (j - 1) z39) (l.getD j z39)
def holeQ (hm wm : Int) (l : List S39) (j : Nat) : Bool := holeB hm wm (l.getD j z39) && (ordAt l j && freeB l j)
def holesB (w h : Int) (l : List Int) (hl : List S39) : Bool := chartB w h l && (decide (hl.length ≤ 8) && allR (holeQ (h - 1) (w - 1) hl) 0 hl.length)
theorem meetS_eq (x y : S39) : spec_l23Meet.f x.f0 x.f1 x.f2 x.f3 y.f0 y.f1 y.f2 y.f3 = some (meetsB x y) := by
  unfold spec_l23Meet.f meetsB
  by_cases h1 : x.f0 ≤ y.f2 <;> by_cases h2 : y.f0 ≤ x.f2 <;> by_cases h3 : x.f1 ≤ y.f3 <;> simp [h1, h2, h3]
theorem meetI_eq (x y : S39) : impl_Hole_meets.f x.f0 x.f1 x.f2 x.f3 y.f0 y.f1 y.f2 y.f3 = some (meetsB x y) := by
  unfold impl_Hole_meets.f meetsB
  by_cases h1 : x.f0 ≤ y.f2 <;> by_cases h2 : y.f0 ≤ x.f2 <;> by_cases h3 : x.f1 ≤ y.f3 <;> simp [h1, h2, h3]
theorem freeS_loop {w h : Int} {l : List Int} {hl : List S39} {i : Nat} (hi : i < hl.length) (hb : hl.length ≤ 1048576) (c : S39) :
    ∀ (m k j : Nat), j + m = i → spec_l23Good.l1 (k + m + 1) hl (i : Int) (j : Int) w h l c.f0 c.f1 c.f2 c.f3 = if allR (fun j => !meetsB (hl.getD j z39) c) j m = true then spec_l23Good.l0 k hl (wrap64 ((i : Int) + 1)) w h l else some false := by
  intro m
  induction m with
  | zero =>
    intro k j hj
    rw [spec_l23Good.l1, if_neg (by omega)]
    simp [allR]
  | succ m ih =>
    intro k j hj
    show spec_l23Good.l1 ((k + m + 1) + 1) hl (i : Int) (j : Int) w h l c.f0 c.f1 c.f2 c.f3 = _
    rw [spec_l23Good.l1, if_pos (by omega), if_pos (by omega), if_pos (by omega), rdIHole_nat, meetS_eq]
    simp only [Option.bind_some]
    rw [allR_succ, wstep (n := hl.length) (by omega) (by omega), ih k (j + 1) (by omega)]
    cases meetsB (hl.getD j z39) c <;> simp
theorem holesS_loop {w h : Int} {l : List Int} {hl : List S39} (hl0 : l.length ≤ 1048576) (hb : hl.length ≤ 1048576) :
    ∀ (n k i : Nat), i + n = hl.length → (n + 1) * (hl.length + l.length + 10) < k → spec_l23Good.l0 k hl (i : Int) w h l = some (allR (holeQ (wrap64 (h - 1)) (wrap64 (w - 1)) hl) i n && (chartB w h l && decide (hl.length ≤ 8))) := by
  intro n
  induction n with
  | zero =>
    intro k i hi hk
    obtain ⟨k, rfl, hk'⟩ := succ_of (show 0 < k by omega)
    rw [spec_l23Good.l0, if_neg (by omega), l2Good_eq (by omega) hl0]
    simp only [Option.bind_some]
    have e1 : decide ((hl.length : Int) ≤ 8) = decide (hl.length ≤ 8) := by
      congr 1; exact propext ⟨fun h => by omega, fun h => by omega⟩
    rw [e1]
    cases chartB w h l <;> simp [allR]
  | succ n ih =>
    intro k i hi hk
    have hc : (n + 1 + 1) * (hl.length + l.length + 10) = (n + 1) * (hl.length + l.length + 10) + (hl.length + l.length + 10) := Nat.succ_mul _ _
    obtain ⟨k, rfl⟩ : ∃ k2, k = k2 + i + 1 + 1 + 1 + 1 := ⟨k - i - 4, by omega⟩
    have hlt : i < hl.length := by omega
    rw [spec_l23Good.l0, if_pos (by omega), if_pos (by omega)]
    simp only [l1In_eq, Option.bind_some, rdIHole_nat]
    rw [allR_succ]
    have hq : holeQ (wrap64 (h - 1)) (wrap64 (w - 1)) hl i = (decide (0 ≤ (hl.getD i z39).f2 ∧ (hl.getD i z39).f2 ≤ wrap64 (h - 1)) && (decide (0 ≤ (hl.getD i z39).f0 ∧ (hl.getD i z39).f0 ≤ (hl.getD i z39).f2) && (decide (0 ≤ (hl.getD i z39).f3 ∧ (hl.getD i z39).f3 ≤ wrap64 (w - 1)) && decide (0 ≤ (hl.getD i z39).f1 ∧ (hl.getD i z39).f1 ≤ (hl.getD i z39).f3))) && (ordAt hl i && freeB hl i)) := rfl
    obtain ⟨p1, e1⟩ : ∃ p, decide (0 ≤ (hl.getD i z39).f2 ∧ (hl.getD i z39).f2 ≤ wrap64 (h - 1)) = p := ⟨_, rfl⟩
    obtain ⟨p2, e2⟩ : ∃ p, decide (0 ≤ (hl.getD i z39).f0 ∧ (hl.getD i z39).f0 ≤ (hl.getD i z39).f2) = p := ⟨_, rfl⟩
    obtain ⟨p3, e3⟩ : ∃ p, decide (0 ≤ (hl.getD i z39).f3 ∧ (hl.getD i z39).f3 ≤ wrap64 (w - 1)) = p := ⟨_, rfl⟩
    obtain ⟨p4, e4⟩ : ∃ p, decide (0 ≤ (hl.getD i z39).f1 ∧ (hl.getD i z39).f1 ≤ (hl.getD i z39).f3) = p := ⟨_, rfl⟩
    rw [hq, e1, e2, e3, e4]
    clear hq e1 e2 e3 e4
    have dead : ∀ k, spec_l23Good.j1 (k + 1) hl (i : Int) true w h l (hl.getD i z39).f0 (hl.getD i z39).f1 (hl.getD i z39).f2 (hl.getD i z39).f3 = some false := fun k => by rw [spec_l23Good.j1]; simp
    cases p1
    · simp only [Bool.false_eq_true, if_false, if_true, Bool.not_false, dead, Bool.false_and, Bool.true_and]
    cases p2
    · simp only [Bool.false_eq_true, if_false, if_true, Bool.not_false, dead, Bool.false_and, Bool.true_and]
    cases p3
    · simp only [Bool.false_eq_true, if_false, if_true, Bool.not_false, dead, Bool.false_and, Bool.true_and]
    cases p4
    · simp only [Bool.false_eq_true, if_false, if_true, Bool.not_false, dead, Bool.false_and, Bool.true_and]
    simp only [if_true, Bool.not_true, Bool.true_and]
    rw [spec_l23Good.j1, if_neg (by simp)]
    have live : spec_l23Good.j2 (k + i + 1 + 1) hl (i : Int) false w h l (hl.getD i z39).f0 (hl.getD i z39).f1 (hl.getD i z39).f2 (hl.getD i z39).f3 = some (freeB hl i && (allR (holeQ (wrap64 (h - 1)) (wrap64 (w - 1)) hl) (i + 1) n && (chartB w h l && decide (hl.length ≤ 8)))) := by
      rw [spec_l23Good.j2, if_neg (by simp)]
      have := freeS_loop (w := w) (h := h) (l := l) hlt hb (hl.getD i z39) i k 0 (by omega)
      rw [show ((0 : Nat) : Int) = 0 from rfl] at this
      rw [this]
      show (if freeB hl i = true then _ else _) = _
      rw [wstep hlt (by omega), ih k (i + 1) (by omega) (by omega)]
      cases freeB hl i <;> simp
    have gone : spec_l23Good.j2 (k + i + 1 + 1) hl (i : Int) true w h l (hl.getD i z39).f0 (hl.getD i z39).f1 (hl.getD i z39).f2 (hl.getD i z39).f3 = some false := by rw [spec_l23Good.j2]; simp
    by_cases hi0 : i = 0
    · rw [if_neg (by omega), live]
      have ho : ordAt hl i = true := by unfold ordAt; rw [decide_eq_true hi0, Bool.true_or]
      rw [ho]
      cases freeB hl i <;> simp
    · rw [if_pos (by omega), w64 (x := (i : Int) - 1) (by omega) (by omega), if_pos (by omega), if_pos (by omega), show (i : Int) - 1 = ((i - 1 : Nat) : Int) by omega, rdIHole_nat]
      have ho : ordAt hl i = ordB (hl.getD (i - 1) z39) (hl.getD i z39) := by unfold ordAt; rw [decide_eq_false hi0, Bool.false_or]
      rw [ho]
      unfold ordB
      by_cases g1 : (hl.getD (i - 1) z39).f0 > (hl.getD i z39).f0
      · rw [if_pos g1, gone, decide_eq_false (show ¬ (hl.getD (i - 1) z39).f0 < (hl.getD i z39).f0 by omega), decide_eq_false (show ¬ (hl.getD (i - 1) z39).f0 = (hl.getD i z39).f0 by omega)]; simp
      · rw [if_neg g1]
        by_cases g2 : (hl.getD (i - 1) z39).f0 = (hl.getD i z39).f0
        · rw [if_pos g2, decide_eq_true g2, decide_eq_false (show ¬ (hl.getD (i - 1) z39).f0 < (hl.getD i z39).f0 by omega)]
          by_cases g3 : (hl.getD (i - 1) z39).f1 ≥ (hl.getD i z39).f1
          · rw [decide_eq_true g3, gone, decide_eq_false (show ¬ (hl.getD (i - 1) z39).f1 < (hl.getD i z39).f1 by omega)]; simp
          · rw [decide_eq_false g3, live, decide_eq_true (show (hl.getD (i - 1) z39).f1 < (hl.getD i z39).f1 by omega)]; simp [Bool.and_assoc]
        · rw [if_neg g2, live, decide_eq_true (show (hl.getD (i - 1) z39).f0 < (hl.getD i z39).f0 by omega)]; simp [Bool.and_assoc]
theorem holesS_eq {k : Nat} {w h : Int} {l : List Int} {hl : List S39} (hk : (hl.length + 1) * (hl.length + l.length + 10) < k) (hl0 : l.length ≤ 1048576) (hb : hl.length ≤ 1048576) : spec_l23Good.f k w h l hl = some (holesB w h l hl) := by
  unfold spec_l23Good.f
  have := holesS_loop (w := w) (h := h) (l := l) (hl := hl) hl0 hb hl.length k 0 (by omega) hk
  refine (this.trans (congrArg some ?_))
  unfold holesB
  cases hc : chartB w h l
  · simp
  have hx := chart_of hc
  rw [w64 (x := h - 1) (by omega) (by omega), w64 (x := w - 1) (by omega) (by omega), Bool.true_and, Bool.true_and, Bool.and_comm]
theorem isHole_eq {w h : Int} {l : List Int} (hc : chartB w h l = true) (x : S39) : impl_Chart_isHole.f w h l x.f0 x.f1 x.f2 x.f3 = some (holeB (h - 1) (w - 1) x) := by
  have := chart_of hc
  simp only [impl_Chart_isHole.f, impl_Chart_hasPlace.f, in_eq, Option.bind_some]
  rw [w64 (x := h - 1) (by omega) (by omega), w64 (x := w - 1) (by omega) (by omega)]
  unfold holeB
  by_cases g1 : 0 ≤ x.f0 ∧ x.f0 ≤ h - 1 <;> by_cases g2 : 0 ≤ x.f1 ∧ x.f1 ≤ w - 1 <;> by_cases g3 : 0 ≤ x.f2 ∧ x.f2 ≤ h - 1 <;> by_cases g4 : 0 ≤ x.f3 ∧ x.f3 ≤ w - 1 <;> by_cases g5 : x.f0 ≤ x.f2 <;> by_cases g6 : x.f1 ≤ x.f3 <;> simp [g1, g2, g3, g4, g5, g6] <;> omega
theorem or2_eq (k : Nat) (a b : Int) : cmp_Or_int.f (k + 3) [a, b] = some (if a = 0 then b else a) := by
  have e1 : wrap64 (0 + 1) = 1 := w64 (by omega) (by omega)
  have e2 : wrap64 (1 + 1) = 2 := w64 (by omega) (by omega)
  have r0 : rd [a, b] 0 = a := rfl
  have r1 : rd [a, b] 1 = b := rfl
  have hl : (([a, b] : List Int).length : Int) = 2 := rfl
  simp only [cmp_Or_int.f, cmp_Or_int.l0, hl, e1, e2, r0, r1]
  by_cases h1 : a = 0 <;> by_cases h2 : b = 0 <;> simp [h1, h2]
theorem compareH_eq {k : Nat} (hk : 3 ≤ k) (x y : S39) : ∃ c, impl_Hole_compare.f k x.f0 x.f1 x.f2 x.f3 y.f0 y.f1 y.f2 y.f3 = some c ∧ (c ≥ 0 ↔ ordB x y = false) := by
  obtain ⟨k, rfl⟩ : ∃ m, k = m + 3 := ⟨k - 3, by omega⟩
  simp only [impl_Hole_compare.f, cmpI_eq, Option.bind_some, or2_eq]
  refine ⟨_, rfl, ?_⟩
  unfold ordB cmpI
  (repeat' split) <;> simp at * <;> omega
theorem freeI_eq {l : List S39} {i : Nat} (hi : i < l.length) : impl_Hole__impl_Hole_meets.f (l.take i) (l.getD i z39).f0 (l.getD i z39).f1 (l.getD i z39).f2 (l.getD i z39).f3 = some (!freeB l i) := by
  unfold impl_Hole__impl_Hole_meets.f
  rw [Ho.hasO_eq (q := fun x => meetsB (l.getD i z39) x) (fun x _ => meetI_eq _ _)]
  congr 1
  have hlen : (l.take i).length = i := by rw [List.length_take]; omega
  have e : freeB l i = (l.take i).all (fun x => !meetsB (l.getD i z39) x) := by
    unfold freeB
    rw [Bool.eq_iff_iff, allR_iff, all_getD z39]
    have hg : ∀ j, j < i → (l.take i).getD j z39 = l.getD j z39 := by
      intro j hj
      rw [List.getD_eq_getElem?_getD, List.getElem?_take_of_lt hj, ← List.getD_eq_getElem?_getD]
    constructor
    · intro h j hj
      rw [hg j (by omega), meetsB_comm]; exact h j (by omega) (by omega)
    · intro h j _ hj
      have := h j (by omega)
      rw [hg j (by omega), meetsB_comm] at this; exact this
  rw [e, List.not_all_eq_any_not]
  simp

end Go.Proofs.Ytbfhphobnngeaaa.Pure

-- QholesI
namespace Go.Proofs.Ytbfhphobnngeaaa.Pure
open Go Go.RowKit Go.Proofs Go.Proofs.Ytbfhphobnngeaaa.X Go.Proofs.YtbfhphobnngeaaaW.PrintWords Go.Proofs.YtbfhphobnngeaaaW.PrintLast
set_option linter.unusedVariables false
set_option linter.unusedSimpArgs false

theorem AreHoles_eq {k : Nat} {w h : Int} {l : List Int} {hl : List S39} (hk : hl.length + 10 < k) (hb : hl.length ≤ 1048576) : impl_AreHoles.f k w h l hl = some (holesB w h l hl) := by
  obtain ⟨k, rfl, hk2⟩ := succ_of hk
  simp only [impl_AreHoles.f, impl_AreHoles.j0, IsChart_eq, Option.bind_some, holesB]
  cases hc : chartB w h l
  · simp
  by_cases h8 : (8 : Int) < hl.length
  · simp [show ¬ hl.length ≤ 8 by omega, h8]
  rw [if_pos rfl, if_neg (by omega)]
  simp only [impl_Hole__impl_Chart_isHole.f]
  rw [Ho.allO_eq (q := holeB (h - 1) (w - 1)) (fun x _ => isHole_eq hc x)]
  simp only [Option.bind_some, show decide (hl.length ≤ 8) = true by simp; omega, Bool.true_and]
  have hsplit : allR (holeQ (h - 1) (w - 1) hl) 0 hl.length = (hl.all (holeB (h - 1) (w - 1)) && allR (fun j => ordAt hl j && freeB hl j) 0 hl.length) := by
    rw [Bool.eq_iff_iff, Bool.and_eq_true, allR_iff, allR_iff, all_getD z39]
    constructor
    · intro hq
      refine ⟨fun j hj => ?_, fun j _ hj => ?_⟩
      · have := hq j (by omega) (by omega)
        unfold holeQ at this; rw [Bool.and_eq_true] at this; exact this.1
      · have := hq j (by omega) hj
        unfold holeQ at this; rw [Bool.and_eq_true] at this; exact this.2
    · intro hq j h1 h2
      unfold holeQ; rw [Bool.and_eq_true]
      exact ⟨hq.1 j (by omega), hq.2 j h1 h2⟩
  rw [hsplit]
  cases hl.all (holeB (h - 1) (w - 1))
  · simp
  simp only [Bool.not_true, Bool.false_eq_true, if_false, Bool.true_and]
  have hx := idx_loop2 (fun k i => impl_AreHoles.l0 k hl hl (hl.length : Int) i) (fun j => ordAt hl j && freeB hl j) 0 hl.length 4 true (by omega)
    (fun k i _ h1 h2 => by
      simp only [impl_AreHoles.l0, Int.toNat_natCast, rdIHole_nat]
      rw [if_pos (by omega), if_pos (by omega), if_pos (by omega)]
      by_cases hi : i = 0
      · rw [if_neg (by omega), if_pos (by omega), freeI_eq h1]
        simp only [Option.bind_some]
        have ho : ordAt hl i = true := by unfold ordAt; rw [decide_eq_true hi, Bool.true_or]
        rw [ho]
        cases freeB hl i <;> simp
      · have ho : ordAt hl i = ordB (hl.getD (i - 1) z39) (hl.getD i z39) := by unfold ordAt; rw [decide_eq_false hi, Bool.false_or]
        rw [if_pos (by omega), w64 (x := (i : Int) - 1) (by omega) (by omega), if_pos (by omega), if_pos (by omega), show (i : Int) - 1 = ((i - 1 : Nat) : Int) by omega, rdIHole_nat]
        obtain ⟨c, e, hcmp⟩ := compareH_eq (k := k) (by omega) (hl.getD (i - 1) z39) (hl.getD i z39)
        rw [e]
        simp only [Option.bind_some]
        rw [ho]
        cases hb2 : ordB (hl.getD (i - 1) z39) (hl.getD i z39)
        · rw [if_pos (hcmp.mpr hb2)]; simp
        · rw [if_neg (fun g => by have := hcmp.mp g; rw [hb2] at this; simp at this), if_pos (by omega), freeI_eq h1]
          simp only [Option.bind_some]
          cases freeB hl i <;> simp)
    (fun hq k hk => by simp only [impl_AreHoles.l0]; rw [if_neg (by omega)])
    hl.length k 0 (by omega) (by omega) (by omega) (fun j h1 h2 => by omega)
  simpa using hx

end Go.Proofs.Ytbfhphobnngeaaa.Pure

-- XspecKnotsLostF18
namespace Go.Proofs.Ytbfhphobnngeaaa.X
open Ho (bS eS)
open Go.RowKit Go.Proofs.YtbfhphobnngeaaaW.PrintWords Go.Proofs.YtbfhphobnngeaaaW.PrintLast Go.Proofs.YtbfhphobnngeaaaW.PrintMore
attribute [local go_sem] max2_int min2_int max_two min_two max_three min_three max_four min_four   -- for this text's walks alone
set_option linter.unusedVariables false
set_option linter.unusedSimpArgs false

attribute [local go_sem ↓] Ho.isSome_setCell_   -- a store leaves all places there
/-! ### spec_KnotsLost: function 18 -/
def spec_KnotsLost.l0 : Nat → List (S39) → Int → Int → Option (Int × Bool)
  | 0, _, _, _ => none
  | k + 1, x1, x6, x7 => if x7 < (x1.length : Int) then (if 0 ≤ x7 then ((spec_l23Knots.f ((rd_T39 x1 x7).f0) ((rd_T39 x1 x7).f1) ((rd_T39 x1 x7).f2) ((rd_T39 x1 x7).f3)).bind fun t104 => (spec_KnotsLost.l0 k x1 (wrap64 (x6 + t104)) (wrap64 (x7 + 1)))) else (none)) else (some (x6, true))
def spec_KnotsLost.f (k : Nat) (a0_0 : Int) (a0_1 : Int) (l0_2 : List Int) (l1 : List (S39)) : Option (Int × Bool) := (spec_l23Good.f k a0_0 a0_1 l0_2 l1).bind fun t102 => (if t102 = true then (spec_KnotsLost.l0 k l1 0 0) else (some (0, false)))
theorem spec_KnotsLost.mono_l : ∀ k, (∀ y0 y1 y2, LeO (spec_KnotsLost.l0 k y0 y1 y2) (spec_KnotsLost.l0 (k + 1) y0 y1 y2))
  | 0 => fun _ _ _ r h => by simp [spec_KnotsLost.l0] at h
  | k + 1 => by
    have ih0 := spec_KnotsLost.mono_l k
    · intro y0 y1 y2
      unfold spec_KnotsLost.l0
      repeat' first
      | (with_reducible exact ih0 _ _ _)
      | (with_reducible exact spec_l23Good.mono _ _ _ _ _)
      | (with_reducible exact LeO.refl _)
      | (with_reducible exact LeO.none _)
      | (with_reducible refine LeO.ite ?_ ?_)
      | (with_reducible refine LeO.bind ?_ (fun _ => ?_))
      | exact ih0 _ _ _
      | exact spec_l23Good.mono _ _ _ _ _
      | exact LeO.none _
      | refine LeO.ite ?_ ?_
      | refine LeO.bind ?_ (fun _ => ?_)
theorem spec_KnotsLost.mono : ∀ a0 a1 a2 a3 k, LeO (spec_KnotsLost.f k a0 a1 a2 a3) (spec_KnotsLost.f (k + 1) a0 a1 a2 a3) := by
  intro a0 a1 a2 a3 k
  have ih0 := spec_KnotsLost.mono_l k
  unfold spec_KnotsLost.f
  repeat' first
      | (with_reducible exact ih0 _ _ _)
      | (with_reducible exact spec_l23Good.mono _ _ _ _ _)
      | (with_reducible exact LeO.refl _)
      | (with_reducible exact LeO.none _)
      | (with_reducible refine LeO.ite ?_ ?_)
      | (with_reducible refine LeO.bind ?_ (fun _ => ?_))
      | exact ih0 _ _ _
      | exact spec_l23Good.mono _ _ _ _ _
      | exact LeO.none _
      | refine LeO.ite ?_ ?_
      | refine LeO.bind ?_ (fun _ => ?_)
set_option maxHeartbeats 8000000 in
set_option maxRecDepth 100000 in
theorem spec_KnotsLost.calls (k : Nat) (a0_0 : Int) (a0_1 : Int) (A0_2 : Option Addr) (c0_2 : Nat) (l0_2 : List Int) (A1 : Option Addr) (c1 : Nat) (l1 : List (S39)) (r1 : Int) (r2 : Bool) (w : World) (hr0_2 : Kd.C (Kd.int .i64) w A0_2 l0_2.length l0_2) (hc0_2 : l0_2.length ≤ c0_2) (hr1 : Kd.C k39 w A1 l1.length l1) (hc1 : l1.length ≤ c1) (h : spec_KnotsLost.f k a0_0 a0_1 l0_2 l1 = some (r1, r2)) :
    Calls Try.prog 18 #[.agg #[.int .i64 a0_0, .int .i64 a0_1, .slice A0_2 l0_2.length c0_2], .slice A1 l1.length c1] w fun e w' => e = .returned (.tuple #[.int .i64 r1, .bool r2]) ∧ Below w.heap.size w w' := by
  have hu29 := Try.underlying29
  have hu39 := Try.underlying39
  have HR0_2 := Aside0.mk hr0_2
  have HC0_2 := Aside0.mk hc0_2
  clear hr0_2 hc0_2
  have HR1 := Aside0.mk hr1
  have HC1 := Aside0.mk hc1
  clear hr1 hc1
  have HB := Aside0.mk (Below.refl w.heap.size w)
  have H : ((spec_l23Good.f k a0_0 a0_1 l0_2 l1).bind fun t102 => (if t102 = true then (spec_KnotsLost.l0 k l1 0 0) else (some (0, false)))) = some (r1, r2) := h
  clear h
  replace H := Option.bind_eq_some_iff.mp H
  obtain ⟨t102, A30, H⟩ := H
  replace H : (if t102 = true then (spec_KnotsLost.l0 k l1 0 0) else (some (0, false))) = some (r1, r2) := H
  have A3 := Aside0.mk A30
  clear A30
  by_cases c4 : t102 = true
  · subst c4
    have H1 : (spec_KnotsLost.l0 k l1 0 0) = some (r1, r2) := by rw [if_pos rfl] at H; exact H
    clear H
    have H := H1
    clear H1
    have H' := Aside0.mk H
    clear H
    go_enter Try.func18, Try.ntmps18
    go_wp2_with (first | ((with_reducible refine gate_dst (N := 2) rfl ?_); refine box_event ?hg (N := 2) ?hd (cs := #[.int .i64 a0_0, .int .i64 a0_1, .slice A0_2 l0_2.length c0_2]) (t := 29) ?hr ?_; (case hd => rfl); (case hg => rfl); (case hr => first | (go_simp; done) | (go_simp; rfl)); intro gb101 hg w5 hbox hb; have n0_ := Aside0.mk (below_step (by exact eS HB.out) hb); have n1_ := Aside0.mk (hbox); have n2_ := Aside0.mk ((by rw [hg]; exact (below_size (by exact eS HB.out)) : w.heap.size ≤ gb101)); have n3_ := Aside0.mk ((by rw [hg]; exact (below_size (by exact eS HB.out)) : w.heap.size ≤ gb101)); clear HB; have HB := n0_; have BK101 := n1_; have GW101 := n2_; have GE101 := n3_; clear n0_ n1_ n2_ n3_; clear hb hbox hg; have hcz6_0 : w5.cell? ⟨gb101, 0, none⟩ = some (.int .i64 a0_0) := (blk_cell BK101.out 0).trans rfl; have hcz6_1 : w5.cell? ⟨gb101, 1, none⟩ = some (.int .i64 a0_1) := (blk_cell BK101.out 1).trans rfl; have hcz6_2 : w5.cell? ⟨gb101, 2, none⟩ = some (.slice A0_2 l0_2.length c0_2) := (blk_cell BK101.out 2).trans rfl; have hfz6_0 := blk_frozen BK101.out 0; have hfz6_1 := blk_frozen BK101.out 1; have hfz6_2 := blk_frozen BK101.out 2) | ((with_reducible refine gate_callee (f := 48) rfl ?_); refine goesL_ (some 10) rfl rfl Try.func48 (by kernel_rfl) rfl #[.agg #[.int .i64 a0_0, .int .i64 a0_1, .slice A0_2 l0_2.length c0_2], .slice A1 l1.length c1] rfl (by (try simp only [List.map_toArray, List.map_cons, List.map_nil]); first | done | rfl | (simp only [List.length_drop, List.length_take]; rfl)) ?_; (with_reducible refine (spec_l23Good.calls k a0_0 a0_1 _ _ l0_2 _ _ l1 true _ ?side1 ?side2 ?side3 ?side4 A3.out).mono ?_); (case side1 => repeat (first | exact (Kd.C_below HR0_2.out HB.out) | (with_reducible refine Kd.C_alloc ?_ _) | (with_reducible refine Kd.C_drewN ?_ _) | (with_reducible refine Kd.C_drew ?_))); (case side2 => exact HC0_2.out); (case side3 => repeat (first | exact (Kd.C_below HR1.out HB.out) | (with_reducible refine Kd.C_alloc ?_ _) | (with_reducible refine Kd.C_drewN ?_ _) | (with_reducible refine Kd.C_drew ?_))); (case side4 => exact HC1.out); rintro e w7 ⟨rfl, hb⟩; refine ⟨_, rfl, ?_⟩; have n0_ := Aside0.mk (blk_below (bS BK101.out) hb); have n1_ := Aside0.mk (below_step (by exact eS HB.out) hb); clear BK101; clear HB; have BK101 := n0_; have HB := n1_; clear n0_ n1_; (try clear hb); (try clear hb2); (try clear hk); (try clear hi)))
    go_loopg [6, 7] k (fun kq v6 v7 w' => ∃ (x6_1 : Int) (x7_1 : Int), v6 = .int .i64 x6_1 ∧ v7 = .int .i64 x7_1 ∧ Aside0 (spec_KnotsLost.l0 kq l1 x6_1 x7_1 = some (r1, r2)) ∧ Aside0 (kq ≤ k) ∧ Aside0 (w'.heap[gb101]? = some (.cells #[.int .i64 a0_0, .int .i64 a0_1, (.slice A0_2 l0_2.length c0_2)] 29 (0, 0))) ∧ Aside0 (Below w.heap.size w w'))
    case atStart => exact ⟨(0), (0), (by first | rfl | (simp; done) | (simp [*]; done)), (by first | rfl | (simp; done) | (simp [*]; done)), H', ⟨Nat.le_refl _⟩, ⟨by exact bS BK101.out⟩, ⟨by exact eS HB.out⟩⟩
    case round =>
      clear H'
      try clear c1
      try clear p2
      try clear c4
      try clear hcz6_0
      try clear hcz6_1
      try clear hcz6_2
      try clear hfz6_0
      try clear hfz6_1
      try clear hfz6_2
      obtain ⟨x6_1, x7_1, rfl, rfl, HA, HK1, BK101, HB⟩ := hrel
      cases gk with
      | zero => exact absurd HA.out (by simp [spec_KnotsLost.l0])
      | succ k1 =>
        have H := HA.out
        clear HA
        simp only [spec_KnotsLost.l0] at H
        by_cases c8 : x7_1 < (l1.length : Int)
        · rw [if_pos c8] at H
          have c8b0 : decide (x7_1 < (l1.length : Int)) = true := decide_eq_true c8
          clear c8
          by_cases c9 : 0 ≤ x7_1
          · rw [if_pos c9] at H
            have c9b0 : decide (0 ≤ x7_1) = true := decide_eq_true c9
            clear c9
            replace H := Option.bind_eq_some_iff.mp H
            obtain ⟨t104, A100, H⟩ := H
            replace H : (spec_KnotsLost.l0 k1 l1 (wrap64 (x6_1 + t104)) (wrap64 (x7_1 + 1))) = some (r1, r2) := H
            have A10 := Aside0.mk A100
            clear A100
            have H' := Aside0.mk H
            clear H
            have p103 : 0 ≤ (x7_1 : Int) := of_decide_eq_true (by first | (with_reducible assumption) | assumption)
            have q103 : x7_1 < (l1.length : Int) := of_decide_eq_true (by first | (with_reducible assumption) | assumption)
            obtain ⟨ad103, e103, hx103_0, hx103_1, hx103_2, hx103_3⟩ := at_T39 HR1.out x7_1 p103 q103
            cases e103
            replace hx103_0 := (HB.out.cell (World.block_lt_of_cell? w _ hx103_0)).trans hx103_0
            replace hx103_1 := (HB.out.cell (World.block_lt_of_cell? w _ hx103_1)).trans hx103_1
            replace hx103_2 := (HB.out.cell (World.block_lt_of_cell? w _ hx103_2)).trans hx103_2
            replace hx103_3 := (HB.out.cell (World.block_lt_of_cell? w _ hx103_3)).trans hx103_3
            replace p103 := eq_true p103
            replace q103 := eq_true q103
            go_wp2_with (first | ((with_reducible refine gate_callee (f := 57) rfl ?_); refine goesL_ (some 23) rfl rfl Try.func57 (by kernel_rfl) rfl #[.agg #[.int .i64 ((rd_T39 l1 x7_1).f0), .int .i64 ((rd_T39 l1 x7_1).f1), .int .i64 ((rd_T39 l1 x7_1).f2), .int .i64 ((rd_T39 l1 x7_1).f3)]] rfl (by (try simp only [List.map_toArray, List.map_cons, List.map_nil]); first | done | rfl | (simp only [List.length_drop, List.length_take]; rfl)) ?_; (with_reducible refine (spec_l23Knots.calls ((rd_T39 l1 x7_1).f0) ((rd_T39 l1 x7_1).f1) ((rd_T39 l1 x7_1).f2) ((rd_T39 l1 x7_1).f3) t104 _ A10.out).mono ?_); rintro e w11 ⟨rfl, hb⟩; refine ⟨_, rfl, ?_⟩; have n0_ := Aside0.mk (blk_below (bS BK101.out) hb); have n1_ := Aside0.mk (below_step (by exact eS HB.out) hb); clear BK101; clear HB; have BK101 := n0_; have HB := n1_; clear n0_ n1_; (try clear hb); (try clear hb2); (try clear hk); (try clear hi)))
            go_roundg k1
            case measure => have := HK1.out; omega
            case rel => exact ⟨(wrap64 (x6_1 + t104)), (wrap64 (x7_1 + 1)), (by first | rfl | (simp; done) | (simp [*]; done)), (by first | rfl | (simp; done) | (simp [*]; done)), H', ⟨by have := HK1.out; omega⟩, ⟨by exact bS BK101.out⟩, ⟨by exact eS HB.out⟩⟩
          · rw [if_neg c9] at H
            exact absurd H (by simp)
        · rw [if_neg c8] at H
          have c8b0 : decide (x7_1 < (l1.length : Int)) = false := decide_eq_false c8
          clear c8
          simp only [Option.some.injEq, Prod.mk.injEq] at H
          obtain ⟨rfl, rfl⟩ := H
          go_wp2
          go_ret2
          exact ⟨by first | rfl | (simp [errW_none, errW_some] <;> rfl) | (simp [*, errW_none, errW_some] <;> rfl), by exact eS HB.out⟩
  · replace c4 := Bool.eq_false_iff.mpr c4
    subst c4
    have H1 : (some (0, false)) = some (r1, r2) := by rw [if_neg (show ¬ (false = true) by decide)] at H; exact H
    clear H
    have H := H1
    clear H1
    simp only [Option.some.injEq, Prod.mk.injEq] at H
    obtain ⟨rfl, rfl⟩ := H
    go_enter Try.func18, Try.ntmps18
    go_wp2_with (first | ((with_reducible refine gate_dst (N := 2) rfl ?_); refine box_event ?hg (N := 2) ?hd (cs := #[.int .i64 a0_0, .int .i64 a0_1, .slice A0_2 l0_2.length c0_2]) (t := 29) ?hr ?_; (case hd => rfl); (case hg => rfl); (case hr => first | (go_simp; done) | (go_simp; rfl)); intro gb101 hg w12 hbox hb; have n0_ := Aside0.mk (below_step (by exact eS HB.out) hb); have n1_ := Aside0.mk (hbox); have n2_ := Aside0.mk ((by rw [hg]; exact (below_size (by exact eS HB.out)) : w.heap.size ≤ gb101)); have n3_ := Aside0.mk ((by rw [hg]; exact (below_size (by exact eS HB.out)) : w.heap.size ≤ gb101)); clear HB; have HB := n0_; have BK101 := n1_; have GW101 := n2_; have GE101 := n3_; clear n0_ n1_ n2_ n3_; clear hb hbox hg; have hcz13_0 : w12.cell? ⟨gb101, 0, none⟩ = some (.int .i64 a0_0) := (blk_cell BK101.out 0).trans rfl; have hcz13_1 : w12.cell? ⟨gb101, 1, none⟩ = some (.int .i64 a0_1) := (blk_cell BK101.out 1).trans rfl; have hcz13_2 : w12.cell? ⟨gb101, 2, none⟩ = some (.slice A0_2 l0_2.length c0_2) := (blk_cell BK101.out 2).trans rfl; have hfz13_0 := blk_frozen BK101.out 0; have hfz13_1 := blk_frozen BK101.out 1; have hfz13_2 := blk_frozen BK101.out 2) | ((with_reducible refine gate_callee (f := 48) rfl ?_); refine goesL_ (some 10) rfl rfl Try.func48 (by kernel_rfl) rfl #[.agg #[.int .i64 a0_0, .int .i64 a0_1, .slice A0_2 l0_2.length c0_2], .slice A1 l1.length c1] rfl (by (try simp only [List.map_toArray, List.map_cons, List.map_nil]); first | done | rfl | (simp only [List.length_drop, List.length_take]; rfl)) ?_; (with_reducible refine (spec_l23Good.calls k a0_0 a0_1 _ _ l0_2 _ _ l1 false _ ?side1 ?side2 ?side3 ?side4 A3.out).mono ?_); (case side1 => repeat (first | exact (Kd.C_below HR0_2.out HB.out) | (with_reducible refine Kd.C_alloc ?_ _) | (with_reducible refine Kd.C_drewN ?_ _) | (with_reducible refine Kd.C_drew ?_))); (case side2 => exact HC0_2.out); (case side3 => repeat (first | exact (Kd.C_below HR1.out HB.out) | (with_reducible refine Kd.C_alloc ?_ _) | (with_reducible refine Kd.C_drewN ?_ _) | (with_reducible refine Kd.C_drew ?_))); (case side4 => exact HC1.out); rintro e w14 ⟨rfl, hb⟩; refine ⟨_, rfl, ?_⟩; have n0_ := Aside0.mk (blk_below (bS BK101.out) hb); have n1_ := Aside0.mk (below_step (by exact eS HB.out) hb); clear BK101; clear HB; have BK101 := n0_; have HB := n1_; clear n0_ n1_; (try clear hb); (try clear hb2); (try clear hk); (try clear hi)))
    go_ret2
    exact ⟨by first | rfl | (simp [errW_none, errW_some] <;> rfl) | (simp [*, errW_none, errW_some] <;> rfl), by exact eS HB.out⟩

end Go.Proofs.Ytbfhphobnngeaaa.X

-- Qknotslost
namespace Go.Proofs.Ytbfhphobnngeaaa.Pure
open Go Go.RowKit Go.Proofs Go.Proofs.Ytbfhphobnngeaaa.X Go.Proofs.YtbfhphobnngeaaaW.PrintWords Go.Proofs.YtbfhphobnngeaaaW.PrintLast
set_option linter.unusedVariables false
set_option linter.unusedSimpArgs false

def knotsH (x : S39) : Int := (x.f2 - x.f0 + 1) * (x.f3 - x.f1 + 1)
theorem holes_of {w h : Int} {l : List Int} {hl : List S39} (hb : holesB w h l hl = true) : chartB w h l = true ∧ hl.length ≤ 8 ∧ ∀ x ∈ hl, holeB (h - 1) (w - 1) x = true := by
  simp only [holesB, Bool.and_eq_true, decide_eq_true_eq] at hb
  refine ⟨hb.1, hb.2.1, fun x hx => ?_⟩
  have h2 := allR_iff.mp hb.2.2
  obtain ⟨j, hj, rfl⟩ := List.mem_iff_getElem.mp hx
  have := h2 j (by omega) (by omega)
  unfold holeQ at this
  rw [Bool.and_eq_true] at this
  have e : hl.getD j z39 = hl[j] := by simp [List.getD_eq_getElem?_getD, List.getElem?_eq_getElem hj]
  rw [← e]; exact this.1
theorem hole_of {a b : Int} {x : S39} (hb : holeB a b x = true) : (0 ≤ x.f2 ∧ x.f2 ≤ a) ∧ (0 ≤ x.f0 ∧ x.f0 ≤ x.f2) ∧ (0 ≤ x.f3 ∧ x.f3 ≤ b) ∧ (0 ≤ x.f1 ∧ x.f1 ≤ x.f3) := by
  simpa only [holeB, Bool.and_eq_true, decide_eq_true_eq] using hb
theorem knots_bd {w h : Int} {l : List Int} (hc : chartB w h l = true) {x : S39} (hx : holeB (h - 1) (w - 1) x = true) : 1 ≤ knotsH x ∧ knotsH x ≤ 64 := by
  have := chart_of hc; have hx := hole_of hx
  unfold knotsH
  have h1 := mul_bd (a := x.f2 - x.f0 + 1) (b := x.f3 - x.f1 + 1) (A := 8) (B := 8) (by omega) (by omega) (by omega) (by omega)
  have h2 : 0 < (x.f2 - x.f0 + 1) * (x.f3 - x.f1 + 1) := Int.mul_pos (by omega) (by omega)
  omega
theorem knots_wr {w h : Int} {l : List Int} (hc : chartB w h l = true) {x : S39} (hx : holeB (h - 1) (w - 1) x = true) : wrap64 ((wrap64 ((wrap64 (x.f2 - x.f0)) + 1)) * (wrap64 ((wrap64 (x.f3 - x.f1)) + 1))) = knotsH x := by
  have hb := knots_bd hc hx
  have := chart_of hc; have hx := hole_of hx
  rw [w64 (x := x.f2 - x.f0) (by omega) (by omega), w64 (x := x.f2 - x.f0 + 1) (by omega) (by omega), w64 (x := x.f3 - x.f1) (by omega) (by omega), w64 (x := x.f3 - x.f1 + 1) (by omega) (by omega)]
  unfold knotsH at hb ⊢
  exact w64 (by omega) (by omega)
def knotsLostM (w h : Int) (l : List Int) (hl : List S39) : Int × Bool := if holesB w h l hl then ((hl.map knotsH).sum, true) else (0, false)
theorem knotsLostS_eq {k : Nat} {w h : Int} {l : List Int} {hl : List S39} (hk : (hl.length + 1) * (hl.length + l.length + 10) < k) (hl0 : l.length ≤ 1048576) (hb : hl.length ≤ 1048576) : spec_KnotsLost.f k w h l hl = some (knotsLostM w h l hl) := by
  simp only [spec_KnotsLost.f, holesS_eq hk hl0 hb, Option.bind_some, knotsLostM]
  cases hg : holesB w h l hl
  · simp
  obtain ⟨hc, h8, hx⟩ := holes_of hg
  simp only [if_true]
  have hk2 : hl.length < k := by have := Nat.le_mul_of_pos_right (hl.length + 1) (show 0 < hl.length + l.length + 10 by omega); omega
  have := sum_loop (fun k a i => spec_KnotsLost.l0 k hl a i) knotsH (fun a => some (a, true)) z39 64 hl (by omega) (fun x hm => by have := knots_bd hc (hx x hm); omega)
    (fun k acc i h1 h2 h3 => by
      have hm : hl.getD i z39 ∈ hl := by rw [List.getD_eq_getElem?_getD, List.getElem?_eq_getElem h1]; exact List.getElem_mem h1
      have hb := knots_bd hc (hx _ hm)
      simp only [spec_KnotsLost.l0, rdIHole_nat, spec_l23Knots.f, Option.bind_some]
      rw [if_pos (by omega), if_pos (by omega), knots_wr hc (hx _ hm), w64 (by omega) (by omega)])
    (fun k acc i h1 => by simp only [spec_KnotsLost.l0]; rw [if_neg (by omega)])
    hl.length k 0 0 (by omega) hk2 (by omega) (by omega)
  simpa using this

end Go.Proofs.Ytbfhphobnngeaaa.Pure

-- Qnestinv
namespace Go.Proofs.Ytbfhphobnngeaaa.Pure
open Go Go.RowKit Go.Proofs Go.Proofs.YtbfhphobnngeaaaW.PrintWords Go.Proofs.YtbfhphobnngeaaaW.PrintLast
set_option linter.unusedVariables false
set_option linter.unusedSimpArgs false

theorem nest_inv {σ β : Type} (Lin : Nat → σ → Int → Option β) (Lout : Nat → σ → Option β) (step : σ → Nat → σ) (I : Nat → σ → Prop) (n0 m0 : Nat)
    (hs : ∀ (i : Nat) (s : σ), i < n0 → I i s → I (i + 1) (step s i) ∧ ∃ c, ∀ k, m0 ≤ k → Lin (k + c) s (i : Int) = Lin k (step s i) ((i + 1 : Nat) : Int)) (he : ∀ k s, I n0 s → Lin (k + 1) s (n0 : Int) = Lout k s) :
    ∀ (n i : Nat) (s : σ), i + n = n0 → I i s → I n0 ((List.range' i n).foldl step s) ∧ ∃ c, ∀ k, m0 ≤ k → Lin (k + c) s (i : Int) = Lout k ((List.range' i n).foldl step s) := by
  intro n
  induction n with
  | zero =>
    intro i s hi hI
    obtain rfl : i = n0 := by omega
    exact ⟨hI, 1, fun k _ => by rw [he k s hI]; rfl⟩
  | succ n ih =>
    intro i s hi hI
    obtain ⟨hI1, c1, h1⟩ := hs i s (by omega) hI
    obtain ⟨hI2, c2, h2⟩ := ih (i + 1) (step s i) (by omega) hI1
    refine ⟨hI2, c2 + c1, fun k hk => ?_⟩
    rw [show k + (c2 + c1) = (k + c2) + c1 by omega, h1 (k + c2) (by omega), h2 k hk, List.range'_succ, List.foldl_cons]
theorem ex_max (P : Nat → Nat → Prop) (n : Nat) (h : ∀ i, i < n → ∃ m, ∀ k, m ≤ k → P i k) : ∃ m, ∀ i, i < n → ∀ k, m ≤ k → P i k := by
  induction n with
  | zero => exact ⟨0, fun i hi => absurd hi (Nat.not_lt_zero i)⟩
  | succ n ih =>
    obtain ⟨m, hm⟩ := ih (fun i hi => h i (by omega))
    obtain ⟨m2, hm2⟩ := h n (by omega)
    refine ⟨m + m2, fun i hi k hk => ?_⟩
    by_cases e : i = n
    · subst e; exact hm2 k (by omega)
    · exact hm i (by omega) k (by omega)
theorem foldl_app {α : Type} (f : Nat → List α) : ∀ (l : List Nat) (s : List α), l.foldl (fun s r => s ++ f r) s = s ++ l.flatMap f := by
  intro l
  induction l with
  | nil => intro s; simp
  | cons x l ih => intro s; rw [List.foldl_cons, ih, List.flatMap_cons, List.append_assoc]

end Go.Proofs.Ytbfhphobnngeaaa.Pure

-- Qbump
namespace Go.Proofs.Ytbfhphobnngeaaa.Pure
open Go Go.RowKit Go.Proofs Go.Proofs.YtbfhphobnngeaaaW.PrintWords Go.Proofs.YtbfhphobnngeaaaW.PrintLast
set_option linter.unusedVariables false
set_option linter.unusedSimpArgs false

def bump (c : List Int) (v : Int) : List Int := c.modify v.toNat (fun x => wrap64 (x + 1))
theorem bump_set (c : List Int) (v : Int) (h : v.toNat < c.length) : c.set v.toNat (wrap64 (rd c v + 1)) = bump c v := by
  apply List.ext_getElem?
  intro i
  unfold bump rd
  rw [List.getElem?_set, List.getElem?_modify, List.getD_eq_getElem?_getD]
  by_cases e : v.toNat = i
  · subst e; simp [h]
  · simp [e]
theorem bump_len (c : List Int) (v : Int) : (bump c v).length = c.length := by simp [bump]
theorem bump_comm (c : List Int) (a b : Int) : bump (bump c a) b = bump (bump c b) a := by
  apply List.ext_getElem?
  intro i
  unfold bump
  simp only [List.getElem?_modify]
  by_cases e : a.toNat = i <;> by_cases f : b.toNat = i <;> simp [e, f]
theorem bump_perm {l m : List Int} (p : l.Perm m) (c : List Int) : l.foldl bump c = m.foldl bump c :=
  p.foldl_eq' (fun x _ y _ z => bump_comm z x y) c
theorem cells_perm (f : Nat → List Int) (l : List Nat) : (l.reverse.flatMap f).Perm (l.flatMap f) := (List.reverse_perm l).flatMap_right f

end Go.Proofs.Ytbfhphobnngeaaa.Pure

-- QyarnM
namespace Go.Proofs.Ytbfhphobnngeaaa.Pure
open Go Go.RowKit Go.Proofs Go.Proofs.Ytbfhphobnngeaaa.X Go.Proofs.YtbfhphobnngeaaaW.PrintWords Go.Proofs.YtbfhphobnngeaaaW.PrintLast
set_option linter.unusedVariables false
set_option linter.unusedSimpArgs false

def rowC (w : Nat) (l : List Int) (b n a : Nat) : List Int := (List.range' b n).map fun c => rd l ((a * w + c : Nat) : Int)
def cellsH (w : Nat) (l : List Int) (x : S39) : List Int := (List.range' x.f0.toNat (x.f2 + 1 - x.f0).toNat).flatMap (rowC w l x.f1.toNat (x.f3 + 1 - x.f1).toNat)
def stepH (w : Nat) (l : List Int) (hl : List S39) (c : List Int) (i : Nat) : List Int := (cellsH w l (hl.getD i z39)).foldl bump c
def yarnM (w h : Int) (l : List Int) (hl : List S39) : List Int × Bool := if holesB w h l hl then ((List.range' 0 hl.length).foldl (stepH w.toNat l hl) (List.replicate 6 0), true) else ([], false)
theorem place_of {w h : Int} {l : List Int} (hc : chartB w h l = true) {a c : Int} (ha : 0 ≤ a ∧ a ≤ h - 1) (hcc : 0 ≤ c ∧ c ≤ w - 1) : (0 ≤ a * w + c ∧ a * w + c < l.length ∧ a * w + c ≤ 64 ∧ 0 ≤ a * w ∧ a * w ≤ 64) ∧ (0 ≤ rd l (a * w + c) ∧ rd l (a * w + c) ≤ 5) := by
  obtain ⟨hw, hh, hl, hl64, hx⟩ := chart_of hc
  have h1 := mul_bd (a := a) (b := w) (A := h - 1) (B := w) (by omega) (by omega) (by omega) (by omega)
  have h2 : (h - 1) * w = w * h - w := by rw [Int.sub_mul, Int.mul_comm h w]; omega
  have h3 : a * w + c < l.length := by omega
  refine ⟨⟨by omega, h3, by omega, by omega, by omega⟩, ?_⟩
  obtain ⟨n, hn⟩ := nat_of (show 0 ≤ a * w + c by omega)
  rw [hn, rd_nat]
  have hlt : n < l.length := by omega
  rw [List.getD_eq_getElem?_getD, List.getElem?_eq_getElem hlt]
  exact hx _ (List.getElem_mem hlt)
theorem atS_eq {w h : Int} {l : List Int} (hc : chartB w h l = true) {a c : Int} (ha : 0 ≤ a ∧ a ≤ h - 1) (hcc : 0 ≤ c ∧ c ≤ w - 1) : spec_l2At.f w h l a c = some (rd l (a * w + c)) := by
  obtain ⟨h1, h2⟩ := place_of hc ha hcc
  unfold spec_l2At.f
  rw [w64 (x := a * w) (by omega) (by omega), w64 (x := a * w + c) (by omega) (by omega), if_pos h1.1, if_pos h1.2.1]
theorem atI_eq {w h : Int} {l : List Int} (hc : chartB w h l = true) {a c : Int} (ha : 0 ≤ a ∧ a ≤ h - 1) (hcc : 0 ≤ c ∧ c ≤ w - 1) : impl_Chart_at.f w h l a c = some (rd l (a * w + c)) := by
  obtain ⟨h1, h2⟩ := place_of hc ha hcc
  unfold impl_Chart_at.f
  rw [w64 (x := a * w) (by omega) (by omega), w64 (x := a * w + c) (by omega) (by omega), if_pos h1.1, if_pos h1.2.1]
theorem yarnM_len (w h : Int) (l : List Int) (hl : List S39) : (yarnM w h l hl).1.length ≤ 6 := by
  unfold yarnM
  have hb : ∀ (m : List Int) (c : List Int), (m.foldl bump c).length = c.length := by
    intro m
    induction m with
    | nil => intro c; rfl
    | cons x m ih => intro c; rw [List.foldl_cons, ih, bump_len]
  have hs : ∀ (m : List Nat) (c : List Int), (m.foldl (stepH w.toNat l hl) c).length = c.length := by
    intro m
    induction m with
    | nil => intro c; rfl
    | cons x m ih => intro c; rw [List.foldl_cons, ih]; unfold stepH; rw [hb]
  split
  · rw [hs]; simp
  · simp
theorem bumps_len (m : List Int) : ∀ c : List Int, (m.foldl bump c).length = c.length := by
  induction m with
  | nil => intro c; rfl
  | cons x m ih => intro c; rw [List.foldl_cons, ih, bump_len]

end Go.Proofs.Ytbfhphobnngeaaa.Pure

-- XimplYarnLostF28
namespace Go.Proofs.Ytbfhphobnngeaaa.X
open Ho (bS eS)
open Go.RowKit Go.Proofs.YtbfhphobnngeaaaW.PrintWords Go.Proofs.YtbfhphobnngeaaaW.PrintLast Go.Proofs.YtbfhphobnngeaaaW.PrintMore
attribute [local go_sem] max2_int min2_int max_two min_two max_three min_three max_four min_four   -- for this text's walks alone
set_option linter.unusedVariables false
set_option linter.unusedSimpArgs false

attribute [local go_sem ↓] Ho.isSome_setCell_   -- a store leaves all places there
/-! ### impl_YarnLost: function 28 -/
mutual
def impl_YarnLost.l0 : Nat → List Int → List (S39) → Int → Int → Int → Int → List Int → Option (List Int × Bool)
  | 0, _, _, _, _, _, _, _ => none
  | k + 1, x6, x16, x17, x18, x102000, x102001, x102002 => if x18 < x17 then (if 0 ≤ x18 then (if x18 < (x16.length : Int) then ((impl_Chart_lost.f k x102000 x102001 x102002 ((rd_T39 x16 x18).f0) ((rd_T39 x16 x18).f1) ((rd_T39 x16 x18).f2) ((rd_T39 x16 x18).f3)).bind fun t108 => (impl_YarnLost.l1 k x6 x16 x17 x18 t108 (t108.length : Int) 0 x102000 x102001 x102002)) else (none)) else (none)) else (some (x6, true))
def impl_YarnLost.l1 : Nat → List Int → List (S39) → Int → Int → List Int → Int → Int → Int → Int → List Int → Option (List Int × Bool)
  | 0, _, _, _, _, _, _, _, _, _, _ => none
  | k + 1, x6, x16, x17, x18, x24, x25, x26, x102000, x102001, x102002 => if x26 < x25 then (if 0 ≤ x26 then (if x26 < (x24.length : Int) then (if 0 ≤ (rd x24 x26) then (if (rd x24 x26) < (x6.length : Int) then (impl_YarnLost.l1 k (x6.set ((rd x24 x26) : Int).toNat (wrap64 ((rd x6 (rd x24 x26)) + 1))) x16 x17 x18 x24 x25 (wrap64 (x26 + 1)) x102000 x102001 x102002) else (none)) else (none)) else (none)) else (none)) else (impl_YarnLost.l0 k x6 x16 x17 (wrap64 (x18 + 1)) x102000 x102001 x102002)
end
def impl_YarnLost.f (k : Nat) (a0_0 : Int) (a0_1 : Int) (l0_2 : List Int) (l1 : List (S39)) : Option (List Int × Bool) := (impl_AreHoles.f k a0_0 a0_1 l0_2 l1).bind fun t102 => (if t102 = true then (if 6 ≤ 35184372088832 then (impl_YarnLost.l0 k (List.replicate 6 0) l1 (l1.length : Int) 0 a0_0 a0_1 l0_2) else (none)) else (some (([] : List Int), false)))
theorem impl_YarnLost.mono_l : ∀ k, (∀ y0 y1 y2 y3 y4 y5 y6, LeO (impl_YarnLost.l0 k y0 y1 y2 y3 y4 y5 y6) (impl_YarnLost.l0 (k + 1) y0 y1 y2 y3 y4 y5 y6)) ∧ (∀ y0 y1 y2 y3 y4 y5 y6 y7 y8 y9, LeO (impl_YarnLost.l1 k y0 y1 y2 y3 y4 y5 y6 y7 y8 y9) (impl_YarnLost.l1 (k + 1) y0 y1 y2 y3 y4 y5 y6 y7 y8 y9))
  | 0 => ⟨fun _ _ _ _ _ _ _ r h => by simp [impl_YarnLost.l0] at h, fun _ _ _ _ _ _ _ _ _ _ r h => by simp [impl_YarnLost.l1] at h⟩
  | k + 1 => by
    obtain ⟨ih0, ih1⟩ := impl_YarnLost.mono_l k
    refine ⟨?_, ?_⟩
    · intro y0 y1 y2 y3 y4 y5 y6
      unfold impl_YarnLost.l0
      repeat' first
      | (with_reducible exact ih0 _ _ _ _ _ _ _)
      | (with_reducible exact ih1 _ _ _ _ _ _ _ _ _ _)
      | (with_reducible exact impl_AreHoles.mono _ _ _ _ _)
      | (with_reducible exact impl_Chart_lost.mono _ _ _ _ _ _ _ _)
      | (with_reducible exact LeO.refl _)
      | (with_reducible exact LeO.none _)
      | (with_reducible refine LeO.ite ?_ ?_)
      | (with_reducible refine LeO.bind ?_ (fun _ => ?_))
      | exact ih0 _ _ _ _ _ _ _
      | exact ih1 _ _ _ _ _ _ _ _ _ _
      | exact impl_AreHoles.mono _ _ _ _ _
      | exact impl_Chart_lost.mono _ _ _ _ _ _ _ _
      | exact LeO.none _
      | refine LeO.ite ?_ ?_
      | refine LeO.bind ?_ (fun _ => ?_)
    · intro y0 y1 y2 y3 y4 y5 y6 y7 y8 y9
      unfold impl_YarnLost.l1
      repeat' first
      | (with_reducible exact ih0 _ _ _ _ _ _ _)
      | (with_reducible exact ih1 _ _ _ _ _ _ _ _ _ _)
      | (with_reducible exact impl_AreHoles.mono _ _ _ _ _)
      | (with_reducible exact impl_Chart_lost.mono _ _ _ _ _ _ _ _)
      | (with_reducible exact LeO.refl _)
      | (with_reducible exact LeO.none _)
      | (with_reducible refine LeO.ite ?_ ?_)
      | (with_reducible refine LeO.bind ?_ (fun _ => ?_))
      | exact ih0 _ _ _ _ _ _ _
      | exact ih1 _ _ _ _ _ _ _ _ _ _
      | exact impl_AreHoles.mono _ _ _ _ _
      | exact impl_Chart_lost.mono _ _ _ _ _ _ _ _
      | exact LeO.none _
      | refine LeO.ite ?_ ?_
      | refine LeO.bind ?_ (fun _ => ?_)
theorem impl_YarnLost.mono : ∀ a0 a1 a2 a3 k, LeO (impl_YarnLost.f k a0 a1 a2 a3) (impl_YarnLost.f (k + 1) a0 a1 a2 a3) := by
  intro a0 a1 a2 a3 k
  obtain ⟨ih0, ih1⟩ := impl_YarnLost.mono_l k
  unfold impl_YarnLost.f
  repeat' first
      | (with_reducible exact ih0 _ _ _ _ _ _ _)
      | (with_reducible exact ih1 _ _ _ _ _ _ _ _ _ _)
      | (with_reducible exact impl_AreHoles.mono _ _ _ _ _)
      | (with_reducible exact impl_Chart_lost.mono _ _ _ _ _ _ _ _)
      | (with_reducible exact LeO.refl _)
      | (with_reducible exact LeO.none _)
      | (with_reducible refine LeO.ite ?_ ?_)
      | (with_reducible refine LeO.bind ?_ (fun _ => ?_))
      | exact ih0 _ _ _ _ _ _ _
      | exact ih1 _ _ _ _ _ _ _ _ _ _
      | exact impl_AreHoles.mono _ _ _ _ _
      | exact impl_Chart_lost.mono _ _ _ _ _ _ _ _
      | exact LeO.none _
      | refine LeO.ite ?_ ?_
      | refine LeO.bind ?_ (fun _ => ?_)
set_option maxHeartbeats 8000000 in
set_option maxRecDepth 100000 in
theorem impl_YarnLost.calls (k : Nat) (a0_0 : Int) (a0_1 : Int) (A0_2 : Option Addr) (c0_2 : Nat) (l0_2 : List Int) (A1 : Option Addr) (c1 : Nat) (l1 : List (S39)) (r1 : List Int) (r2 : Bool) (w : World) (hr0_2 : Kd.C (Kd.int .i64) w A0_2 l0_2.length l0_2) (hc0_2 : l0_2.length ≤ c0_2) (hr1 : Kd.C k39 w A1 l1.length l1) (hc1 : l1.length ≤ c1) (h : impl_YarnLost.f k a0_0 a0_1 l0_2 l1 = some (r1, r2)) :
    Calls Try.prog 28 #[.agg #[.int .i64 a0_0, .int .i64 a0_1, .slice A0_2 l0_2.length c0_2], .slice A1 l1.length c1] w fun e w' => ∃ v0_ : Value, e = .returned (.tuple #[v0_, .bool r2]) ∧ Kd.R (Kd.int .i64) 3 w' w.heap.size (fun _ => True) v0_ r1 ∧ Below w.heap.size w w' := by
  have hu29 := Try.underlying29
  have hu39 := Try.underlying39
  have HR0_2 := Aside0.mk hr0_2
  have HC0_2 := Aside0.mk hc0_2
  clear hr0_2 hc0_2
  have HR1 := Aside0.mk hr1
  have HC1 := Aside0.mk hc1
  clear hr1 hc1
  have HB := Aside0.mk (Below.refl w.heap.size w)
  have H : ((impl_AreHoles.f k a0_0 a0_1 l0_2 l1).bind fun t102 => (if t102 = true then (if 6 ≤ 35184372088832 then (impl_YarnLost.l0 k (List.replicate 6 0) l1 (l1.length : Int) 0 a0_0 a0_1 l0_2) else (none)) else (some (([] : List Int), false)))) = some (r1, r2) := h
  clear h
  replace H := Option.bind_eq_some_iff.mp H
  obtain ⟨t102, A30, H⟩ := H
  replace H : (if t102 = true then (if 6 ≤ 35184372088832 then (impl_YarnLost.l0 k (List.replicate 6 0) l1 (l1.length : Int) 0 a0_0 a0_1 l0_2) else (none)) else (some (([] : List Int), false))) = some (r1, r2) := H
  have A3 := Aside0.mk A30
  clear A30
  by_cases c4 : t102 = true
  · subst c4
    have H1 : (if 6 ≤ 35184372088832 then (impl_YarnLost.l0 k (List.replicate 6 0) l1 (l1.length : Int) 0 a0_0 a0_1 l0_2) else (none)) = some (r1, r2) := by rw [if_pos rfl] at H; exact H
    clear H
    have H := H1
    clear H1
    by_cases c5 : 6 ≤ 35184372088832
    · rw [if_pos c5] at H
      have c5b0 := eq_true c5
      have c5b1 : decide (6 ≤ 35184372088832) = true := decide_eq_true c5
      clear c5
      obtain ⟨y103, hy103⟩ : ∃ y_ : List Int, y_ = (List.replicate 6 0) := ⟨_, rfl⟩
      replace H : (impl_YarnLost.l0 k y103 l1 (l1.length : Int) 0 a0_0 a0_1 l0_2) = some (r1, r2) := by first | (rw [hy103]; with_reducible exact H) | (have H2_ := (Option.bind_some _ _).symm.trans H; rw [hy103]; with_reducible exact H2_) | (have H2_ := (Option.bind_some _ _).symm.trans H; with_reducible exact H2_) | with_reducible exact H | (rw [hy103]; exact H) | exact H
      have Ny103 := Aside0.mk hy103
      clear hy103
      have H' := Aside0.mk H
      clear H
      go_enter Try.func28, Try.ntmps28
      go_wp2_with (first | ((with_reducible refine gate_dst (N := 2) rfl ?_); refine box_event ?hg (N := 2) ?hd (cs := #[.int .i64 a0_0, .int .i64 a0_1, .slice A0_2 l0_2.length c0_2]) (t := 29) ?hr ?_; (case hd => rfl); (case hg => rfl); (case hr => first | (go_simp; done) | (go_simp; rfl)); intro gb101 hg w6 hbox hb; have n0_ := Aside0.mk (below_step (by exact eS HB.out) hb); have n1_ := Aside0.mk (hbox); have n2_ := Aside0.mk ((by rw [hg]; exact (below_size (by exact eS HB.out)) : w.heap.size ≤ gb101)); have n3_ := Aside0.mk ((by rw [hg]; exact (below_size (by exact eS HB.out)) : w.heap.size ≤ gb101)); clear HB; have HB := n0_; have BK101 := n1_; have GW101 := n2_; have GE101 := n3_; clear n0_ n1_ n2_ n3_; clear hb hbox hg; have hcz7_0 : w6.cell? ⟨gb101, 0, none⟩ = some (.int .i64 a0_0) := (blk_cell BK101.out 0).trans rfl; have hcz7_1 : w6.cell? ⟨gb101, 1, none⟩ = some (.int .i64 a0_1) := (blk_cell BK101.out 1).trans rfl; have hcz7_2 : w6.cell? ⟨gb101, 2, none⟩ = some (.slice A0_2 l0_2.length c0_2) := (blk_cell BK101.out 2).trans rfl; have hfz7_0 := blk_frozen BK101.out 0; have hfz7_1 := blk_frozen BK101.out 1; have hfz7_2 := blk_frozen BK101.out 2) | ((with_reducible refine gate_callee (f := 15) rfl ?_); refine goesL_ (some 13) rfl rfl Try.func15 (by kernel_rfl) rfl #[.agg #[.int .i64 a0_0, .int .i64 a0_1, .slice A0_2 l0_2.length c0_2], .slice A1 l1.length c1] rfl (by (try simp only [List.map_toArray, List.map_cons, List.map_nil]); first | done | rfl | (simp only [List.length_drop, List.length_take]; rfl)) ?_; (with_reducible refine (impl_AreHoles.calls k a0_0 a0_1 _ _ l0_2 _ _ l1 true _ ?side1 ?side2 ?side3 ?side4 A3.out).mono ?_); (case side1 => repeat (first | exact (Kd.C_below HR0_2.out HB.out) | (with_reducible refine Kd.C_alloc ?_ _) | (with_reducible refine Kd.C_drewN ?_ _) | (with_reducible refine Kd.C_drew ?_))); (case side2 => exact HC0_2.out); (case side3 => repeat (first | exact (Kd.C_below HR1.out HB.out) | (with_reducible refine Kd.C_alloc ?_ _) | (with_reducible refine Kd.C_drewN ?_ _) | (with_reducible refine Kd.C_drew ?_))); (case side4 => exact HC1.out); rintro e w8 ⟨rfl, hb⟩; refine ⟨_, rfl, ?_⟩; have n0_ := Aside0.mk (blk_below (bS BK101.out) hb); have n1_ := Aside0.mk (below_step (by exact eS HB.out) hb); clear BK101; clear HB; have BK101 := n0_; have HB := n1_; clear n0_ n1_; (try clear hb); (try clear hb2); (try clear hk); (try clear hi)) | ((with_reducible refine gate_dst (N := 15) rfl ?_); refine Kd.R_make (Kd.int .i64) _ 3 rfl (N := 15) rfl 22 _ _ rfl 6 rfl rfl Try.underlying22 (.int .i64 0) 8 info3 rfl (by decide) (by omega) 0 (ok := fun _ => True) (okp := fun _ => True) rfl (fun _ hk => hk) trivial (by omega) (by omega) (Below.refl _ _) (Nat.le_refl _) ?_; intro v104 w9 ho10 hb hg_ hnew_; clear hg_ hnew_; (first | rw [← Ny103.out] at ho10 | (simp only [Int.reduceToNat] at ho10; rw [← Ny103.out] at ho10)); have n0_ := Aside0.mk (Kd.R_lower ho10 (below_size (by exact eS HB.out))); have n1_ := Aside0.mk (blk_below (bS BK101.out) hb); have n2_ := Aside0.mk (below_step (by exact eS HB.out) hb); clear BK101; clear HB; have HO105 := n0_; have BK101 := n1_; have HB := n2_; clear n0_ n1_ n2_; clear hb ho10))
      go_loopg [18] k (fun kq v18 w' => ∃ (x6_1 : List Int) (x18_1 : Int), v18 = .int .i64 x18_1 ∧ Aside0 (impl_YarnLost.l0 kq x6_1 l1 (l1.length : Int) x18_1 a0_0 a0_1 l0_2 = some (r1, r2)) ∧ Aside0 (kq ≤ k) ∧ Aside0 (Kd.R (Kd.int .i64) 3 w' w.heap.size (fun _ => True) v104 x6_1) ∧ Aside0 (w'.heap[gb101]? = some (.cells #[.int .i64 a0_0, .int .i64 a0_1, (.slice A0_2 l0_2.length c0_2)] 29 (0, 0))) ∧ Aside0 (Below w.heap.size w w'))
      case atStart => exact ⟨(y103), (0), (by first | rfl | (simp; done) | (simp [*]; done)), H', ⟨Nat.le_refl _⟩, ⟨by exact Ho.RS <| HO105.out⟩, ⟨by exact bS BK101.out⟩, ⟨by exact eS HB.out⟩⟩
      case round =>
        clear H'
        try clear c1
        try clear c2
        try clear p2
        try clear c4
        try clear c5
        try clear c5b0
        try clear c5b1
        try clear hcz7_0
        try clear hcz7_1
        try clear hcz7_2
        try clear hfz7_0
        try clear hfz7_1
        try clear hfz7_2
        obtain ⟨x6_1, x18_1, rfl, HA, HK1, HO_6, BK101, HB⟩ := hrel
        cases gk with
        | zero => exact absurd HA.out (by simp [impl_YarnLost.l0])
        | succ k1 =>
          have H := HA.out
          clear HA
          simp only [impl_YarnLost.l0] at H
          by_cases c11 : x18_1 < (l1.length : Int)
          · rw [if_pos c11] at H
            have c11b0 : decide (x18_1 < (l1.length : Int)) = true := decide_eq_true c11
            clear c11
            by_cases c12 : 0 ≤ x18_1
            · rw [if_pos c12] at H
              have c12b0 : decide (0 ≤ x18_1) = true := decide_eq_true c12
              clear c12
              by_cases c13 : x18_1 < (l1.length : Int)
              · rw [if_pos c13] at H
                have c13b0 : decide (x18_1 < (l1.length : Int)) = true := decide_eq_true c13
                clear c13
                replace H := Option.bind_eq_some_iff.mp H
                obtain ⟨t108, A140, H⟩ := H
                replace H : (impl_YarnLost.l1 k1 x6_1 l1 (l1.length : Int) x18_1 t108 (t108.length : Int) 0 a0_0 a0_1 l0_2) = some (r1, r2) := H
                have A14 := Aside0.mk A140
                clear A140
                have H' := Aside0.mk H
                clear H
                have p106 : 0 ≤ (x18_1 : Int) := of_decide_eq_true (by first | (with_reducible assumption) | assumption)
                have q106 : x18_1 < (l1.length : Int) := of_decide_eq_true (by first | (with_reducible assumption) | assumption)
                obtain ⟨ad106, e106, hx106_0, hx106_1, hx106_2, hx106_3⟩ := at_T39 HR1.out x18_1 p106 q106
                cases e106
                replace hx106_0 := (HB.out.cell (World.block_lt_of_cell? w _ hx106_0)).trans hx106_0
                replace hx106_1 := (HB.out.cell (World.block_lt_of_cell? w _ hx106_1)).trans hx106_1
                replace hx106_2 := (HB.out.cell (World.block_lt_of_cell? w _ hx106_2)).trans hx106_2
                replace hx106_3 := (HB.out.cell (World.block_lt_of_cell? w _ hx106_3)).trans hx106_3
                replace p106 := eq_true p106
                replace q106 := eq_true q106
                go_wp2_with (first | ((with_reducible refine gate_dst (N := 8) rfl ?_); refine box_event ?hg (N := 8) ?hd (cs := #[.int .i64 0, .int .i64 0, .int .i64 0, .int .i64 0]) (t := 39) ?hr ?_; (case hd => rfl); (case hg => rfl); (case hr => first | (go_simp; done) | (go_simp; rfl)); intro gb107 hg w15 hbox hb; have n0_ := Aside0.mk (Kd.R_below (by exact Ho.RS <| HO_6.out) hb); have n1_ := Aside0.mk (blk_below (bS BK101.out) hb); have n2_ := Aside0.mk (below_step (by exact eS HB.out) hb); have n3_ := Aside0.mk (hbox); have n4_ := Aside0.mk ((by rw [hg]; exact (below_size (by exact eS HB.out)) : w.heap.size ≤ gb107)); have n5_ := Aside0.mk ((by rw [hg]; exact (below_size (by exact eS HB.out)) : w.heap.size ≤ gb107)); have n6_ := Aside0.mk ((by rw [hg]; exact Nat.ne_of_lt (blk_lt (bS BK101.out)) : gb101 ≠ gb107)); have n7_ := Aside0.mk ((by rw [hg]; exact Nat.ne_of_gt (blk_lt (bS BK101.out)) : gb107 ≠ gb101)); clear HO_6; clear BK101; clear HB; have HO_6 := n0_; have BK101 := n1_; have HB := n2_; have BK107 := n3_; have GW107 := n4_; have GE107 := n5_; have NB101_107 := n6_; have NB107_101 := n7_; clear n0_ n1_ n2_ n3_ n4_ n5_ n6_ n7_; clear hb hbox hg; have hnb16 := NB107_101.out; have hnc16 := NB101_107.out; have hcz17_0 : w15.cell? ⟨gb107, 0, none⟩ = some (.int .i64 0) := (blk_cell BK107.out 0).trans rfl; have hcz17_1 : w15.cell? ⟨gb107, 1, none⟩ = some (.int .i64 0) := (blk_cell BK107.out 1).trans rfl; have hcz17_2 : w15.cell? ⟨gb107, 2, none⟩ = some (.int .i64 0) := (blk_cell BK107.out 2).trans rfl; have hcz17_3 : w15.cell? ⟨gb107, 3, none⟩ = some (.int .i64 0) := (blk_cell BK107.out 3).trans rfl; have hfz17_0 := blk_frozen BK107.out 0; have hfz17_1 := blk_frozen BK107.out 1; have hfz17_2 := blk_frozen BK107.out 2; have hfz17_3 := blk_frozen BK107.out 3; have hcz18_0 : w15.cell? ⟨gb101, 0, none⟩ = some (.int .i64 a0_0) := (blk_cell BK101.out 0).trans rfl; have hcz18_1 : w15.cell? ⟨gb101, 1, none⟩ = some (.int .i64 a0_1) := (blk_cell BK101.out 1).trans rfl; have hcz18_2 : w15.cell? ⟨gb101, 2, none⟩ = some (.slice A0_2 l0_2.length c0_2) := (blk_cell BK101.out 2).trans rfl; have hfz18_0 := blk_frozen BK101.out 0; have hfz18_1 := blk_frozen BK101.out 1; have hfz18_2 := blk_frozen BK101.out 2) | ((with_reducible refine gate_callee (f := 67) rfl ?_); refine goesL_ (some 24) rfl rfl Try.func67 (by kernel_rfl) rfl #[.agg #[.int .i64 a0_0, .int .i64 a0_1, .slice A0_2 l0_2.length c0_2], .agg #[.int .i64 ((rd_T39 l1 x18_1).f0), .int .i64 ((rd_T39 l1 x18_1).f1), .int .i64 ((rd_T39 l1 x18_1).f2), .int .i64 ((rd_T39 l1 x18_1).f3)]] rfl (by (try simp only [List.map_toArray, List.map_cons, List.map_nil]); first | done | rfl | (simp only [List.length_drop, List.length_take]; rfl)) ?_; (with_reducible refine (impl_Chart_lost.calls k1 a0_0 a0_1 _ _ l0_2 ((rd_T39 l1 x18_1).f0) ((rd_T39 l1 x18_1).f1) ((rd_T39 l1 x18_1).f2) ((rd_T39 l1 x18_1).f3) t108 _ ?side1 ?side2 A14.out).mono ?_); (case side1 => exact Kd.C_below HR0_2.out (by repeat (first | (with_reducible first | exact HB.out | apply below_alloc | apply pw_below_drewN | apply below_drew1 | refine below_set ?_ GE101.out | refine below_set ?_ GE107.out) | exact HB.out))); (case side2 => exact HC0_2.out); rintro e w19 ⟨v109, rfl, ho0, hb⟩; refine ⟨_, rfl, ?_⟩; have n0_ := Aside0.mk (Kd.R_elder' (by exact Ho.RS <| (Kd.R_mono (Kd.R_far (p := ⟨gb107, 3, none⟩) (Kd.R_far (p := ⟨gb107, 2, none⟩) (Kd.R_far (p := ⟨gb107, 1, none⟩) (Kd.R_far (p := ⟨gb107, 0, none⟩) (Kd.R_types HO_6.out BK107.out (by decide)) (fun _ hk => hk.2) (.int .i64 ((rd_T39 l1 x18_1).f0))) (fun _ hk => hk.2) (.int .i64 ((rd_T39 l1 x18_1).f1))) (fun _ hk => hk.2) (.int .i64 ((rd_T39 l1 x18_1).f2))) (fun _ hk => hk.2) (.int .i64 ((rd_T39 l1 x18_1).f3))) (fun _ h_ => h_.1))) (Kd.R_base ho0) hb); have n1_ := Aside0.mk (Kd.R_lower (Kd.R_new' ho0 (Kd.R_lt (by exact Ho.RS <| (Kd.R_mono (Kd.R_far (p := ⟨gb107, 3, none⟩) (Kd.R_far (p := ⟨gb107, 2, none⟩) (Kd.R_far (p := ⟨gb107, 1, none⟩) (Kd.R_far (p := ⟨gb107, 0, none⟩) (Kd.R_types HO_6.out BK107.out (by decide)) (fun _ hk => hk.2) (.int .i64 ((rd_T39 l1 x18_1).f0))) (fun _ hk => hk.2) (.int .i64 ((rd_T39 l1 x18_1).f1))) (fun _ hk => hk.2) (.int .i64 ((rd_T39 l1 x18_1).f2))) (fun _ hk => hk.2) (.int .i64 ((rd_T39 l1 x18_1).f3))) (fun _ h_ => h_.1))))) (below_size (by repeat (first | (with_reducible first | exact HB.out | apply below_alloc | apply pw_below_drewN | apply below_drew1 | refine below_set ?_ GE101.out | refine below_set ?_ GE107.out) | exact HB.out)))); have n2_ := Aside0.mk (blk_below (g := gb101) (o := .cells #[.int .i64 a0_0, .int .i64 a0_1, .slice A0_2 l0_2.length c0_2] 29 (0, 0)) (by (with_reducible repeat (first | refine blk_drewN ?_ _ | refine blk_drew ?_ | refine blk_alloc ?_ _)); refine blk_far ?_ NB101_107.out _; (with_reducible repeat (first | refine blk_drewN ?_ _ | refine blk_drew ?_ | refine blk_alloc ?_ _)); refine blk_far ?_ NB101_107.out _; (with_reducible repeat (first | refine blk_drewN ?_ _ | refine blk_drew ?_ | refine blk_alloc ?_ _)); refine blk_far ?_ NB101_107.out _; (with_reducible repeat (first | refine blk_drewN ?_ _ | refine blk_drew ?_ | refine blk_alloc ?_ _)); refine blk_far ?_ NB101_107.out _; exact bS BK101.out) hb); have n3_ := Aside0.mk (blk_below (g := gb107) (o := .cells #[.int .i64 ((rd_T39 l1 x18_1).f0), .int .i64 ((rd_T39 l1 x18_1).f1), .int .i64 ((rd_T39 l1 x18_1).f2), .int .i64 ((rd_T39 l1 x18_1).f3)] 39 (0, 0)) (by (with_reducible repeat (first | refine blk_drewN ?_ _ | refine blk_drew ?_ | refine blk_alloc ?_ _)); refine blk_put (cs := #[.int .i64 ((rd_T39 l1 x18_1).f0), .int .i64 ((rd_T39 l1 x18_1).f1), .int .i64 ((rd_T39 l1 x18_1).f2), .int .i64 0]) ?_ 3 _ rfl; (with_reducible repeat (first | refine blk_drewN ?_ _ | refine blk_drew ?_ | refine blk_alloc ?_ _)); refine blk_put (cs := #[.int .i64 ((rd_T39 l1 x18_1).f0), .int .i64 ((rd_T39 l1 x18_1).f1), .int .i64 0, .int .i64 0]) ?_ 2 _ rfl; (with_reducible repeat (first | refine blk_drewN ?_ _ | refine blk_drew ?_ | refine blk_alloc ?_ _)); refine blk_put (cs := #[.int .i64 ((rd_T39 l1 x18_1).f0), .int .i64 0, .int .i64 0, .int .i64 0]) ?_ 1 _ rfl; (with_reducible repeat (first | refine blk_drewN ?_ _ | refine blk_drew ?_ | refine blk_alloc ?_ _)); refine blk_put (cs := #[.int .i64 0, .int .i64 0, .int .i64 0, .int .i64 0]) ?_ 0 _ rfl; exact bS BK107.out) hb); have n4_ := Aside0.mk (below_step (by repeat (first | (with_reducible first | exact HB.out | apply below_alloc | apply pw_below_drewN | apply below_drew1 | refine below_set ?_ GE101.out | refine below_set ?_ GE107.out) | exact HB.out)) hb); clear HO_6; clear BK101; clear BK107; clear HB; have HO_6 := n0_; have HO110 := n1_; have BK101 := n2_; have BK107 := n3_; have HB := n4_; clear n0_ n1_ n2_ n3_ n4_; (try clear hb); (try clear hb2); (try clear hk); (try clear hi); (try clear ho0); obtain ⟨Ao20, co20, eo20⟩ := Kd.R_slice HO110.out; subst eo20))
                go_loopg [26] k1 (fun kq v26 w' => ∃ (x6_2 : List Int) (x26_2 : Int), v26 = .int .i64 x26_2 ∧ Aside0 (impl_YarnLost.l1 kq x6_2 l1 (l1.length : Int) x18_1 t108 (t108.length : Int) x26_2 a0_0 a0_1 l0_2 = some (r1, r2)) ∧ Aside0 (kq ≤ k1) ∧ Aside0 (Kd.R (Kd.int .i64) 3 w' w.heap.size (fun k_ => some k_ ≠ ((.slice Ao20 t108.length co20) : Value).ownBlock) v104 x6_2) ∧ Aside0 (Kd.R (Kd.int .i64) 3 w' w.heap.size (fun k_ => some k_ ≠ (v104 : Value).ownBlock) (.slice Ao20 t108.length co20) t108) ∧ Aside0 (w'.heap[gb101]? = some (.cells #[.int .i64 a0_0, .int .i64 a0_1, (.slice A0_2 l0_2.length c0_2)] 29 (0, 0))) ∧ Aside0 (w'.heap[gb107]? = some (.cells #[.int .i64 ((rd_T39 l1 x18_1).f0), .int .i64 ((rd_T39 l1 x18_1).f1), .int .i64 ((rd_T39 l1 x18_1).f2), .int .i64 ((rd_T39 l1 x18_1).f3)] 39 (0, 0))) ∧ Aside0 (Below w.heap.size w w'))
                case atStart => exact ⟨(x6_1), (0), (by first | rfl | (simp; done) | (simp [*]; done)), H', ⟨Nat.le_refl _⟩, ⟨by exact Ho.RS <| Kd.R_mono HO_6.out (fun _ hk => hk.2)⟩, ⟨by exact Ho.RS <| Kd.R_mono HO110.out (fun _ hk => hk.2)⟩, ⟨by exact bS BK101.out⟩, ⟨by exact bS BK107.out⟩, ⟨by exact eS HB.out⟩⟩
                case round =>
                  clear H'
                  try clear c1
                  try clear p1
                  try clear q1
                  try clear hx1
                  try clear c2
                  try clear p2
                  try clear c4
                  try clear c5
                  try clear c5b0
                  try clear c5b1
                  try clear c6
                  try clear p10
                  try clear q10
                  try clear hx10
                  try clear c11
                  try clear c11b0
                  try clear c12
                  try clear c12b0
                  try clear c13
                  try clear c13b0
                  try clear c15
                  try clear c16
                  try clear hcz17_0
                  try clear hcz17_1
                  try clear hcz17_2
                  try clear hcz17_3
                  try clear hcz18_0
                  try clear hcz18_1
                  try clear hcz18_2
                  try clear hcz7_0
                  try clear hcz7_1
                  try clear hcz7_2
                  try clear hfz17_0
                  try clear hfz17_1
                  try clear hfz17_2
                  try clear hfz17_3
                  try clear hfz18_0
                  try clear hfz18_1
                  try clear hfz18_2
                  try clear hfz7_0
                  try clear hfz7_1
                  try clear hfz7_2
                  try clear hx106_0
                  try clear hx106_1
                  try clear hx106_2
                  try clear hx106_3
                  try clear p106
                  try clear p2
                  try clear q106
                  obtain ⟨x6_2, x26_2, rfl, HA, HK2, HO_6, HO_24, BK101, BK107, HB⟩ := hrel
                  cases gk with
                  | zero => exact absurd HA.out (by simp [impl_YarnLost.l1])
                  | succ k2 =>
                    have H := HA.out
                    clear HA
                    simp only [impl_YarnLost.l1] at H
                    by_cases c21 : x26_2 < (t108.length : Int)
                    · rw [if_pos c21] at H
                      have c21b0 : decide (x26_2 < (t108.length : Int)) = true := decide_eq_true c21
                      clear c21
                      by_cases c22 : 0 ≤ x26_2
                      · rw [if_pos c22] at H
                        have c22b0 : decide (0 ≤ x26_2) = true := decide_eq_true c22
                        clear c22
                        by_cases c23 : x26_2 < (t108.length : Int)
                        · rw [if_pos c23] at H
                          have c23b0 : decide (x26_2 < (t108.length : Int)) = true := decide_eq_true c23
                          clear c23
                          by_cases c24 : 0 ≤ (rd t108 x26_2)
                          · rw [if_pos c24] at H
                            have c24b0 : decide (0 ≤ (rd t108 x26_2)) = true := decide_eq_true c24
                            clear c24
                            by_cases c25 : (rd t108 x26_2) < (x6_2.length : Int)
                            · rw [if_pos c25] at H
                              have c25b0 : decide ((rd t108 x26_2) < (x6_2.length : Int)) = true := decide_eq_true c25
                              clear c25
                              obtain ⟨y113, hy113⟩ : ∃ y_ : List Int, y_ = (x6_2.set ((rd t108 x26_2) : Int).toNat (wrap64 ((rd x6_2 (rd t108 x26_2)) + 1))) := ⟨_, rfl⟩
                              replace H : (impl_YarnLost.l1 k2 y113 l1 (l1.length : Int) x18_1 t108 (t108.length : Int) (wrap64 (x26_2 + 1)) a0_0 a0_1 l0_2) = some (r1, r2) := by first | (rw [hy113]; with_reducible exact H) | (have H2_ := (Option.bind_some _ _).symm.trans H; rw [hy113]; with_reducible exact H2_) | (have H2_ := (Option.bind_some _ _).symm.trans H; with_reducible exact H2_) | with_reducible exact H | (rw [hy113]; exact H) | exact H
                              have Ny113 := Aside0.mk hy113
                              clear hy113
                              have H' := Aside0.mk H
                              clear H
                              have p111 : 0 ≤ (x26_2 : Int) := of_decide_eq_true (by first | (with_reducible assumption) | assumption)
                              have q111 : x26_2 < (t108.length : Int) := of_decide_eq_true (by first | (with_reducible assumption) | assumption)
                              obtain ⟨ad111, e111, hx111_0⟩ := Kd.at_int (Kd.R_reads' HO_24.out).2.2 x26_2 p111 q111
                              cases e111
                              replace p111 := eq_true p111
                              replace q111 := eq_true q111
                              obtain ⟨Ao27, co27, eo27⟩ := Kd.R_slice HO_6.out
                              subst eo27
                              have p112 : 0 ≤ ((rd t108 x26_2) : Int) := of_decide_eq_true (by first | (with_reducible assumption) | assumption)
                              have q112 : (rd t108 x26_2) < (x6_2.length : Int) := of_decide_eq_true (by first | (with_reducible assumption) | assumption)
                              obtain ⟨ad112, e112, hx112_0⟩ := Kd.at_int (Kd.R_reads' HO_6.out).2.2 (rd t108 x26_2) p112 q112
                              cases e112
                              replace p112 := eq_true p112
                              replace q112 := eq_true q112
                              have p26 : 0 ≤ ((rd t108 x26_2) : Int) := of_decide_eq_true (by first | (with_reducible assumption) | assumption)
                              have q26 : ((rd t108 x26_2) : Int) < ((x6_2.length : Int) : Int) := of_decide_eq_true (by first | (with_reducible assumption) | assumption)
                              obtain ⟨go26, co26, eo26, gb26, gl26, cl26, HG26⟩ := Kd.R_form HO_6.out (by omega)
                              (first | cases eo26 | (injection eo26 with ea_ en_ ec_; (first | subst ea_ | (injection ea_ with ea_; subst ea_)); subst ec_; clear en_))
                              have GB26 := Aside0.mk gb26
                              have GG26 := Aside0.mk HG26
                              clear gb26 gl26 HG26
                              (first | simp only [add_plain] at hx112_0 | skip)
                              obtain ⟨hx26_0, hf26_0⟩ := Kd.R_celln 0 HO_6.out ((rd t108 x26_2) : Int) p26 q26
                              replace p26 := eq_true p26
                              replace q26 := eq_true q26
                              have HP28 := Kd.R_putg HO_6.out ((rd t108 x26_2) : Int) (wrap64 ((rd x6_2 (rd t108 x26_2)) + 1))
                              go_wp2_with (first | ((with_reducible refine gate_store (t := 3) (p := 35) rfl ?_); refine store_event (t := 3) (p := 35) (v := ?vo_w29) (w1 := (wr.setCell ⟨go26, ((rd t108 x26_2) : Int).toNat, none⟩ (.int .i64 (wrap64 ((rd x6_2 (rd t108 x26_2)) + 1))))) ?hg ?ho ?hn ?hr ?_; (case ho => rfl); (case hg => rfl); (case hn => rfl); (case hr => first | (go_simp; done) | (go_simp; rfl)); intro w29 hw; have hg : wr.grownBy w29 (some go26) := (by rw [hw]; exact HP28.2); have hp_ : Kd.R (Kd.int .i64) 3 w29 w.heap.size (fun k_ => some k_ ≠ (.slice (some ad111) t108.length co20 : Value).ownBlock) (.slice (some ⟨go26, 0, none⟩) x6_2.length co27) y113 := (by rw [hw, Ny113.out]; exact HP28.1); clear HP28; have n0_ := Aside0.mk (hp_); have n1_ := Aside0.mk (Kd.R_after (v := (.slice (some ⟨go26, 0, none⟩) x6_2.length co27)) (v1 := (.slice (some ⟨go26, 0, none⟩) x6_2.length co27)) (ok := (fun _ => True)) (by exact Ho.RS <| Kd.R_mono HO_24.out (fun _ hk => ⟨trivial, hk⟩)) hg (.inl rfl)); have n2_ := Aside0.mk (blk_grown (bS BK101.out) hg (Kd.R_ne HO_6.out BK101.out (by decide))); have n3_ := Aside0.mk (blk_grown (bS BK107.out) hg (Kd.R_ne HO_6.out BK107.out (by decide))); have n4_ := Aside0.mk ((by rw [hw]; exact below_set (HB.out) GB26.out : Below w.heap.size w w29)); clear HO_6; clear HO_24; clear BK101; clear BK107; clear HB; have HO_6 := n0_; have HO_24 := n1_; have BK101 := n2_; have BK107 := n3_; have HB := n4_; clear n0_ n1_ n2_ n3_ n4_; clear hg hw hp_))
                              go_roundg k2
                              case measure => have := HK1.out; have := HK2.out; omega
                              case rel => exact ⟨(y113), (wrap64 (x26_2 + 1)), (by first | rfl | (simp; done) | (simp [*]; done)), H', ⟨by have := HK1.out; have := HK2.out; omega⟩, ⟨by exact Ho.RS <| HO_6.out⟩, ⟨by exact Ho.RS <| Kd.R_mono HO_24.out (fun _ hk => hk.2)⟩, ⟨by exact bS BK101.out⟩, ⟨by exact bS BK107.out⟩, ⟨by exact eS HB.out⟩⟩
                            · rw [if_neg c25] at H
                              exact absurd H (by simp)
                          · rw [if_neg c24] at H
                            exact absurd H (by simp)
                        · rw [if_neg c23] at H
                          exact absurd H (by simp)
                      · rw [if_neg c22] at H
                        exact absurd H (by simp)
                    · rw [if_neg c21] at H
                      have c21b0 : decide (x26_2 < (t108.length : Int)) = false := decide_eq_false c21
                      clear c21
                      have H' := Aside0.mk H
                      clear H
                      go_wp2
                      go_roundg k2
                      case measure => have := HK1.out; have := HK2.out; omega
                      case rel => exact ⟨(x6_2), (wrap64 (x18_1 + 1)), (by first | rfl | (simp; done) | (simp [*]; done)), H', ⟨by have := HK1.out; have := HK2.out; omega⟩, ⟨by exact Ho.RS <| Kd.R_mono HO_6.out (fun _ hk => trivial)⟩, ⟨by exact bS BK101.out⟩, ⟨by exact eS HB.out⟩⟩
              · rw [if_neg c13] at H
                exact absurd H (by simp)
            · rw [if_neg c12] at H
              exact absurd H (by simp)
          · rw [if_neg c11] at H
            have c11b0 : decide (x18_1 < (l1.length : Int)) = false := decide_eq_false c11
            clear c11
            simp only [Option.some.injEq, Prod.mk.injEq] at H
            obtain ⟨rfl, rfl⟩ := H
            go_wp2
            go_ret2
            exact ⟨_, by first | rfl | (simp [errW_none, errW_some] <;> rfl) | (simp [*, errW_none, errW_some] <;> rfl), by exact Ho.RS <| HO_6.out, by exact eS HB.out⟩
    · rw [if_neg c5] at H
      exact absurd H (by simp)
  · replace c4 := Bool.eq_false_iff.mpr c4
    subst c4
    have H1 : (some (([] : List Int), false)) = some (r1, r2) := by rw [if_neg (show ¬ (false = true) by decide)] at H; exact H
    clear H
    have H := H1
    clear H1
    simp only [Option.some.injEq, Prod.mk.injEq] at H
    obtain ⟨rfl, rfl⟩ := H
    go_enter Try.func28, Try.ntmps28
    go_wp2_with (first | ((with_reducible refine gate_dst (N := 2) rfl ?_); refine box_event ?hg (N := 2) ?hd (cs := #[.int .i64 a0_0, .int .i64 a0_1, .slice A0_2 l0_2.length c0_2]) (t := 29) ?hr ?_; (case hd => rfl); (case hg => rfl); (case hr => first | (go_simp; done) | (go_simp; rfl)); intro gb101 hg w30 hbox hb; have n0_ := Aside0.mk (below_step (by exact eS HB.out) hb); have n1_ := Aside0.mk (hbox); have n2_ := Aside0.mk ((by rw [hg]; exact (below_size (by exact eS HB.out)) : w.heap.size ≤ gb101)); have n3_ := Aside0.mk ((by rw [hg]; exact (below_size (by exact eS HB.out)) : w.heap.size ≤ gb101)); clear HB; have HB := n0_; have BK101 := n1_; have GW101 := n2_; have GE101 := n3_; clear n0_ n1_ n2_ n3_; clear hb hbox hg; have hcz31_0 : w30.cell? ⟨gb101, 0, none⟩ = some (.int .i64 a0_0) := (blk_cell BK101.out 0).trans rfl; have hcz31_1 : w30.cell? ⟨gb101, 1, none⟩ = some (.int .i64 a0_1) := (blk_cell BK101.out 1).trans rfl; have hcz31_2 : w30.cell? ⟨gb101, 2, none⟩ = some (.slice A0_2 l0_2.length c0_2) := (blk_cell BK101.out 2).trans rfl; have hfz31_0 := blk_frozen BK101.out 0; have hfz31_1 := blk_frozen BK101.out 1; have hfz31_2 := blk_frozen BK101.out 2) | ((with_reducible refine gate_callee (f := 15) rfl ?_); refine goesL_ (some 13) rfl rfl Try.func15 (by kernel_rfl) rfl #[.agg #[.int .i64 a0_0, .int .i64 a0_1, .slice A0_2 l0_2.length c0_2], .slice A1 l1.length c1] rfl (by (try simp only [List.map_toArray, List.map_cons, List.map_nil]); first | done | rfl | (simp only [List.length_drop, List.length_take]; rfl)) ?_; (with_reducible refine (impl_AreHoles.calls k a0_0 a0_1 _ _ l0_2 _ _ l1 false _ ?side1 ?side2 ?side3 ?side4 A3.out).mono ?_); (case side1 => repeat (first | exact (Kd.C_below HR0_2.out HB.out) | (with_reducible refine Kd.C_alloc ?_ _) | (with_reducible refine Kd.C_drewN ?_ _) | (with_reducible refine Kd.C_drew ?_))); (case side2 => exact HC0_2.out); (case side3 => repeat (first | exact (Kd.C_below HR1.out HB.out) | (with_reducible refine Kd.C_alloc ?_ _) | (with_reducible refine Kd.C_drewN ?_ _) | (with_reducible refine Kd.C_drew ?_))); (case side4 => exact HC1.out); rintro e w32 ⟨rfl, hb⟩; refine ⟨_, rfl, ?_⟩; have n0_ := Aside0.mk (blk_below (bS BK101.out) hb); have n1_ := Aside0.mk (below_step (by exact eS HB.out) hb); clear BK101; clear HB; have BK101 := n0_; have HB := n1_; clear n0_ n1_; (try clear hb); (try clear hb2); (try clear hk); (try clear hi)))
    go_ret2
    exact ⟨_, by first | rfl | (simp [errW_none, errW_some] <;> rfl) | (simp [*, errW_none, errW_some] <;> rfl), by first | exact Kd.R_nil _ _ _ _ _ | exact Kd.N_nil _ _ _ _ _ | exact Kd.V_nil _ _ _ _ _ | exact Kd.Q_nil _ _ _ _ _ | exact Kd.S_nil _ _ _ _ _, by exact eS HB.out⟩

end Go.Proofs.Ytbfhphobnngeaaa.X

-- QyarnlostI
namespace Go.Proofs.Ytbfhphobnngeaaa.Pure
open Go Go.RowKit Go.Proofs Go.Proofs.Ytbfhphobnngeaaa.X Go.Proofs.YtbfhphobnngeaaaW.PrintWords Go.Proofs.YtbfhphobnngeaaaW.PrintLast
set_option linter.unusedVariables false
set_option linter.unusedSimpArgs false

theorem rows_rev (bt t : Nat) (ht : t ≤ bt) : (List.range' 0 (bt + 1 - t)).map (fun r => bt - r) = (List.range' t (bt + 1 - t)).reverse := by
  apply List.ext_getElem
  · simp
  · intro i h1 h2
    simp at h1 h2 ⊢
    omega
theorem lost_ex {w : Nat} {h : Int} {l : List Int} (hc : chartB w h l = true) (t lf bt rt : Nat) (h1 : t ≤ bt ∧ (bt : Int) ≤ h - 1) (h2 : lf ≤ rt ∧ (rt : Int) ≤ w - 1) :
    ∃ k0, ∀ k, k0 ≤ k → impl_Chart_lost.f k w h l t lf bt rt = some ((List.range' t (bt + 1 - t)).reverse.flatMap (rowC w l lf (rt + 1 - lf))) := by
  have hcw := chart_of hc
  obtain ⟨_, q, hq⟩ := nest_inv (fun k (s : List Int) r => impl_Chart_lost.l0 k s ((bt : Int) - r) (w : Int) h l t lf bt rt) (fun k s => some s) (fun s r => s ++ rowC w l lf (rt + 1 - lf) (bt - r)) (fun r s => s.length ≤ 8 * r) (bt + 1 - t) 0
    (fun r s hr hs => by
      obtain ⟨hI, c, hcc⟩ := nest_inv (fun k (s : List Int) b => impl_Chart_lost.l1 k s ((bt : Int) - r) b (w : Int) h l t lf bt rt) (fun k s => impl_Chart_lost.l0 k s (wrap64 ((bt : Int) - r - 1)) (w : Int) h l t lf bt rt) (fun s b => s ++ [rd l (((bt - r) * w + b : Nat) : Int)]) (fun b s => lf ≤ b ∧ s.length ≤ 8 * r + (b - lf)) (rt + 1) 0
        (fun b s hbr hs => by
          obtain ⟨hs1, hs2⟩ := hs
          refine ⟨⟨by omega, by rw [List.length_append, List.length_singleton]; omega⟩, 1, fun k _ => ?_⟩
          obtain ⟨hp, hcol⟩ := place_of hc (a := ((bt : Int) - r)) (c := (b : Int)) (by omega) (by omega)
          simp only [impl_Chart_lost.l1]
          rw [if_pos (by omega), atI_eq hc (by omega) (by omega)]
          simp only [Option.bind_some]
          rw [if_pos (by omega), wstep (n := rt + 1) (by omega) (by omega), show (((bt - r) * w + b : Nat) : Int) = ((bt : Int) - r) * w + b by push_cast [show r ≤ bt by omega]; rfl])
        (fun k s hs => by
          simp only [impl_Chart_lost.l1]
          rw [if_neg (by push_cast; omega)])
        (rt + 1 - lf) lf s (by omega) ⟨by omega, by omega⟩
      have e : (List.range' lf (rt + 1 - lf)).foldl (fun s b => s ++ [rd l (((bt - r) * w + b : Nat) : Int)]) s = s ++ rowC w l lf (rt + 1 - lf) (bt - r) := by
        rw [foldl_app (fun b => [rd l (((bt - r) * w + b : Nat) : Int)])]
        unfold rowC
        congr 1
        induction (List.range' lf (rt + 1 - lf)) with
        | nil => rfl
        | cons x m ih => rw [List.flatMap_cons, List.map_cons, ih]; rfl
      rw [e] at hI hcc
      refine ⟨by have := hI.2; show (s ++ rowC w l lf (rt + 1 - lf) (bt - r)).length ≤ 8 * (r + 1); omega, c + 1, fun k hk => ?_⟩
      show impl_Chart_lost.l0 (k + c + 1) s ((bt : Int) - r) (w : Int) h l t lf bt rt = _
      simp only [impl_Chart_lost.l0]
      rw [if_pos (by omega), hcc k hk, w64 (by omega) (by omega)]
      congr 1
      push_cast; omega)
    (fun k s hs => by
      simp only [impl_Chart_lost.l0]
      rw [if_neg (by omega)])
    (bt + 1 - t) 0 [] (by omega) (by simp)
  refine ⟨q, fun k hk => ?_⟩
  obtain ⟨k2, rfl⟩ : ∃ k2, k = k2 + q := ⟨k - q, by omega⟩
  unfold impl_Chart_lost.f
  have := hq k2 (by omega)
  simp only [Int.ofNat_zero, Int.sub_zero] at this
  rw [this, foldl_app (fun r => rowC w l lf (rt + 1 - lf) (bt - r)), List.nil_append, ← rows_rev bt t h1.1, List.flatMap_map]
theorem yarnI_ex {w h : Int} {l : List Int} {hl : List S39} (hb : hl.length ≤ 1048576) : ∃ k0, ∀ k, k0 ≤ k → impl_YarnLost.f k w h l hl = some (yarnM w h l hl) := by
  cases hg : holesB w h l hl
  · refine ⟨hl.length + 11, fun k hk => ?_⟩
    simp only [impl_YarnLost.f, AreHoles_eq (k := k) (w := w) (h := h) (l := l) (hl := hl) (by omega) hb, hg, Option.bind_some, yarnM]
    simp
  obtain ⟨hc, h8, hx⟩ := holes_of hg
  have hcw := chart_of hc
  obtain ⟨w', rfl⟩ := nat_of (show 0 ≤ w by omega)
  obtain ⟨m0, hm0⟩ := ex_max (fun i k => impl_Chart_lost.f k w' h l (hl.getD i z39).f0 (hl.getD i z39).f1 (hl.getD i z39).f2 (hl.getD i z39).f3 = some ((List.range' (hl.getD i z39).f0.toNat ((hl.getD i z39).f2 + 1 - (hl.getD i z39).f0).toNat).reverse.flatMap (rowC w' l (hl.getD i z39).f1.toNat ((hl.getD i z39).f3 + 1 - (hl.getD i z39).f1).toNat))) hl.length
    (fun i hi => by
      have hm : hl.getD i z39 ∈ hl := by rw [List.getD_eq_getElem?_getD, List.getElem?_eq_getElem hi]; exact List.getElem_mem hi
      have hxx := hole_of (hx _ hm)
      obtain ⟨⟨f0, f1, f2, f3⟩, hx0⟩ : ∃ x : S39, hl.getD i z39 = x := ⟨_, rfl⟩
      rw [hx0] at hxx ⊢
      simp only at hxx ⊢
      obtain ⟨t, rfl⟩ := nat_of (show 0 ≤ f0 by omega)
      obtain ⟨lf, rfl⟩ := nat_of (show 0 ≤ f1 by omega)
      obtain ⟨bt, rfl⟩ := nat_of (show 0 ≤ f2 by omega)
      obtain ⟨rt, rfl⟩ := nat_of (show 0 ≤ f3 by omega)
      simp only [Int.toNat_natCast]
      rw [show ((bt : Int) + 1 - t).toNat = bt + 1 - t by omega, show ((rt : Int) + 1 - lf).toNat = rt + 1 - lf by omega]
      exact lost_ex hc t lf bt rt (by omega) (by omega))
  obtain ⟨_, q, hq⟩ := nest_inv (fun k (s : List Int) i => impl_YarnLost.l0 k s hl (hl.length : Int) i (w' : Int) h l) (fun k s => some (s, true)) (stepH w' l hl) (fun _ s => s.length = 6) hl.length m0
    (fun i s hi hs => by
      have hm : hl.getD i z39 ∈ hl := by rw [List.getD_eq_getElem?_getD, List.getElem?_eq_getElem hi]; exact List.getElem_mem hi
      have hxx := hole_of (hx _ hm)
      refine ⟨by unfold stepH; rw [bumps_len]; exact hs, ?_⟩
      have hlost := hm0 i hi
      obtain ⟨m, hmm⟩ : ∃ m, m = ((List.range' (hl.getD i z39).f0.toNat ((hl.getD i z39).f2 + 1 - (hl.getD i z39).f0).toNat).reverse.flatMap (rowC w' l (hl.getD i z39).f1.toNat ((hl.getD i z39).f3 + 1 - (hl.getD i z39).f1).toNat)) := ⟨_, rfl⟩
      rw [← hmm] at hlost
      have hcol : ∀ v ∈ m, 0 ≤ v ∧ v ≤ 5 := by
        intro v hv
        rw [hmm, List.mem_flatMap] at hv
        obtain ⟨a, ha, hv⟩ := hv
        unfold rowC at hv
        rw [List.mem_map] at hv
        obtain ⟨c, hcc, rfl⟩ := hv
        rw [List.mem_reverse, List.mem_range'_1] at ha
        rw [List.mem_range'_1] at hcc
        have := (place_of hc (a := (a : Int)) (c := (c : Int)) (by omega) (by omega)).2
        rw [show ((a * w' + c : Nat) : Int) = (a : Int) * w' + c by push_cast; rfl]
        exact this
      have hlen : m.length ≤ 9223372036854775806 := by
        rw [hmm, List.length_flatMap]
        have hmax : ∀ (n : Nat) (q : List Nat), (q.map fun a => (rowC w' l (hl.getD i z39).f1.toNat n a).length).sum = q.length * n := by
          intro n q
          induction q with
          | nil => simp
          | cons x q ih => rw [List.map_cons, List.sum_cons, ih]; unfold rowC; rw [List.length_map, List.length_range', List.length_cons, Nat.succ_mul]; omega
        rw [hmax, List.length_reverse, List.length_range']
        have := Nat.mul_le_mul (show ((hl.getD i z39).f2 + 1 - (hl.getD i z39).f0).toNat ≤ 8 by omega) (show ((hl.getD i z39).f3 + 1 - (hl.getD i z39).f1).toNat ≤ 8 by omega)
        omega
      obtain ⟨_, c, hcc⟩ := nest_inv (fun k (s : List Int) j => impl_YarnLost.l1 k s hl (hl.length : Int) (i : Int) m (m.length : Int) j (w' : Int) h l) (fun k s => impl_YarnLost.l0 k s hl (hl.length : Int) ((i + 1 : Nat) : Int) (w' : Int) h l) (fun s j => bump s (m.getD j 0)) (fun _ s => s.length = 6) m.length 0
        (fun j s hj hs => by
          have hmj : m.getD j 0 ∈ m := by rw [List.getD_eq_getElem?_getD, List.getElem?_eq_getElem hj]; exact List.getElem_mem hj
          have hv := hcol _ hmj
          refine ⟨by rw [bump_len]; exact hs, 1, fun k _ => ?_⟩
          simp only [impl_YarnLost.l1, rd_nat m]
          rw [if_pos (by omega), if_pos (by omega), if_pos (by omega), if_pos (by omega), if_pos (by omega), wstep hj (by omega), bump_set _ _ (by omega)])
        (fun k s hs => by
          simp only [impl_YarnLost.l1]
          rw [if_neg (by omega), wstep hi (by omega)])
        m.length 0 s (by omega) hs
      refine ⟨c + 1, fun k hk => ?_⟩
      show impl_YarnLost.l0 (k + c + 1) s hl (hl.length : Int) (i : Int) (w' : Int) h l = _
      simp only [impl_YarnLost.l0]
      rw [if_pos (by omega), if_pos (by omega), if_pos (by omega), rdIHole_nat, hlost (k + c) (by omega)]
      simp only [Option.bind_some]
      have e : (List.range' 0 m.length).foldl (fun s j => bump s (m.getD j 0)) s = m.foldl bump s := by
        rw [← List.foldl_map (f := fun j => m.getD j 0) (g := bump)]
        congr 1
        apply List.ext_getElem
        · simp
        · intro j h1 h2
          simp [List.getD_eq_getElem?_getD, List.getElem?_eq_getElem h2]
      rw [e] at hcc
      rw [show (0 : Int) = ((0 : Nat) : Int) from rfl, hcc k (by omega), hmm]
      unfold stepH cellsH
      rw [bump_perm (cells_perm _ _)])
    (fun k s hs => by
      simp only [impl_YarnLost.l0]
      rw [if_neg (by omega)])
    hl.length 0 (List.replicate 6 0) (by omega) (by simp)
  refine ⟨hl.length + 11 + (m0 + q), fun k hk => ?_⟩
  simp only [impl_YarnLost.f, AreHoles_eq (k := k) (w := (w' : Int)) (h := h) (l := l) (hl := hl) (by omega) hb, hg, Option.bind_some, yarnM, if_true]
  rw [if_pos (by omega)]
  obtain ⟨k2, rfl, hk2⟩ : ∃ k2, k = k2 + q ∧ m0 ≤ k2 := ⟨k - q, by omega, by omega⟩
  have := hq k2 hk2
  simpa using this

end Go.Proofs.Ytbfhphobnngeaaa.Pure

-- Qminutes
namespace Go.Proofs.Ytbfhphobnngeaaa.Pure
open Go Go.RowKit Go.Proofs Go.Proofs.Ytbfhphobnngeaaa.X Go.Proofs.YtbfhphobnngeaaaW.PrintWords Go.Proofs.YtbfhphobnngeaaaW.PrintLast
set_option linter.unusedVariables false
set_option linter.unusedSimpArgs false

/-- the cells of a hole in the order in which they are mended -/
def cellsM (w : Nat) (l : List Int) (t lf bt rt : Nat) : List Int := (List.range' t (bt + 1 - t)).reverse.flatMap (rowC w l lf (rt + 1 - lf))
theorem cellsM_len (w : Nat) (l : List Int) (t lf bt rt : Nat) : (cellsM w l t lf bt rt).length = (bt + 1 - t) * (rt + 1 - lf) := by
  have : ∀ m : List Nat, (m.flatMap (rowC w l lf (rt + 1 - lf))).length = m.length * (rt + 1 - lf) := by
    intro m
    induction m with
    | nil => simp
    | cons a m ih => rw [List.flatMap_cons, List.length_append, ih, rowC, List.length_map, List.length_range', List.length_cons, Nat.add_mul, Nat.one_mul, Nat.add_comm]
  unfold cellsM
  rw [this, List.length_reverse, List.length_range']
theorem cellsM_pos {w : Nat} {h : Int} {l : List Int} (hc : chartB w h l = true) (t lf bt rt : Nat) (h1 : t ≤ bt ∧ (bt : Int) ≤ h - 1) (h2 : lf ≤ rt ∧ (rt : Int) ≤ w - 1) : ∀ c ∈ cellsM w l t lf bt rt, 0 ≤ c := by
  intro c hcm
  unfold cellsM rowC at hcm
  simp only [List.mem_flatMap, List.mem_reverse, List.mem_map, List.mem_range'_1] at hcm
  obtain ⟨a, ha, b, hb, rfl⟩ := hcm
  have := (place_of hc (a := (a : Int)) (c := (b : Int)) (by omega) (by omega)).2
  rw [show ((a * w + b : Nat) : Int) = (a : Int) * w + b by push_cast; rfl]
  exact this.1
def minutesM (w : Nat) (l : List Int) (t lf bt rt : Nat) : Int := 2 * ((cellsM w l t lf bt rt).length : Int) + chg (cellsM w l t lf bt rt) (cellsM w l t lf bt rt).length
theorem cellsM_bd {w : Nat} {h : Int} {l : List Int} (hc : chartB w h l = true) (t lf bt rt : Nat) (h1 : t ≤ bt ∧ (bt : Int) ≤ h - 1) (h2 : lf ≤ rt ∧ (rt : Int) ≤ w - 1) : 0 < (cellsM w l t lf bt rt).length ∧ (cellsM w l t lf bt rt).length ≤ 64 := by
  have hcw := chart_of hc
  rw [cellsM_len]
  exact ⟨Nat.mul_pos (by omega) (by omega), Nat.mul_le_mul (show bt + 1 - t ≤ 8 by omega) (show rt + 1 - lf ≤ 8 by omega)⟩
theorem minutesI_ex {w : Nat} {h : Int} {l : List Int} (hc : chartB w h l = true) (t lf bt rt : Nat) (h1 : t ≤ bt ∧ (bt : Int) ≤ h - 1) (h2 : lf ≤ rt ∧ (rt : Int) ≤ w - 1) :
    ∃ k0, ∀ k, k0 ≤ k → impl_Chart_minutes.f k w h l t lf bt rt = some (minutesM w l t lf bt rt) := by
  obtain ⟨q, hq⟩ := lost_ex hc t lf bt rt h1 h2
  have hb := cellsM_bd hc t lf bt rt h1 h2
  refine ⟨q + 200, fun k hk => ?_⟩
  obtain ⟨r, er, hr⟩ := compact_ex (k := k) (x := cellsM w l t lf bt rt) (by omega) hb.1 (by omega)
  have hch := chg_le (cellsM w l t lf bt rt) (cellsM w l t lf bt rt).length
  have e0 : impl_Chart_lost.f k w h l t lf bt rt = some (cellsM w l t lf bt rt) := hq k (by omega)
  simp only [impl_Chart_minutes.f, e0, er, Option.bind_some, hr, minutesM]
  rw [w64 (x := 2 * _) (by omega) (by omega), w64 (x := _ + _) (by push_cast; omega) (by push_cast; omega), w64 (by push_cast; omega) (by push_cast; omega)]
  congr 1
  push_cast; omega
theorem minutesS_ex {w : Nat} {h : Int} {l : List Int} (hc : chartB w h l = true) (t lf bt rt : Nat) (h1 : t ≤ bt ∧ (bt : Int) ≤ h - 1) (h2 : lf ≤ rt ∧ (rt : Int) ≤ w - 1) :
    ∃ k0, ∀ k, k0 ≤ k → spec_l23Minutes.f k w h l t lf bt rt = some (minutesM w l t lf bt rt) := by
  have hcw := chart_of hc
  obtain ⟨_, q, hq⟩ := nest_inv (fun k (s : Int × Int) r => spec_l23Minutes.l0 k s.1 s.2 ((bt : Int) - r) (w : Int) h l t lf bt rt) (fun k s => some s.1) (fun s r => (rowC w l lf (rt + 1 - lf) (bt - r)).foldl stepM s) (fun r s => 0 ≤ s.1 ∧ s.1 ≤ 128 + 8 * r) (bt + 1 - t) 0
    (fun r s hr hs => by
      obtain ⟨hI, c, hcc⟩ := nest_inv (fun k (s : Int × Int) b => spec_l23Minutes.l1 k s.1 s.2 ((bt : Int) - r) b (w : Int) h l t lf bt rt) (fun k s => spec_l23Minutes.l0 k s.1 s.2 (wrap64 ((bt : Int) - r - 1)) (w : Int) h l t lf bt rt) (fun s b => stepM s (rd l (((bt - r) * w + b : Nat) : Int))) (fun b s => lf ≤ b ∧ 0 ≤ s.1 ∧ s.1 ≤ 128 + 8 * r + (b - lf)) (rt + 1) 0
        (fun b s hbr hs => by
          obtain ⟨hs1, hs2, hs3⟩ := hs
          refine ⟨⟨by omega, by unfold stepM; (repeat' split) <;> (try simp only) <;> omega, by unfold stepM; (repeat' split) <;> (try simp only) <;> push_cast <;> omega⟩, 1, fun k _ => ?_⟩
          simp only [spec_l23Minutes.l1]
          rw [if_pos (by omega), atS_eq hc (by omega) (by omega), show ((bt : Int) - r) * w + b = (((bt - r) * w + b : Nat) : Int) by push_cast [show r ≤ bt by omega]; rfl]
          simp only [Option.bind_some]
          rw [wstep (n := rt + 1) (by omega) (by omega)]
          unfold stepM
          generalize rd l (((bt - r) * w + b : Nat) : Int) = c
          by_cases g : c = s.2
          · rw [if_pos g, if_pos g]
          · rw [if_neg g, if_neg g]
            by_cases g2 : s.2 ≥ 0
            · rw [if_pos g2, if_pos g2, w64 (x := s.1 + 1) (by omega) (by omega)]
            · rw [if_neg g2, if_neg g2])
        (fun k s hs => by
          simp only [spec_l23Minutes.l1]
          rw [if_neg (by push_cast; omega)])
        (rt + 1 - lf) lf s (by omega) ⟨by omega, by omega, by omega⟩
      have e : (List.range' lf (rt + 1 - lf)).foldl (fun s b => stepM s (rd l (((bt - r) * w + b : Nat) : Int))) s = (rowC w l lf (rt + 1 - lf) (bt - r)).foldl stepM s := by
        unfold rowC
        rw [List.foldl_map]
      rw [e] at hI hcc
      refine ⟨⟨hI.2.1, by have := hI.2.2; push_cast; omega⟩, c + 1, fun k hk => ?_⟩
      show spec_l23Minutes.l0 (k + c + 1) s.1 s.2 ((bt : Int) - r) (w : Int) h l t lf bt rt = _
      simp only [spec_l23Minutes.l0]
      rw [if_pos (by omega), hcc k hk, w64 (by omega) (by omega)]
      congr 1
      push_cast; omega)
    (fun k s hs => by
      simp only [spec_l23Minutes.l0]
      rw [if_neg (by omega)])
    (bt + 1 - t) 0 (2 * ((cellsM w l t lf bt rt).length : Int), -1) (by omega) (by have := cellsM_bd hc t lf bt rt h1 h2; constructor <;> simp only <;> omega)
  have hb := cellsM_bd hc t lf bt rt h1 h2
  have hl := cellsM_len w l t lf bt rt
  refine ⟨q, fun k hk => ?_⟩
  obtain ⟨k2, rfl⟩ : ∃ k2, k = k2 + q := ⟨k - q, by omega⟩
  have hkn : wrap64 ((wrap64 ((wrap64 ((bt : Int) - t)) + 1)) * (wrap64 ((wrap64 ((rt : Int) - lf)) + 1))) = ((cellsM w l t lf bt rt).length : Int) := by
    rw [w64 (x := (bt : Int) - t) (by omega) (by omega), w64 (x := (bt : Int) - t + 1) (by omega) (by omega), w64 (x := (rt : Int) - lf) (by omega) (by omega), w64 (x := (rt : Int) - lf + 1) (by omega) (by omega)]
    have : ((bt : Int) - t + 1) * ((rt : Int) - lf + 1) = ((cellsM w l t lf bt rt).length : Int) := by
      rw [hl]; push_cast [show t ≤ bt + 1 by omega, show lf ≤ rt + 1 by omega]
      congr 1 <;> omega
    rw [this]
    exact w64 (by omega) (by omega)
  simp only [spec_l23Minutes.f, spec_l23Knots.f, Option.bind_some, hkn]
  rw [w64 (x := 2 * _) (by omega) (by omega)]
  have := hq k2 (by omega)
  simp only [Int.ofNat_zero, Int.sub_zero] at this
  rw [this]
  congr 1
  have hf := stepM_all (2 * ((cellsM w l t lf bt rt).length : Int)) (cellsM w l t lf bt rt) (cellsM_pos hc t lf bt rt h1 h2) hb.1
  unfold minutesM
  rw [← hf]
  congr 1
  unfold cellsM
  rw [List.foldl_flatMap, ← rows_rev bt t h1.1, List.foldl_map]
def mendM (w h : Int) (l : List Int) (hl : List S39) (i : Int) : Int × Bool :=
  if holesB w h l hl && decide (0 ≤ i ∧ i ≤ (hl.length : Int) - 1) then (let x := hl.getD i.toNat z39; (minutesM w.toNat l x.f0.toNat x.f1.toNat x.f2.toNat x.f3.toNat, true)) else (0, false)
theorem mend_ex {w h : Int} {l : List Int} {hl : List S39} (hl0 : l.length ≤ 1048576) (hb : hl.length ≤ 1048576) (i : Int) : ∃ k0, ∀ k, k0 ≤ k → spec_MendMinutes.f k w h l hl i = some (mendM w h l hl i) ∧ impl_MendMinutes.f k w h l hl i = some (mendM w h l hl i) := by
  have hw1 : wrap64 ((hl.length : Int) - 1) = (hl.length : Int) - 1 := w64 (by omega) (by omega)
  have hdef : ∀ k, (hl.length + 1) * (hl.length + l.length + 10) + hl.length + 11 ≤ k → spec_l23Good.f k w h l hl = some (holesB w h l hl) ∧ impl_AreHoles.f k w h l hl = some (holesB w h l hl) := fun k hk => ⟨holesS_eq (by omega) hl0 hb, AreHoles_eq (by omega) hb⟩
  cases hg : (holesB w h l hl && decide (0 ≤ i ∧ i ≤ (hl.length : Int) - 1))
  · refine ⟨(hl.length + 1) * (hl.length + l.length + 10) + hl.length + 11, fun k hk => ?_⟩
    obtain ⟨e1, e2⟩ := hdef k hk
    simp only [spec_MendMinutes.f, impl_MendMinutes.f, impl_hasHole.f, e1, e2, l1In_eq, in_eq, Option.bind_some, hw1, mendM, hg]
    cases hA : holesB w h l hl
    · simp
    · rw [hA, Bool.true_and] at hg
      rw [hg]; simp
  rw [Bool.and_eq_true] at hg
  obtain ⟨hc, h8, hx⟩ := holes_of hg.1
  have hcw := chart_of hc
  have hi := of_decide_eq_true hg.2
  obtain ⟨w', rfl⟩ := nat_of (show 0 ≤ w by omega)
  obtain ⟨j, rfl⟩ := nat_of hi.1
  have hlt : j < hl.length := by omega
  have hm : hl.getD j z39 ∈ hl := by rw [List.getD_eq_getElem?_getD, List.getElem?_eq_getElem hlt]; exact List.getElem_mem hlt
  have hh := hole_of (hx _ hm)
  obtain ⟨⟨f0, f1, f2, f3⟩, hx0⟩ : ∃ x : S39, hl.getD j z39 = x := ⟨_, rfl⟩
  rw [hx0] at hh
  simp only at hh
  obtain ⟨t, rfl⟩ := nat_of (show 0 ≤ f0 by omega)
  obtain ⟨lf, rfl⟩ := nat_of (show 0 ≤ f1 by omega)
  obtain ⟨bt, rfl⟩ := nat_of (show 0 ≤ f2 by omega)
  obtain ⟨rt, rfl⟩ := nat_of (show 0 ≤ f3 by omega)
  obtain ⟨qS, hS⟩ := minutesS_ex hc t lf bt rt (by omega) (by omega)
  obtain ⟨qI, hI⟩ := minutesI_ex hc t lf bt rt (by omega) (by omega)
  refine ⟨(hl.length + 1) * (hl.length + l.length + 10) + hl.length + 11 + qS + qI, fun k hk => ?_⟩
  obtain ⟨e1, e2⟩ := hdef k (by omega)
  simp only [spec_MendMinutes.f, impl_MendMinutes.f, impl_hasHole.f, e1, e2, l1In_eq, in_eq, Option.bind_some, hw1, mendM, hg.1, hg.2, if_true, Bool.and_self, rdIHole_nat, Int.toNat_natCast, hx0, hS k (by omega), hI k (by omega)]
  rw [if_pos (by omega), if_pos (by omega)]
  exact ⟨rfl, rfl⟩

end Go.Proofs.Ytbfhphobnngeaaa.Pure

-- PureFnExactMendMinutes
namespace Go.Proofs.Ytbfhphobnngeaaa.Pure
open Go Go.RowKit Go.Proofs Go.Proofs.Ytbfhphobnngeaaa.X Go.Proofs.YtbfhphobnngeaaaW.PrintWords Go.Proofs.YtbfhphobnngeaaaW.PrintLast
set_option linter.unusedVariables false
set_option linter.unusedSimpArgs false

theorem FnExactMendMinutes : laws_FnExactMendMinutes.Pure := by
  intro w h l fl i _ _ hl hf _
  obtain ⟨k1, e1⟩ : ∃ k0, ∀ k, k0 ≤ k → l.length ≤ 1048576 → (fl.map toHole).length ≤ 1048576 → spec_MendMinutes.f k w h l (fl.map toHole) i = some (mendM w h l (fl.map toHole) i) ∧ impl_MendMinutes.f k w h l (fl.map toHole) i = some (mendM w h l (fl.map toHole) i) := by
    by_cases g : l.length ≤ 1048576 ∧ (fl.map toHole).length ≤ 1048576
    · obtain ⟨k0, hk⟩ := mend_ex (w := w) (h := h) (l := l) (hl := fl.map toHole) g.1 g.2 i
      exact ⟨k0, fun k h1 _ _ => hk k h1⟩
    · exact ⟨0, fun k _ a b => absurd ⟨a, b⟩ g⟩
  obtain ⟨k, hk, hk1⟩ : ∃ k, 4000000 < k ∧ k1 ≤ k := ⟨k1 + 4000001, by omega, by omega⟩
  refine ⟨k + 1, ?_⟩
  simp only [laws_FnExactMendMinutes.f, szChart_eq hl.1 (show (0 : Int) ≤ 1048576 ∧ (1048576 : Int) ≤ 9223372036854775807 by omega), Option.bind_some]
  by_cases hs : (1048576 : Int) < l.length
  · simp [hs]
  rw [if_neg hs, if_neg (by omega), szHoleS_eq hf.1 (by omega)]
  simp only [Option.bind_some]
  by_cases hs2 : (1048576 : Int) - l.length < fl.length
  · simp [hs2]
  rw [if_neg hs2, if_neg (by omega)]
  have h1 : l.length ≤ 1048576 := by omega
  have h2 : fl.length ≤ 1048576 := by omega
  have h3 : (fl.map toHole).length ≤ 1048576 := by rw [List.length_map]; exact h2
  simp only [toChart_eq (k := k + 1) (w := w) (h := h) (l := l) (by omega) h1, toHoleS_eq (k := k + 1) (l := fl) (by omega) h2, Option.bind_some, (e1 (k + 1) (by omega) h1 h3).1, (e1 (k + 1) (by omega) h1 h3).2, if_true, bne_self_eq_false, laws_FnExactMendMinutes.j0, Bool.false_eq_true, if_false, toChart_eq (k := k) (w := w) (h := h) (l := l) (by omega) h1, toHoleS_eq (k := k) (l := fl) (by omega) h2, eqChart_refl (k := k) (w := w) (h := h) (l := l) (by omega) h1, eqHoleS_refl (k := k) (l := fl.map toHole) (by omega) (by omega)]

end Go.Proofs.Ytbfhphobnngeaaa.Pure
