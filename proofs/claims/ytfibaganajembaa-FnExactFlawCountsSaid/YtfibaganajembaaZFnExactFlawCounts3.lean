/- What the law FnExactFlawCounts needs, part 4 of 4: what each function of the program that it reaches returns (printed by this session's own program, checked by Lean), and plain mathematics about it. Conditions: those of each theorem. -/
import Derived.Test.YtfibaganajembaaZFnExactFlawCounts2
-- Qflawcounts
namespace Go.Proofs.Ytfibaganajembaa.Pure
open Go Go.RowKit Go.Proofs Go.Proofs.Ytfibaganajembaa.X Go.Proofs.YtfibaganajembaaW.PrintWords Go.Proofs.YtfibaganajembaaW.PrintLast
set_option linter.unusedVariables false
set_option linter.unusedSimpArgs false

def countStep (c : List Int) (x : S32) : List Int := c.set x.f0.toNat (rd c x.f0 + 1)
def countsM (fl : List S32) : List Int := fl.foldl countStep (List.replicate 5 0)
theorem rd_set (c : List Int) (n : Nat) (v : Int) (j : Int) (hn : n < c.length) : rd (c.set n v) j = if j.toNat = n then v else rd c j := by
  unfold rd
  rw [List.getD_eq_getElem?_getD, List.getElem?_set]
  by_cases h : n = j.toNat
  · rw [if_pos h, if_pos hn, if_pos h.symm]; rfl
  · rw [if_neg h, if_neg (fun e => h e.symm), ← List.getD_eq_getElem?_getD]
theorem counts_loop (L : Nat → List Int → Int → Option (List Int × Bool)) (fl : List S32) (hb : fl.length ≤ 1000) (hk0 : ∀ x ∈ fl, 0 ≤ x.f0 ∧ x.f0 ≤ 4)
    (hs : ∀ k c (i : Nat), i < fl.length → c.length = 5 → (∀ j, 0 ≤ rd c j ∧ rd c j ≤ i) → L (k + 1) c i = L k (countStep c (fl.getD i z32)) (wrap64 ((i : Int) + 1)))
    (he : ∀ k c (i : Nat), fl.length ≤ i → L (k + 1) c i = some (c, true)) :
    ∀ n k (i : Nat) c, i + n = fl.length → n < k → c.length = 5 → (∀ j, 0 ≤ rd c j ∧ rd c j ≤ i) → L k c i = some ((fl.drop i).foldl countStep c, true) := by
  intro n
  induction n with
  | zero =>
    intro k i c hi hk hl hj
    obtain ⟨k, rfl, _⟩ := succ_of hk
    rw [he k c i (by omega), List.drop_eq_nil_of_le (by omega)]; rfl
  | succ n ih =>
    intro k i c hi hk hl hj
    obtain ⟨k, rfl, hk⟩ := succ_of hk
    have hlt : i < fl.length := by omega
    have hm : fl.getD i z32 ∈ fl := by rw [List.getD_eq_getElem?_getD, List.getElem?_eq_getElem hlt]; exact List.getElem_mem hlt
    have hx := hk0 _ hm
    rw [hs k c i hlt hl hj, wstep hlt (by omega), drop_step hlt z32, List.foldl_cons]
    refine ih k (i + 1) _ (by omega) (by omega) (by rw [countStep, List.length_set]; exact hl) (fun j => ?_)
    unfold countStep
    rw [rd_set c _ _ j (by omega)]
    have h1 := hj j
    have h2 := hj (fl.getD i z32).f0
    push_cast
    split <;> omega
theorem counts_len (fl : List S32) : ∀ c : List Int, (fl.foldl countStep c).length = c.length := by
  induction fl with
  | nil => intro c; rfl
  | cons x l ih => intro c; rw [List.foldl_cons, ih, countStep, List.length_set]
def flawCountsM (w h : Int) (l : List Int) (fl : List S32) : List Int × Bool := if flawsB w h l fl then (countsM fl, true) else ([], false)
theorem flaws_of {w h : Int} {l : List Int} {fl : List S32} (hb : flawsB w h l fl = true) : chartB w h l = true ∧ fl.length ≤ 12 ∧ ∀ x ∈ fl, flawB w h x = true := by
  simp only [flawsB, Bool.and_eq_true, decide_eq_true_eq, List.all_eq_true] at hb
  exact ⟨hb.1, hb.2.1, hb.2.2.1⟩
theorem flaw_of {w h : Int} {x : S32} (hb : flawB w h x = true) : (0 ≤ x.f0 ∧ x.f0 ≤ 4) ∧ (1 ≤ x.f3 ∧ x.f3 ≤ 9) ∧ (0 ≤ x.f1 ∧ x.f1 ≤ h - 1) ∧ (0 ≤ x.f2 ∧ x.f2 ≤ w - 1) := by
  simpa only [flawB, Bool.and_eq_true, decide_eq_true_eq] using hb
theorem rd_rep (j : Int) : rd (List.replicate 5 (0 : Int)) j = 0 := by
  unfold rd
  rw [List.getD_eq_getElem?_getD, List.getElem?_replicate]
  split <;> rfl
theorem countsS_eq {k : Nat} {w h : Int} {l : List Int} {fl : List S32} (hk : l.length + fl.length + 5 < k) (hl : l.length ≤ 1048576) (hf : fl.length ≤ 1048576) : spec_FlawCounts.f k w h l fl = some (flawCountsM w h l fl) := by
  simp only [spec_FlawCounts.f, flawsS_eq hk hl hf, Option.bind_some, flawCountsM]
  cases hb : flawsB w h l fl
  · simp
  obtain ⟨_, h12, hfl⟩ := flaws_of hb
  simp only [if_true]
  rw [if_pos (by omega)]
  have := counts_loop (fun k c i => spec_FlawCounts.l0 k fl c i) fl (by omega) (fun x hx => (flaw_of (hfl x hx)).1)
    (fun k c i h1 h2 h3 => by
      have hm : fl.getD i z32 ∈ fl := by rw [List.getD_eq_getElem?_getD, List.getElem?_eq_getElem h1]; exact List.getElem_mem h1
      have hx := (flaw_of (hfl _ hm)).1
      have h4 := h3 (fl.getD i z32).f0
      simp only [spec_FlawCounts.l0, rdIFlaw_nat]
      rw [if_pos (by omega), if_pos (by omega), if_pos (by omega), if_pos (by omega), w64 (x := rd c _ + 1) (by omega) (by omega)]
      rfl)
    (fun k c i h1 => by simp only [spec_FlawCounts.l0]; rw [if_neg (by omega)])
    fl.length k 0 (List.replicate 5 0) (by omega) (by omega) (by simp) (fun j => by rw [rd_rep]; omega)
  simpa [countsM] using this
theorem countsI_eq {k : Nat} {w h : Int} {l : List Int} {fl : List S32} (hk : fl.length + 10 < k) (hf : fl.length ≤ 1048576) : impl_FlawCounts.f k w h l fl = some (flawCountsM w h l fl) := by
  simp only [impl_FlawCounts.f, AreFlaws_eq hk hf, Option.bind_some, flawCountsM]
  cases hb : flawsB w h l fl
  · simp
  obtain ⟨_, h12, hfl⟩ := flaws_of hb
  simp only [if_true]
  rw [if_pos (by omega)]
  have := counts_loop (fun k c i => impl_FlawCounts.l0 k c fl (fl.length : Int) i) fl (by omega) (fun x hx => (flaw_of (hfl x hx)).1)
    (fun k c i h1 h2 h3 => by
      have hm : fl.getD i z32 ∈ fl := by rw [List.getD_eq_getElem?_getD, List.getElem?_eq_getElem h1]; exact List.getElem_mem h1
      have hx := (flaw_of (hfl _ hm)).1
      have h4 := h3 (fl.getD i z32).f0
      simp only [impl_FlawCounts.l0, rdIFlaw_nat]
      rw [if_pos (by omega), if_pos (by omega), if_pos (by omega), if_pos (by omega), if_pos (by omega), w64 (x := rd c _ + 1) (by omega) (by omega)]
      rfl)
    (fun k c i h1 => by simp only [impl_FlawCounts.l0]; rw [if_neg (by omega)])
    fl.length k 0 (List.replicate 5 0) (by omega) (by omega) (by simp) (fun j => by rw [rd_rep]; omega)
  simpa [countsM] using this
theorem flawCountsM_len (w h : Int) (l : List Int) (fl : List S32) : (flawCountsM w h l fl).1.length ≤ 5 := by
  unfold flawCountsM; split
  · simp only [countsM, counts_len, List.length_replicate]; omega
  · simp

end Go.Proofs.Ytfibaganajembaa.Pure

-- QmarkInts
namespace Go.Proofs.Ytfibaganajembaa.Pure
open Go Go.RowKit Go.Proofs Go.Proofs.Ytfibaganajembaa.X Go.Proofs.YtfibaganajembaaW.PrintWords Go.Proofs.YtfibaganajembaaW.PrintLast
set_option linter.unusedVariables false
set_option linter.unusedSimpArgs false

theorem markIntS_eq {k : Nat} {l : List Int} {s : Int} (hk : l.length < k) (hl : l.length ≤ 1073741824) (hs : 0 ≤ s ∧ s ≤ 1073741824) : laws_markIntS.f k l s = some (s + 1 * l.length, markM (fun x => x) 1 l.length s) := by
  unfold laws_markIntS.f
  have h := mark_loop laws_markIntS.l0 (fun x => x) 1 l.length s (by omega)
    (fun k x i h1 h2 => by
      simp only [laws_markIntS.l0]
      rw [if_pos (by omega), if_pos (by omega)]
      rw [w64 (x := s + 1 * (i : Int) + 1) (by omega) (by omega)]
      congr 1 <;> first | (push_cast; omega) | simp)
    (fun k x m i h1 h2 => by simp only [laws_markIntS.l0]; rw [if_neg (by omega)])
    l.length k 0 l (by omega) hk rfl (by simp)
  simpa using h
theorem heldIntS_eq {k : Nat} {n : Nat} {s : Int} (hk : n < k) (hl : n ≤ 1073741824) (hs : 0 ≤ s ∧ s ≤ 1073741824) : laws_heldIntS.f k (markM (fun x => x) 1 n s) s = some (s + 1 * n) := by
  unfold laws_heldIntS.f
  have h := held_loop laws_heldIntS.l0 (fun x => x) 1 n s (by omega)
    (fun k i h1 => by
      simp only [laws_heldIntS.l0, markM_length]
      rw [if_pos (by omega), if_pos (by omega), rd_nat, markM_getD _ _ _ _ _ h1, if_pos rfl]
      rw [w64 (x := s + 1 * (i : Int) + 1) (by omega) (by omega)]
      congr 1; push_cast; omega)
    (fun k m i h1 => by simp only [laws_heldIntS.l0, markM_length]; rw [if_neg (by omega)])
    n k 0 (by omega) hk
  simpa using h

end Go.Proofs.Ytfibaganajembaa.Pure

-- Qmarkchart
namespace Go.Proofs.Ytfibaganajembaa.Pure
open Go Go.RowKit Go.Proofs Go.Proofs.Ytfibaganajembaa.X Go.Proofs.YtfibaganajembaaW.PrintWords Go.Proofs.YtfibaganajembaaW.PrintLast
set_option linter.unusedVariables false
set_option linter.unusedSimpArgs false

theorem markChart_eq {k : Nat} {l : List Int} {s : Int} (hk : l.length < k) (hl : l.length ≤ 1073741824) (hs : 0 ≤ s ∧ s ≤ 1073741824) (w h : Int) : laws_markChart.f k w h l s = some (s + 1 * (l.length : Int), markM (fun x => x) 1 l.length s) := by
  simp only [laws_markChart.f, markIntS_eq hk hl hs, Option.bind_some]

end Go.Proofs.Ytfibaganajembaa.Pure

-- QmarksFlaw
namespace Go.Proofs.Ytfibaganajembaa.Pure
open Go Go.RowKit Go.Proofs Go.Proofs.Ytfibaganajembaa.X Go.Proofs.YtfibaganajembaaW.PrintWords Go.Proofs.YtfibaganajembaaW.PrintLast
set_option linter.unusedVariables false
set_option linter.unusedSimpArgs false

def markFlaw (s : Int) : S32 := ⟨s, s + 1, s + 2, s + 3⟩
theorem markFlawS_eq {k : Nat} {l : List S32} {s : Int} (hk : l.length < k) (hl : l.length ≤ 1048576) (hs : 0 ≤ s ∧ s ≤ 1073741824) : laws_markFlawS.f k l s = some (s + 4 * (l.length : Int), markM markFlaw 4 l.length s) := by
  unfold laws_markFlawS.f
  have h := mark_loop laws_markFlawS.l0 markFlaw 4 l.length s (by omega)
    (fun k x i h1 h2 => by
      have hg : ∀ (y : List S32) (v : S32), y.length = l.length → (y.set i v).getD i z32 = v := by
        intro y v hy
        rw [List.getD_eq_getElem?_getD, List.getElem?_set_self (by omega)]; rfl
      simp only [laws_markFlawS.l0, Option.bind_some, rdIFlaw_nat, Int.toNat_natCast]
      rw [if_pos (by omega), if_pos (by omega)]
      simp only [hg, List.length_set, h2, List.set_set]
      rw [w64 (x := s + 4 * (i : Int) + 1) (by omega) (by omega), w64 (x := s + 4 * (i : Int) + 1 + 1) (by omega) (by omega), w64 (x := s + 4 * (i : Int) + 1 + 1 + 1) (by omega) (by omega), w64 (x := s + 4 * (i : Int) + 1 + 1 + 1 + 1) (by omega) (by omega)]
      have e1 : markFlaw (s + 4 * (i : Int)) = ⟨s + 4 * (i : Int), s + 4 * (i : Int) + 1, s + 4 * (i : Int) + 1 + 1, s + 4 * (i : Int) + 1 + 1 + 1⟩ := by
        unfold markFlaw; congr 1 <;> omega
      have e2 : s + 4 * ((i + 1 : Nat) : Int) = s + 4 * (i : Int) + 1 + 1 + 1 + 1 := by push_cast; omega
      rw [e1, e2])
    (fun k x m i h1 h2 => by simp only [laws_markFlawS.l0]; rw [if_neg (by omega)])
    l.length k 0 l (by omega) hk rfl (by simp)
  simpa using h

end Go.Proofs.Ytfibaganajembaa.Pure

-- PureFnExactFlawCounts
namespace Go.Proofs.Ytfibaganajembaa.Pure
open Go Go.RowKit Go.Proofs Go.Proofs.Ytfibaganajembaa.X Go.Proofs.YtfibaganajembaaW.PrintWords Go.Proofs.YtfibaganajembaaW.PrintLast
set_option linter.unusedVariables false
set_option linter.unusedSimpArgs false

theorem FnExactFlawCounts : laws_FnExactFlawCounts.Pure := by
  intro w h l fl _ _ hl hf
  refine ⟨4000001, ?_⟩
  simp only [laws_FnExactFlawCounts.f, szChart_eq hl.1 (show (0 : Int) ≤ 1048576 ∧ (1048576 : Int) ≤ 9223372036854775807 by omega), Option.bind_some]
  by_cases hs : (1048576 : Int) < l.length
  · simp [hs]
  rw [if_neg hs, if_neg (by omega), szFlawS_eq hf.1 (by omega)]
  simp only [Option.bind_some]
  by_cases hs2 : (1048576 : Int) - l.length < fl.length
  · simp [hs2]
  rw [if_neg hs2, if_neg (by omega)]
  have h1 : l.length ≤ 1048576 := by omega
  have h2 : fl.length ≤ 1048576 := by omega
  have h3 : (fl.map toFlaw).length ≤ 1048576 := by rw [List.length_map]; exact h2
  have h5 := flawCountsM_len w h l (fl.map toFlaw)
  simp only [toChart_eq (k := 4000001) (w := w) (h := h) (l := l) (by omega) h1, toFlawS_eq (k := 4000001) (l := fl) (by omega) h2, Option.bind_some, countsS_eq (k := 4000001) (w := w) (h := h) (l := l) (fl := fl.map toFlaw) (by omega) h1 h3, countsI_eq (k := 4000001) (w := w) (h := h) (l := l) (fl := fl.map toFlaw) (by omega) h3, eqIntS_refl (k := 4000001) (l := (flawCountsM w h l (fl.map toFlaw)).1) (by omega) (by omega), if_true, laws_FnExactFlawCounts.j0, toChart_eq (k := 4000000) (w := w) (h := h) (l := l) (by omega) h1, toFlawS_eq (k := 4000000) (l := fl) (by omega) h2, eqChart_refl (k := 4000000) (w := w) (h := h) (l := l) (by omega) h1, eqFlawS_refl (k := 4000000) (l := fl.map toFlaw) (by omega) (by omega), markChart_eq (k := 4000000) (l := l) (s := 1) (by omega) (by omega) (by omega), markFlawS_eq (k := 4000000) (l := fl.map toFlaw) (s := 1 + 1 * (l.length : Int)) (by omega) h3 (by omega), eqIntS_refl (k := 4000000) (l := (flawCountsM w h l (fl.map toFlaw)).1) (by omega) (by omega), bne_self_eq_false, Bool.false_eq_true, if_false]
  rw [if_neg (by omega)]
  simp only [laws_FnExactFlawCounts.j1, Bool.false_eq_true, if_false, markIntS_eq (k := 3999999) (l := (flawCountsM w h l (fl.map toFlaw)).1) (s := 1) (by omega) (by omega) (by omega), Option.bind_some, heldIntS_eq (k := 3999999) (n := (flawCountsM w h l (fl.map toFlaw)).1.length) (s := 1) (by omega) (by omega) (by omega), if_true, toChart_eq (k := 3999999) (w := w) (h := h) (l := l) (by omega) h1, toFlawS_eq (k := 3999999) (l := fl) (by omega) h2, countsI_eq (k := 3999999) (w := w) (h := h) (l := l) (fl := fl.map toFlaw) (by omega) h3, eqIntS_refl (k := 3999999) (l := (flawCountsM w h l (fl.map toFlaw)).1) (by omega) (by omega), bne_self_eq_false]
  rw [if_neg (by omega)]
  simp only [laws_FnExactFlawCounts.j2, Bool.false_eq_true, if_false, heldIntS_eq (k := 3999998) (n := (flawCountsM w h l (fl.map toFlaw)).1.length) (s := 1) (by omega) (by omega) (by omega), Option.bind_some, if_true]
  rw [if_neg (by omega)]

end Go.Proofs.Ytfibaganajembaa.Pure
