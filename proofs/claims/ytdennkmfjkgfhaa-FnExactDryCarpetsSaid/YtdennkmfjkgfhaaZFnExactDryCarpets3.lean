/- What the law FnExactDryCarpets needs, part 4 of 4: what each function of the program that it reaches returns (printed by this session's own program, checked by Lean), and plain mathematics about it. Conditions: those of each theorem. -/
import Derived.Test.YtdennkmfjkgfhaaZFnExactDryCarpets2
-- Qwets
namespace Go.Proofs.Ytdennkmfjkgfhaa.Pure
open Go Go.RowKit Go.Proofs Go.Proofs.Ytdennkmfjkgfhaa.X Go.Proofs.YtdennkmfjkgfhaaW.PrintWords Go.Proofs.YtdennkmfjkgfhaaW.PrintLast
set_option linter.unusedVariables false
set_option linter.unusedSimpArgs false

def wetS (x : S25) : Bool := wetB x.f0 x.f1 x.f2 x.f3 x.f4
/-- the one before has the lower number -/
def ascW (l : List S25) (j : Nat) : Bool := decide ((l.getD (j - 1) z25).f0 < (l.getD j z25).f0)
def wetsB (l : List S25) : Bool := decide (l.length ≤ 10) && (l.all wetS && allR (ascW l) 1 (l.length - 1))
theorem rdW_nat (l : List S25) (i : Nat) : rd_T25 l (i : Int) = l.getD i z25 := by simp [rd_T25]
theorem goodW_eq {k : Nat} {l : List S25} (hk : l.length < k) (hl : l.length ≤ 1073741824) : spec_l18Good.f k l = some (wetsB l) := by
  unfold spec_l18Good.f
  have h := idx_loop (fun k i => spec_l18Good.l0 k l i) (fun j => wetS (l.getD j z25) && (decide (j = 0) || ascW l j)) 0 l.length (decide ((l.length : Int) ≤ 10)) (by omega)
    (fun k i _ h1 => by
      simp only [spec_l18Good.l0]
      rw [if_pos (by omega), if_pos (by omega), l18One_eq, rdW_nat]
      simp only [Option.bind_some]
      show (if wetS (l.getD i z25) = true then _ else _) = _
      cases wetS (l.getD i z25)
      · simp
      by_cases hi : i = 0
      · subst hi; simp
      · rw [if_pos rfl, if_pos (by omega), w64 (x := (i : Int) - 1) (by omega) (by omega), if_pos (by omega), if_pos (by omega), show (i : Int) - 1 = ((i - 1 : Nat) : Int) by omega, rdW_nat]
        by_cases hc : (l.getD (i - 1) z25).f0 < (l.getD i z25).f0
        · rw [if_neg (by omega)]; simp only [ascW, hc, decide_true, Bool.or_true, Bool.and_self, if_true]
        · rw [if_pos (by omega)]; simp only [ascW, hc, decide_false, Bool.or_false, hi, Bool.and_false, Bool.false_eq_true, if_false])
    (fun k i h1 => by simp only [spec_l18Good.l0]; rw [if_neg (by omega)])
    l.length k 0 (by omega) (by omega) hk
  refine h.trans (congrArg some ?_)
  unfold wetsB
  have e1 : decide ((l.length : Int) ≤ 10) = decide (l.length ≤ 10) := by
    congr 1; exact propext ⟨fun h => by omega, fun h => by omega⟩
  rw [e1, Bool.and_comm]
  congr 1
  rw [Bool.eq_iff_iff, Bool.and_eq_true, allR_iff, allR_iff, all_getD z25]
  constructor
  · intro h
    refine ⟨fun j hj => ?_, fun j h1 h2 => ?_⟩
    · have := h j (by omega) (by omega)
      rw [Bool.and_eq_true] at this; exact this.1
    · have := h j (by omega) (by omega)
      rw [Bool.and_eq_true, Bool.or_eq_true] at this
      rcases this.2 with h3 | h3
      · have := of_decide_eq_true h3; omega
      · exact h3
  · intro h j h1 h2
    rw [Bool.and_eq_true, Bool.or_eq_true]
    refine ⟨h.1 j (by omega), ?_⟩
    by_cases hj : j = 0
    · exact .inl (by simp [hj])
    · exact .inr (h.2 j (by omega) (by omega))
theorem AreWetCarpets_eq {k : Nat} {l : List S25} (hk : l.length < k) (hl : l.length ≤ 1073741824) : impl_AreWetCarpets.f k l = some (wetsB l) := by
  unfold impl_AreWetCarpets.f
  by_cases h10 : (10 : Int) < l.length
  · rw [if_neg (by omega)]; unfold wetsB; simp [show ¬ l.length ≤ 10 by omega]
  rw [if_pos (by omega)]
  simp only [impl_WetCarpet__impl_IsWetCarpet.f]
  rw [Ho.allO_eq (q := wetS) (fun x _ => IsWetCarpet_eq _ _ _ _ _)]
  simp only [Option.bind_some]
  unfold wetsB
  rw [show decide (l.length ≤ 10) = true by simp; omega]
  cases hall : l.all wetS
  · simp
  simp only [if_true, Bool.true_and]
  by_cases h0 : l.length = 0
  · obtain ⟨k, rfl, _⟩ := succ_of hk
    simp only [impl_WetCarpet__impl_AreWetCarpets_1.f, impl_WetCarpet__impl_AreWetCarpets_1.l0]
    rw [if_neg (by omega), h0]; simp [allR]
  have h := idx_loop (fun k i => impl_WetCarpet__impl_AreWetCarpets_1.l0 k l i) (ascW l) 1 l.length true (by omega)
    (fun k i h0 h1 => by
      simp only [impl_WetCarpet__impl_AreWetCarpets_1.l0, impl_AreWetCarpets_1.f, Option.bind_some]
      rw [if_pos (by omega), w64 (x := (i : Int) - 1) (by omega) (by omega), if_pos (by omega), if_pos (by omega), show (i : Int) - 1 = ((i - 1 : Nat) : Int) by omega, rdW_nat, rdW_nat, if_pos (by omega)]
      by_cases hc : (l.getD (i - 1) z25).f0 < (l.getD i z25).f0
      · rw [if_neg (by omega)]; simp only [ascW, hc, decide_true, if_true]
      · rw [if_pos (by omega)]; simp only [ascW, hc, decide_false, Bool.false_eq_true, if_false])
    (fun k i h1 => by simp only [impl_WetCarpet__impl_AreWetCarpets_1.l0]; rw [if_neg (by omega)])
    (l.length - 1) k 1 (by omega) (by omega) (by omega)
  unfold impl_WetCarpet__impl_AreWetCarpets_1.f
  rw [show ((1 : Nat) : Int) = 1 from rfl] at h
  rw [h]; simp
theorem wets_of {l : List S25} (h : wetsB l = true) : l.length ≤ 10 ∧ ∀ x ∈ l, wetS x = true := by
  simp only [wetsB, Bool.and_eq_true, decide_eq_true_eq, List.all_eq_true] at h
  exact ⟨h.1, h.2.1⟩

end Go.Proofs.Ytdennkmfjkgfhaa.Pure

-- Qdry
namespace Go.Proofs.Ytdennkmfjkgfhaa.Pure
open Go Go.RowKit Go.Proofs Go.Proofs.Ytdennkmfjkgfhaa.X Go.Proofs.YtdennkmfjkgfhaaW.PrintWords Go.Proofs.YtdennkmfjkgfhaaW.PrintLast
set_option linter.unusedVariables false
set_option linter.unusedSimpArgs false

theorem posI_nn {x : Int} (h : 0 ≤ x) : posI x = x := by unfold posI; split <;> omega
theorem posI_sub {a m : Int} (h : 0 ≤ m) : posI (posI a - m) = posI (a - m) := by unfold posI; (repeat' split) <;> omega
/-- a carpet after some hours -/
def dryX (g H : Int) (x : S25) : S25 := ⟨x.f0, x.f1, x.f2, posI (x.f3 - H * hourlyM x.f1 g), x.f4⟩
def dryIds (l : List S25) : List Int := (l.filter fun x => dryB x.f2 x.f3).map fun x => x.f0
def dryM (l : List S25) (g H : Int) : List S25 × List Int × Bool :=
  if wetsB l && (degreesB g && decide (0 ≤ H ∧ H ≤ 100)) then (l.map (dryX g H), dryIds (l.map (dryX g H)), true) else ([], [], false)
theorem dryIds_cons (x : S25) (l : List S25) : dryIds (x :: l) = if dryB x.f2 x.f3 = true then x.f0 :: dryIds l else dryIds l := by
  unfold dryIds; rw [List.filter_cons]; split <;> simp
theorem dryIds_len (l : List S25) : (dryIds l).length ≤ l.length := by
  unfold dryIds; rw [List.length_map]; exact List.length_filter_le _ _
theorem dryM_len (l : List S25) (g H : Int) : (dryM l g H).1.length ≤ l.length ∧ (dryM l g H).2.1.length ≤ l.length := by
  unfold dryM; split
  · have := dryIds_len (l.map (dryX g H)); simp only [List.length_map] at this ⊢; exact ⟨Nat.le_refl _, this⟩
  · simp
theorem hours_w {a g H : Int} (ha : 1 ≤ a ∧ a ≤ 4000) (hg : 5 ≤ g ∧ g ≤ 40) (hH : 0 ≤ H ∧ H ≤ 100) : 0 ≤ H * hourlyM a g ∧ H * hourlyM a g ≤ 1600000 := by
  obtain ⟨_, h2, h3⟩ := hourly_w ha hg
  have := mul_bd (a := H) (b := hourlyM a g) (A := 100) (B := 16000) hH.1 hH.2 h2 h3
  omega
theorem dryS_eq {k : Nat} {l : List S25} (hk : 300 * l.length + 300 < k) (hl : l.length ≤ 1073741824) (g H : Int) : spec_DryCarpets.f k l g H = some (dryM l g H) := by
  obtain ⟨k, rfl, hk2⟩ := succ_of hk
  simp only [spec_DryCarpets.f, spec_DryCarpets.j0, Option.bind_some, goodW_eq (k := k + 1) (l := l) (by omega) hl, l18Degrees_eq, l1In_eq, dryM]
  cases hw : wetsB l
  · simp
  cases hg : degreesB g
  · simp
  cases hH : decide (0 ≤ H ∧ H ≤ 100)
  · simp
  have hg := of_decide_eq_true hg; have hH := of_decide_eq_true hH; have h10 := wets_of hw
  simp only [if_true, Bool.not_true, Bool.false_eq_true, if_false, Bool.and_self]
  obtain ⟨hn, rfl⟩ := nat_of hH.1
  have inner : ∀ (m k : Nat) (c w : Int) (out : List S25) (dry : List Int) (i : Int) (id a d p : Int), c + m = hn → 0 ≤ c → (1 ≤ a ∧ a ≤ 4000) → (0 ≤ w ∧ w ≤ 400000) →
      spec_DryCarpets.l1 (k + m) l g (hn : Int) out dry i c id a d w p = spec_DryCarpets.l1 k l g (hn : Int) out dry i (hn : Int) id a d (posI (w - m * hourlyM a g)) p := by
    intro m
    induction m with
    | zero =>
      intro k c w out dry i id a d p hc h0 ha hw
      rw [show c = hn by omega, show ((0 : Nat) : Int) * hourlyM a g = 0 by simp, Int.sub_zero, posI_nn hw.1]; rfl
    | succ m ih =>
      intro k c w out dry i id a d p hc h0 ha hw
      obtain ⟨e1, e2, e3⟩ := hourly_w (a := a) (g := g) ha hg
      show spec_DryCarpets.l1 (k + m + 1) l g (hn : Int) out dry i c id a d w p = _
      rw [spec_DryCarpets.l1]
      rw [if_pos (by omega), l18Hour_eq ha hg hw]
      simp only [Option.bind_some]
      rw [w64 (x := c + 1) (by omega) (by omega), ih k (c + 1) _ out dry i id a d p (by omega) (by omega) ha (posI_bd (by omega) (by omega))]
      have hm : 0 ≤ (m : Int) * hourlyM a g := Int.mul_nonneg (by omega) e2
      rw [posI_sub hm]
      congr 2
      push_cast
      rw [Int.add_mul, Int.one_mul]; omega
  have outer : ∀ (n k i : Nat) (out : List S25) (dry : List Int), i + n = l.length → 300 * n + 300 ≤ k → out.length = i → dry.length ≤ i →
      spec_DryCarpets.l0 k l g (hn : Int) out dry (i : Int) = some (out ++ (l.drop i).map (dryX g hn), dry ++ dryIds ((l.drop i).map (dryX g hn)), true) := by
    intro n
    induction n with
    | zero =>
      intro k i out dry hi hk ho hd
      obtain ⟨k, rfl, _⟩ := succ_of (show 0 < k by omega)
      rw [spec_DryCarpets.l0]
      rw [if_neg (by omega), List.drop_eq_nil_of_le (by omega)]
      simp [dryIds]
    | succ n ih =>
      intro k i out dry hi hk ho hd
      obtain ⟨k, rfl, hk'⟩ := succ_of (show 0 < k by omega)
      obtain ⟨k, rfl⟩ : ∃ k2, k = k2 + 1 + hn := ⟨k - 1 - hn, by omega⟩
      have hlt : i < l.length := by omega
      have hm : l.getD i z25 ∈ l := by rw [List.getD_eq_getElem?_getD, List.getElem?_eq_getElem hlt]; exact List.getElem_mem hlt
      have hx := wet_of (h10.2 _ hm)
      rw [spec_DryCarpets.l0]
      rw [if_pos (by omega), if_pos (by omega), rdIW_nat]
      rw [inner hn (k + 1) 0 _ out dry _ _ _ _ _ (by omega) (by omega) (by omega) (by omega)]
      rw [spec_DryCarpets.l1]
      have hh := hours_w (a := (l.getD i z25).f1) (g := g) (H := hn) (by omega) hg hH
      have hp := posI_bd (x := (l.getD i z25).f3 - hn * hourlyM (l.getD i z25).f1 g) (B := 400000) (by omega) (by omega)
      rw [if_neg (by omega), if_pos (by omega)]
      simp only [Option.bind_some]
      rw [l18Dry_eq hp]
      simp only [Option.bind_some]
      rw [wstep hlt (by omega), drop_step hlt z25, List.map_cons, dryIds_cons]
      have e : (⟨(l.getD i z25).f0, (l.getD i z25).f1, (l.getD i z25).f2, posI ((l.getD i z25).f3 - hn * hourlyM (l.getD i z25).f1 g), (l.getD i z25).f4⟩ : S25) = dryX g hn (l.getD i z25) := rfl
      rw [e]
      show (if dryB (dryX g hn (l.getD i z25)).f2 (dryX g hn (l.getD i z25)).f3 = true then _ else _) = _
      cases hd' : dryB (dryX g hn (l.getD i z25)).f2 (dryX g hn (l.getD i z25)).f3
      · simp only [Bool.false_eq_true, if_false]
        rw [ih k (i + 1) _ dry (by omega) (by omega) (by simp [ho]) (by omega), List.append_assoc]; rfl
      · simp only [if_true]
        rw [if_pos (by omega), ih k (i + 1) _ _ (by omega) (by omega) (by simp [ho]) (by simp; omega), List.append_assoc, List.append_assoc]; rfl
  have := outer l.length k 0 [] [] (by omega) (by omega) rfl (by simp)
  simpa using this
theorem dryI_eq {k : Nat} {l : List S25} (hk : l.length + 1 < k) (hl : l.length ≤ 1073741824) (g H : Int) : impl_DryCarpets.f k l g H = some (dryM l g H) := by
  obtain ⟨k, rfl, hk2⟩ := succ_of hk
  simp only [impl_DryCarpets.f, impl_DryCarpets.j0, Option.bind_some, AreWetCarpets_eq (k := k + 1) (l := l) (by omega) hl, isDegrees_eq, in_eq, dryM]
  cases hw : wetsB l
  · simp
  cases hg : degreesB g
  · simp
  cases hH : decide (0 ≤ H ∧ H ≤ 100)
  · simp
  have hg := of_decide_eq_true hg; have hH := of_decide_eq_true hH; have h10 := wets_of hw
  simp only [if_true, Bool.not_true, Bool.false_eq_true, if_false, Bool.and_self, impl_WetCarpet_77.f, List.length_nil, Nat.zero_add, List.nil_append, Option.bind_some]
  rw [if_pos (by omega)]
  simp only [Option.bind_some]
  have outer : ∀ (n k i : Nat) (dry : List Int), i + n = l.length → n < k → dry.length ≤ i →
      impl_DryCarpets.l0 k g H ((l.take i).map (dryX g H) ++ l.drop i) dry l (l.length : Int) (i : Int) = some (l.map (dryX g H), dry ++ dryIds ((l.drop i).map (dryX g H)), true) := by
    intro n
    induction n with
    | zero =>
      intro k i dry hi hk hd
      obtain ⟨k, rfl, _⟩ := succ_of hk
      rw [impl_DryCarpets.l0]
      rw [if_neg (by omega), List.drop_eq_nil_of_le (by omega), List.take_of_length_le (by omega)]
      simp [dryIds]
    | succ n ih =>
      intro k i dry hi hk hd
      obtain ⟨k, rfl, hk⟩ := succ_of hk
      have hlt : i < l.length := by omega
      have hm : l.getD i z25 ∈ l := by rw [List.getD_eq_getElem?_getD, List.getElem?_eq_getElem hlt]; exact List.getElem_mem hlt
      have hx := wet_of (h10.2 _ hm)
      have hlen : ((l.take i).map (dryX g H)).length = i := by rw [List.length_map, List.length_take]; omega
      have e1 : ((l.take i).map (dryX g H) ++ l.drop i).getD i z25 = l.getD i z25 := by
        rw [List.getD_eq_getElem?_getD, List.getElem?_append_right (by omega), hlen, Nat.sub_self, List.getElem?_drop, Nat.add_zero, ← List.getD_eq_getElem?_getD]
      have e2 : ((l.take i).map (dryX g H) ++ l.drop i).length = l.length := by rw [List.length_append, hlen, List.length_drop]; omega
      have e3 : ∀ v, ((l.take i).map (dryX g H) ++ l.drop i).set i v = (l.take i).map (dryX g H) ++ v :: l.drop (i + 1) := by
        intro v
        rw [List.set_append_right _ _ (by omega), hlen, Nat.sub_self, drop_step hlt z25]; rfl
      have e4 : (l.take (i + 1)).map (dryX g H) ++ l.drop (i + 1) = (l.take i).map (dryX g H) ++ dryX g H (l.getD i z25) :: l.drop (i + 1) := by
        rw [List.take_succ_eq_append_getElem hlt, List.map_append, List.append_assoc]
        simp [List.getD_eq_getElem?_getD, List.getElem?_eq_getElem hlt]
      have hh := hours_w (a := (l.getD i z25).f1) (g := g) (H := H) (by omega) hg hH
      have hp := posI_bd (x := (l.getD i z25).f3 - H * hourlyM (l.getD i z25).f1 g) (B := 400000) (by omega) (by omega)
      rw [impl_DryCarpets.l0]
      simp only [rdIW_nat, e1, e2, Int.toNat_natCast]
      rw [if_pos (by omega), if_pos (by omega), if_pos (by omega), hourly_eq (by omega) hg]
      simp only [Option.bind_some]
      rw [if_pos (by omega), w64 (x := H * _) (by omega) (by omega), w64 (x := _ - H * _) (by omega) (by omega), mx0_eq, isDry_eq hp]
      simp only [Option.bind_some]
      have e : (⟨(l.getD i z25).f0, (l.getD i z25).f1, (l.getD i z25).f2, posI ((l.getD i z25).f3 - H * hourlyM (l.getD i z25).f1 g), (l.getD i z25).f4⟩ : S25) = dryX g H (l.getD i z25) := rfl
      rw [e, e3, ← e4, wstep hlt (by omega), drop_step hlt z25, List.map_cons, dryIds_cons]
      show (if dryB (dryX g H (l.getD i z25)).f2 (dryX g H (l.getD i z25)).f3 = true then _ else _) = _
      cases hd' : dryB (dryX g H (l.getD i z25)).f2 (dryX g H (l.getD i z25)).f3
      · simp only [Bool.false_eq_true, if_false]
        exact ih k (i + 1) dry (by omega) (by omega) (by omega)
      · simp only [if_true]
        rw [if_pos (by omega), ih k (i + 1) _ (by omega) (by omega) (by simp; omega), List.append_assoc]; rfl
  have := outer l.length k 0 [] (by omega) (by omega) (by simp)
  simpa using this

end Go.Proofs.Ytdennkmfjkgfhaa.Pure

-- QeqInts
namespace Go.Proofs.Ytdennkmfjkgfhaa.Pure
open Go Go.RowKit Go.Proofs Go.Proofs.Ytdennkmfjkgfhaa.X Go.Proofs.YtdennkmfjkgfhaaW.PrintWords Go.Proofs.YtdennkmfjkgfhaaW.PrintLast
set_option linter.unusedVariables false
set_option linter.unusedSimpArgs false

theorem eqIntS_refl {k : Nat} {l : List Int} (hk : l.length < k) (hl : l.length ≤ 9223372036854775806) : laws_eqIntS.f k l l = some true := by
  unfold laws_eqIntS.f
  rw [if_pos rfl]
  exact refl_loop laws_eqIntS.l0 l hl
    (fun k i h => by simp only [laws_eqIntS.l0]; rw [if_pos (by omega), if_pos (by omega), if_pos (by omega)]; simp)
    (fun k i h => by simp only [laws_eqIntS.l0]; rw [if_neg (by omega)])
    l.length k 0 (by omega) hk

end Go.Proofs.Ytdennkmfjkgfhaa.Pure

-- QmarkInts
namespace Go.Proofs.Ytdennkmfjkgfhaa.Pure
open Go Go.RowKit Go.Proofs Go.Proofs.Ytdennkmfjkgfhaa.X Go.Proofs.YtdennkmfjkgfhaaW.PrintWords Go.Proofs.YtdennkmfjkgfhaaW.PrintLast
set_option linter.unusedVariables false
set_option linter.unusedSimpArgs false

theorem markIntS_eq {k : Nat} {l : List Int} {s : Int} (hk : l.length < k) (hl : l.length ≤ 1073741824) (hs : 0 ≤ s ∧ s ≤ 1073741824) : laws_markIntS.f k l s = some (s + 1 * l.length, markM (fun x => x) 1 l.length s) := by
  unfold laws_markIntS.f
  have h := mark_loop laws_markIntS.l0 (fun x => x) 1 l.length s (by omega)
    (fun k x i h1 h2 => by
      simp only [laws_markIntS.l0]
      rw [if_pos (by omega), if_pos (by omega)]
      rw [w64 (x := s + 1 * (i : Int) + 1) (by omega) (by omega)]
      congr 1 <;> first | (push_cast; omega) | simp)
    (fun k x m i h1 h2 => by simp only [laws_markIntS.l0]; rw [if_neg (by omega)])
    l.length k 0 l (by omega) hk rfl (by simp)
  simpa using h
theorem heldIntS_eq {k : Nat} {n : Nat} {s : Int} (hk : n < k) (hl : n ≤ 1073741824) (hs : 0 ≤ s ∧ s ≤ 1073741824) : laws_heldIntS.f k (markM (fun x => x) 1 n s) s = some (s + 1 * n) := by
  unfold laws_heldIntS.f
  have h := held_loop laws_heldIntS.l0 (fun x => x) 1 n s (by omega)
    (fun k i h1 => by
      simp only [laws_heldIntS.l0, markM_length]
      rw [if_pos (by omega), if_pos (by omega), rd_nat, markM_getD _ _ _ _ _ h1, if_pos rfl]
      rw [w64 (x := s + 1 * (i : Int) + 1) (by omega) (by omega)]
      congr 1; push_cast; omega)
    (fun k m i h1 => by simp only [laws_heldIntS.l0, markM_length]; rw [if_neg (by omega)])
    n k 0 (by omega) hk
  simpa using h

end Go.Proofs.Ytdennkmfjkgfhaa.Pure

-- PureFnExactDryCarpets
namespace Go.Proofs.Ytdennkmfjkgfhaa.Pure
open Go Go.RowKit Go.Proofs Go.Proofs.Ytdennkmfjkgfhaa.X Go.Proofs.YtdennkmfjkgfhaaW.PrintWords Go.Proofs.YtdennkmfjkgfhaaW.PrintLast
set_option linter.unusedVariables false
set_option linter.unusedSimpArgs false

theorem FnExactDryCarpets : laws_FnExactDryCarpets.Pure := by
  intro l g H hl _ _
  refine ⟨400000001, ?_⟩
  simp only [laws_FnExactDryCarpets.f, szWetS_eq hl.1 (show (0 : Int) ≤ 1048576 ∧ (1048576 : Int) ≤ 9223372036854775807 by omega), Option.bind_some]
  by_cases hs : (1048576 : Int) < l.length
  · simp [hs]
  rw [if_neg hs, if_neg (by omega)]
  have h1 : l.length ≤ 1048576 := by omega
  have h2 : (l.map toW).length ≤ 1048576 := by rw [List.length_map]; exact h1
  obtain ⟨h3, h5⟩ := dryM_len (l.map toW) g H
  have h4 : 300 * (l.map toW).length + 300 < 400000000 := by omega
  simp only [toWetS_eq (k := 400000001) (l := l) (by omega) h1, Option.bind_some, dryS_eq (k := 400000001) (l := l.map toW) (by omega) (by omega), dryI_eq (k := 400000001) (l := l.map toW) (by omega) (by omega), eqWetS_refl (k := 400000001) (l := (dryM (l.map toW) g H).1) (by omega) (by omega), eqIntS_refl (k := 400000001) (l := (dryM (l.map toW) g H).2.1) (by omega) (by omega), if_true, laws_FnExactDryCarpets.j0, toWetS_eq (k := 400000000) (l := l) (by omega) h1, eqWetS_refl (k := 400000000) (l := l.map toW) (by omega) (by omega), markWS_eq (k := 400000000) (l := l.map toW) (by omega) h2, eqWetS_refl (k := 400000000) (l := (dryM (l.map toW) g H).1) (by omega) (by omega), eqIntS_refl (k := 400000000) (l := (dryM (l.map toW) g H).2.1) (by omega) (by omega)]
  simp only [bne_self_eq_false, Bool.false_eq_true, if_false]
  rw [if_neg (by omega)]
  simp only [laws_FnExactDryCarpets.j1, Bool.false_eq_true, if_false, markWS_eq (k := 399999999) (l := (dryM (l.map toW) g H).1) (by omega) (by omega), Option.bind_some, markIntS_eq (k := 399999999) (l := (dryM (l.map toW) g H).2.1) (s := 1 + 5 * ((dryM (l.map toW) g H).1.length : Int)) (by omega) (by omega) (by omega), heldWS_eq (k := 399999999) (n := (dryM (l.map toW) g H).1.length) (by omega) (by omega)]
  rw [if_neg (by omega)]
  simp only [heldIntS_eq (k := 399999999) (n := (dryM (l.map toW) g H).2.1.length) (s := 1 + 5 * ((dryM (l.map toW) g H).1.length : Int)) (by omega) (by omega) (by omega), Option.bind_some, if_true, toWetS_eq (k := 399999999) (l := l) (by omega) h1, dryI_eq (k := 399999999) (l := l.map toW) (by omega) (by omega), eqWetS_refl (k := 399999999) (l := (dryM (l.map toW) g H).1) (by omega) (by omega), eqIntS_refl (k := 399999999) (l := (dryM (l.map toW) g H).2.1) (by omega) (by omega), bne_self_eq_false]
  rw [if_neg (by omega)]
  simp only [laws_FnExactDryCarpets.j2, Bool.false_eq_true, if_false, heldWS_eq (k := 399999998) (n := (dryM (l.map toW) g H).1.length) (by omega) (by omega), Option.bind_some]
  rw [if_neg (by omega)]
  simp only [heldIntS_eq (k := 399999998) (n := (dryM (l.map toW) g H).2.1.length) (s := 1 + 5 * ((dryM (l.map toW) g H).1.length : Int)) (by omega) (by omega) (by omega), Option.bind_some, if_true]
  rw [if_neg (by omega)]

end Go.Proofs.Ytdennkmfjkgfhaa.Pure
