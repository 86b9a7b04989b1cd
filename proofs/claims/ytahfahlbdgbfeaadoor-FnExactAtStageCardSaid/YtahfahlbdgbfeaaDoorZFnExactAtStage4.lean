/- What the law FnExactAtStage needs, part 5 of 5: what each function of the program that it reaches returns (printed by this session's own program, checked by Lean), and plain mathematics about it. Conditions: those of each theorem. -/
import Derived.Test.YtahfahlbdgbfeaaDoorZFnExactAtStage3
import Derived.Test.YtahfahlbdgbfeaaDoorYG
-- Qdelfunc
namespace Go.Proofs.YtahfahlbdgbfeaaDoor.Pure
open Go Go.RowKit Go.Proofs Go.Proofs.YtahfahlbdgbfeaaDoor.X Go.Proofs.YtahfahlbdgbfeaaDoorW.PrintWords Go.Proofs.YtahfahlbdgbfeaaDoorW.PrintLast
set_option linter.unusedVariables false
set_option linter.unusedSimpArgs false

theorem clr_take_ {α : Type} (l : List α) (k : Nat) (z : α) (h : k ≤ l.length) : (Cl.clr l k z).take k = l.take k := by
  unfold Cl.clr
  rw [List.take_append_of_le_length (by rw [List.length_take]; omega), List.take_of_length_le (by rw [List.length_take]; omega)]
/-- A loop that keeps, in place, what q does not hold of. -/
theorem del_loop {α : Type} (z : α) (L : Nat → List α → Int → Int → Option (List α)) (q : α → Bool) (l : List α) (hs : l.length ≤ 1048576)
    (hstep : ∀ k (s : List α) (o j : Nat), j < l.length → s.length = l.length → o ≤ j → L (k + 1) s (o : Int) (j : Int) = if q (s.getD j z) = true then L k s (o : Int) (wrap64 ((j : Int) + 1)) else L k (s.set o (s.getD j z)) (wrap64 ((o : Int) + 1)) (wrap64 ((j : Int) + 1)))
    (hend : ∀ k (s : List α) (o : Nat), s.length = l.length → o ≤ l.length → L (k + 1) s (o : Int) (l.length : Int) = some ((Cl.clr s o z).take o)) :
    ∀ (m k o j : Nat) (s : List α), j + m = l.length → m < k → o ≤ j → s.length = l.length → s.take o = (l.take j).filter (fun x => !q x) → s.drop j = l.drop j → L k s (o : Int) (j : Int) = some (l.filter (fun x => !q x)) := by
  intro m
  induction m with
  | zero =>
    intro k o j s hj hk ho hl ht hd
    obtain ⟨k, rfl, _⟩ := succ_of hk
    obtain rfl : j = l.length := by omega
    rw [hend k s o hl ho, clr_take_ _ _ _ (by omega), ht, List.take_of_length_le (by omega)]
  | succ m ih =>
    intro k o j s hj hk ho hl ht hd
    obtain ⟨k, rfl, _⟩ := succ_of hk
    have hlt : j < l.length := by omega
    have hg : s.getD j z = l.getD j z := by
      have h := congrArg (fun (q : List α) => q[0]?) hd
      simp only [List.getElem?_drop, Nat.add_zero] at h
      rw [List.getD_eq_getElem?_getD, List.getD_eq_getElem?_getD, h]
    have hst : l.take (j + 1) = l.take j ++ [l.getD j z] := by
      rw [List.take_add_one, List.getD_eq_getElem?_getD, List.getElem?_eq_getElem hlt]; rfl
    have hd1 : s.drop (j + 1) = l.drop (j + 1) := by
      simpa [List.drop_drop, Nat.add_comm] using congrArg (List.drop 1) hd
    rw [hstep k s o j hlt hl ho, hg]
    by_cases g : q (l.getD j z) = true
    · rw [if_pos g, wstep hlt (by omega)]
      exact ih k o (j + 1) s (by omega) (by omega) (by omega) hl (by rw [hst, List.filter_append, ht]; simp only [List.filter_cons, g, List.filter_nil]; simp) hd1
    · have g2 : q (l.getD j z) = false := by simpa using g
      rw [if_neg g, wstep (n := l.length) (i := o) (by omega) (by omega), wstep hlt (by omega)]
      refine ih k (o + 1) (j + 1) (s.set o (l.getD j z)) (by omega) (by omega) (by omega) (by rw [List.length_set]; exact hl) ?_ ?_
      · rw [hst, List.filter_append, ← ht, List.take_add_one, List.take_set_of_le (by omega), List.getElem?_set_self (by omega)]
        simp only [List.filter_cons, g2, List.filter_nil]; simp
      · rw [List.drop_set_of_lt (by omega)]; exact hd1
theorem del_eq {α : Type} (z : α) (L : Nat → List α → Int → Int → Option (List α)) (p : α → Option Bool) (q : α → Bool) (l : List α) (hp : ∀ x ∈ l, p x = some (q x)) (hs : l.length ≤ 1048576)
    (hstep : ∀ k (s : List α) (o j : Nat), j < l.length → s.length = l.length → o ≤ j → L (k + 1) s (o : Int) (j : Int) = if q (s.getD j z) = true then L k s (o : Int) (wrap64 ((j : Int) + 1)) else L k (s.set o (s.getD j z)) (wrap64 ((o : Int) + 1)) (wrap64 ((j : Int) + 1)))
    (hend : ∀ k (s : List α) (o : Nat), s.length = l.length → o ≤ l.length → L (k + 1) s (o : Int) (l.length : Int) = some ((Cl.clr s o z).take o)) {k : Nat} (hk : l.length < k) :
    ((Ho.idxO p l 0).bind fun t => if t = (-1) then some l else L k l t (wrap64 (t + 1))) = some (l.filter (fun x => !q x)) := by
  rw [Ho.idxO_eq (p := p) (q := q) hp]
  simp only [Option.bind_some]
  cases h : l.findIdx? q with
  | none =>
    simp only [if_true]
    congr 1
    rw [eq_comm, List.filter_eq_self]
    intro x hx
    have := (List.findIdx?_eq_none_iff.mp h) x hx
    rw [this]; rfl
  | some j =>
    obtain ⟨hj, hq, hb⟩ := List.findIdx?_eq_some_iff_getElem.mp h
    simp only [Int.zero_add]
    rw [if_neg (by omega), wstep hj (by omega)]
    have hst : l.take (j + 1) = l.take j ++ [l[j]] := by rw [List.take_add_one, List.getElem?_eq_getElem hj]; rfl
    refine del_loop z L q l hs hstep hend (l.length - (j + 1)) k j (j + 1) l (by omega) (by omega) (by omega) rfl ?_ rfl
    rw [hst, List.filter_append, List.filter_cons, hq]
    simp only [Bool.not_true, Bool.false_eq_true, if_false, List.filter_nil, List.append_nil]
    rw [eq_comm, List.filter_eq_self]
    intro x hx
    obtain ⟨i, hi, rfl⟩ := List.mem_iff_getElem.mp hx
    rw [List.getElem_take]
    have := hb i (by rw [List.length_take] at hi; omega)
    simpa using this

end Go.Proofs.YtahfahlbdgbfeaaDoor.Pure

-- Qinssort
namespace Go.Proofs.YtahfahlbdgbfeaaDoor.Pure
open Go Go.RowKit Go.Proofs Go.Proofs.YtahfahlbdgbfeaaDoorW.PrintWords Go.Proofs.YtahfahlbdgbfeaaDoorW.PrintLast
set_option linter.unusedVariables false
set_option linter.unusedSimpArgs false

/-- an element put into a list (whose reverse is given), from the right -/
def insB {α : Type} (lt : α → α → Bool) : List α → α → List α
  | [], x => [x]
  | y :: rp, x => if lt x y = true then insB lt rp x ++ [y] else (y :: rp).reverse ++ [x]
def isortB {α : Type} (lt : α → α → Bool) (P l : List α) : List α := l.foldl (fun P x => insB lt P.reverse x) P
theorem insB_perm {α : Type} (lt : α → α → Bool) : ∀ (rp : List α) (x : α), (insB lt rp x).Perm (x :: rp) := by
  intro rp
  induction rp with
  | nil => intro x; exact List.Perm.refl _
  | cons y rp ih =>
    intro x
    rw [insB]
    split
    · have h1 : (insB lt rp x ++ [y]).Perm ((x :: rp) ++ [y]) := (ih x).append_right _
      refine h1.trans ?_
      have h2 : ((x :: rp) ++ [y]).Perm ([y] ++ (x :: rp)) := List.perm_append_comm
      exact h2.trans (List.Perm.swap _ _ _)
    · have h1 : ((y :: rp).reverse ++ [x]).Perm ([x] ++ (y :: rp).reverse) := List.perm_append_comm
      refine h1.trans ?_
      exact List.Perm.cons _ (List.reverse_perm _)
theorem insB_len {α : Type} (lt : α → α → Bool) (rp : List α) (x : α) : (insB lt rp x).length = rp.length + 1 := by
  rw [(insB_perm lt rp x).length_eq, List.length_cons]
theorem isortB_perm {α : Type} (lt : α → α → Bool) : ∀ (l P : List α), (isortB lt P l).Perm (P ++ l) := by
  intro l
  induction l with
  | nil => intro P; rw [List.append_nil]; exact List.Perm.refl _
  | cons x l ih =>
    intro P
    unfold isortB at *
    rw [List.foldl_cons]
    refine (ih _).trans ?_
    have h1 : (insB lt P.reverse x ++ l).Perm ((x :: P.reverse) ++ l) := (insB_perm lt _ x).append_right _
    refine h1.trans ?_
    have h2 : ((x :: P.reverse) ++ l).Perm ((x :: P) ++ l) := (List.Perm.cons _ (List.reverse_perm _)).append_right _
    exact h2.trans List.perm_middle.symm
theorem insB_sorted {α : Type} (lt : α → α → Bool) (R : α → α → Prop) (tr : ∀ a b c, R a b → R b c → R a c) : ∀ (rp : List α) (x : α), rp.reverse.Pairwise R → (∀ y ∈ rp, lt x y = true → R x y) → (∀ y ∈ rp, lt x y = false → R y x) → (insB lt rp x).Pairwise R := by
  intro rp
  induction rp with
  | nil => intro x _ _ _; simp [insB]
  | cons y rp ih =>
    intro x hP h1 h2
    rw [List.reverse_cons, List.pairwise_append] at hP
    rw [insB]
    split
    · rename_i g
      rw [List.pairwise_append]
      refine ⟨ih x hP.1 (fun z hz => h1 z (List.mem_cons_of_mem _ hz)) (fun z hz => h2 z (List.mem_cons_of_mem _ hz)), List.pairwise_singleton _ _, fun a ha b hb => ?_⟩
      rw [List.mem_singleton] at hb
      subst hb
      rcases List.mem_cons.mp ((insB_perm lt rp x).mem_iff.mp ha) with e | e
      · subst e; exact h1 b List.mem_cons_self g
      · exact hP.2.2 a (List.mem_reverse.mpr e) b (List.mem_singleton.mpr rfl)
    · rename_i g
      have g : lt x y = false := by simpa using g
      have hy := h2 y List.mem_cons_self g
      rw [List.pairwise_append]
      refine ⟨by rw [List.reverse_cons, List.pairwise_append]; exact hP, List.pairwise_singleton _ _, fun a ha b hb => ?_⟩
      rw [List.mem_singleton] at hb
      subst hb
      rw [List.mem_reverse] at ha
      rcases List.mem_cons.mp ha with e | e
      · subst e; exact hy
      · exact tr _ _ _ (hP.2.2 a (List.mem_reverse.mpr e) y (List.mem_singleton.mpr rfl)) hy
/-- the inner loop of the library's insertion sort -/
theorem ins_l1 {α : Type} (z : α) (lt : α → α → Bool) (L0 : Nat → List α → Int → Option (List α)) (L1 : Nat → List α → Int → Int → Option (List α))
    (h1 : ∀ k (s : List α) (i : Int) (j : Nat), 0 < j → j < s.length → s.length ≤ 1048576 → L1 (k + 1) s i (j : Int) = if lt (s.getD j z) (s.getD (j - 1) z) = true then L1 k ((s.set j (s.getD (j - 1) z)).set (j - 1) (s.getD j z)) i ((j - 1 : Nat) : Int) else L0 k s (wrap64 (i + 1)))
    (h2 : ∀ k (s : List α) (i : Int), L1 (k + 1) s i 0 = L0 k s (wrap64 (i + 1))) :
    ∀ (rp : List α) (k : Nat) (x : α) (Q : List α) (i : Int), rp.length + 1 + Q.length ≤ 1048576 → rp.length < k → ∃ k', k ≤ k' + rp.length + 1 ∧ L1 k (rp.reverse ++ x :: Q) i (rp.length : Int) = L0 k' (insB lt rp x ++ Q) (wrap64 (i + 1)) := by
  intro rp
  induction rp with
  | nil =>
    intro k x Q i hb hk
    obtain ⟨k, rfl, _⟩ := succ_of hk
    refine ⟨k, by simp, ?_⟩
    have := h2 k (x :: Q) i
    simpa [insB] using this
  | cons y rp ih =>
    intro k x Q i hb hk
    obtain ⟨k, rfl, hk2⟩ := succ_of hk
    rw [List.length_cons] at *
    have hs : (y :: rp).reverse ++ x :: Q = rp.reverse ++ y :: x :: Q := by simp
    have hlen : (rp.reverse ++ y :: x :: Q).length = rp.length + 2 + Q.length := by simp; omega
    have e1 : (rp.reverse ++ y :: x :: Q).getD (rp.length + 1) z = x := by
      rw [List.getD_eq_getElem?_getD, List.getElem?_append_right (by rw [List.length_reverse]; omega), List.length_reverse, show rp.length + 1 - rp.length = 1 by omega]; rfl
    have e2 : (rp.reverse ++ y :: x :: Q).getD rp.length z = y := by
      rw [List.getD_eq_getElem?_getD, List.getElem?_append_right (by rw [List.length_reverse]; omega), List.length_reverse, Nat.sub_self]; rfl
    have e3 : ((rp.reverse ++ y :: x :: Q).set (rp.length + 1) y).set rp.length x = rp.reverse ++ x :: y :: Q := by
      rw [List.set_append_right _ _ (by rw [List.length_reverse]; omega), List.length_reverse, show rp.length + 1 - rp.length = 1 by omega, List.set_append_right _ _ (by rw [List.length_reverse]; omega), List.length_reverse, Nat.sub_self]; rfl
    rw [hs, h1 k _ i (rp.length + 1) (by omega) (by omega) (by omega), e1, Nat.add_sub_cancel, e2, e3]
    by_cases g : lt x y = true
    · rw [if_pos g]
      obtain ⟨k', hk', e⟩ := ih k x (y :: Q) i (by rw [List.length_cons]; omega) (by omega)
      refine ⟨k', by omega, ?_⟩
      rw [e, insB, if_pos g, List.append_assoc]; rfl
    · rw [if_neg g]
      refine ⟨k, by omega, ?_⟩
      rw [insB, if_neg g]; simp
theorem ins_l0 {α : Type} (z : α) (lt : α → α → Bool) (n0 : Nat) (hn0 : n0 ≤ 1048576) (L0 : Nat → List α → Int → Option (List α)) (L1 : Nat → List α → Int → Int → Option (List α))
    (h1 : ∀ k (s : List α) (i : Int) (j : Nat), 0 < j → j < s.length → s.length ≤ 1048576 → L1 (k + 1) s i (j : Int) = if lt (s.getD j z) (s.getD (j - 1) z) = true then L1 k ((s.set j (s.getD (j - 1) z)).set (j - 1) (s.getD j z)) i ((j - 1 : Nat) : Int) else L0 k s (wrap64 (i + 1)))
    (h2 : ∀ k (s : List α) (i : Int), L1 (k + 1) s i 0 = L0 k s (wrap64 (i + 1)))
    (h3 : ∀ k (s : List α) (i : Nat), i < n0 → L0 (k + 1) s (i : Int) = L1 k s (i : Int) (i : Int)) (h4 : ∀ k (s : List α) (i : Nat), n0 ≤ i → L0 (k + 1) s (i : Int) = some s) :
    ∀ (Q P : List α) (k : Nat), P.length + Q.length = n0 → (Q.length + 1) * (n0 + 3) < k → L0 k (P ++ Q) (P.length : Int) = some (isortB lt P Q) := by
  intro Q
  induction Q with
  | nil =>
    intro P k hn hk
    obtain ⟨k, rfl, _⟩ := succ_of (show 0 < k by omega)
    rw [h4 k _ _ (by simpa using Nat.le_of_eq hn.symm), List.append_nil]; rfl
  | cons x Q ih =>
    intro P k hn hk
    rw [List.length_cons, Nat.add_mul, Nat.one_mul] at hk
    rw [List.length_cons] at hn
    obtain ⟨k, rfl, _⟩ := succ_of (show 0 < k by omega)
    rw [h3 k _ _ (by omega)]
    obtain ⟨k', hk', e⟩ := ins_l1 z lt L0 L1 h1 h2 P.reverse k x Q (P.length : Int) (by rw [List.length_reverse]; omega) (by rw [List.length_reverse]; omega)
    rw [List.reverse_reverse, List.length_reverse] at e
    rw [List.length_reverse] at hk'
    have hl := insB_len lt P.reverse x
    rw [List.length_reverse] at hl
    rw [e, wstep (n := n0) (by omega) (by omega), ← hl, ih (insB lt P.reverse x) k' (by omega) (by omega)]
    rfl
/-- the library's insertion sort, from the second element on -/
theorem ins_eq {α : Type} (z : α) (lt : α → α → Bool) (l : List α) (hl : l.length ≤ 1048576) (L0 : Nat → List α → Int → Option (List α)) (L1 : Nat → List α → Int → Int → Option (List α))
    (h1 : ∀ k (s : List α) (i : Int) (j : Nat), 0 < j → j < s.length → s.length ≤ 1048576 → L1 (k + 1) s i (j : Int) = if lt (s.getD j z) (s.getD (j - 1) z) = true then L1 k ((s.set j (s.getD (j - 1) z)).set (j - 1) (s.getD j z)) i ((j - 1 : Nat) : Int) else L0 k s (wrap64 (i + 1)))
    (h2 : ∀ k (s : List α) (i : Int), L1 (k + 1) s i 0 = L0 k s (wrap64 (i + 1)))
    (h3 : ∀ k (s : List α) (i : Nat), i < l.length → L0 (k + 1) s (i : Int) = L1 k s (i : Int) (i : Int)) (h4 : ∀ k (s : List α) (i : Nat), l.length ≤ i → L0 (k + 1) s (i : Int) = some s) {k : Nat} (hk : (l.length + 1) * (l.length + 3) < k) :
    L0 k l 1 = some (isortB lt [] l) := by
  cases l with
  | nil =>
    obtain ⟨k, rfl, _⟩ := succ_of (show 0 < k by omega)
    exact h4 k [] 1 (by simp)
  | cons x l =>
    have hk2 : (l.length + 1) * ((x :: l).length + 3) < k := Nat.lt_of_le_of_lt (Nat.mul_le_mul_right _ (by rw [List.length_cons]; omega)) hk
    exact ins_l0 z lt (x :: l).length hl L0 L1 h1 h2 h3 h4 l [x] k (by simp only [List.length_cons, List.length_nil]; omega) hk2

end Go.Proofs.YtahfahlbdgbfeaaDoor.Pure

-- Qinslaws
namespace Go.Proofs.YtahfahlbdgbfeaaDoor.Pure
open Go Go.RowKit Go.Proofs Go.Proofs.YtahfahlbdgbfeaaDoorW.PrintWords Go.Proofs.YtahfahlbdgbfeaaDoorW.PrintLast
set_option linter.unusedVariables false
set_option linter.unusedSimpArgs false

theorem insB_last {α : Type} (lt : α → α → Bool) : ∀ (rp : List α) (x : α), (∀ y ∈ rp, lt x y = false) → insB lt rp x = rp.reverse ++ [x] := by
  intro rp x h
  cases rp with
  | nil => rfl
  | cons y rp => rw [insB, if_neg (by rw [h y List.mem_cons_self]; simp)]
/-- a list in order, put into by the key -/
theorem insB_filter {α : Type} (lt : α → α → Bool) (q : α → Bool) (tr : ∀ x a b, lt x a = false → lt a b = false → lt x b = false) : ∀ (rp : List α) (x : α), rp.Pairwise (fun a b => lt a b = false) → (insB lt rp x).filter q = if q x = true then insB lt (rp.filter q) x else (rp.filter q).reverse := by
  intro rp
  induction rp with
  | nil => intro x _; cases g : q x <;> simp [insB, g]
  | cons y rp ih =>
    intro x hp
    rw [List.pairwise_cons] at hp
    by_cases g : lt x y = true
    · have e : insB lt (y :: rp) x = insB lt rp x ++ [y] := by rw [insB, if_pos g]
      rw [e, List.filter_append, ih x hp.2]
      cases gy : q y
      · have e2 : (y :: rp).filter q = rp.filter q := by rw [List.filter_cons, gy]; simp
        have e3 : [y].filter q = [] := by rw [List.filter_cons, gy]; simp
        rw [e2, e3, List.append_nil]
      · have e2 : (y :: rp).filter q = y :: rp.filter q := by rw [List.filter_cons, gy]; simp
        have e3 : [y].filter q = [y] := by rw [List.filter_cons, gy]; simp
        rw [e2, e3]
        cases gx : q x
        · simp
        · simp only [if_true]
          rw [insB, if_pos g]
    · have g2 : lt x y = false := by simpa using g
      have hall : ∀ w ∈ y :: rp, lt x w = false := by
        intro w hw
        rcases List.mem_cons.mp hw with e | e
        · rw [e]; exact g2
        · exact tr x y w g2 (hp.1 w e)
      rw [insB_last lt (y :: rp) x hall, insB_last lt ((y :: rp).filter q) x (fun w hw => hall w (List.mem_filter.mp hw).1), List.filter_append, ← List.filter_reverse]
      cases gx : q x
      · simp [List.filter_cons, gx]
      · simp [List.filter_cons, gx]
theorem insB_rev {α : Type} (lt : α → α → Bool) (tot : ∀ x y, lt x y = true → lt y x = false) (tr : ∀ x a b, lt x a = false → lt a b = false → lt x b = false) (rp : List α) (x : α) (hp : rp.Pairwise (fun a b => lt a b = false)) : (insB lt rp x).reverse.Pairwise (fun a b => lt a b = false) := by
  have h := insB_sorted lt (fun a b => lt b a = false) (fun a b c h1 h2 => tr c b a h2 h1) rp x (by rw [List.pairwise_reverse]; exact hp) (fun y _ h => tot x y h) (fun y _ h => h)
  rw [List.pairwise_reverse]
  exact h
theorem isortB_filter {α : Type} (lt : α → α → Bool) (q : α → Bool) (tot : ∀ x y, lt x y = true → lt y x = false) (tr : ∀ x a b, lt x a = false → lt a b = false → lt x b = false) : ∀ (l P : List α), P.reverse.Pairwise (fun a b => lt a b = false) → (isortB lt P l).filter q = isortB lt (P.filter q) (l.filter q) := by
  intro l
  induction l with
  | nil => intro P _; rfl
  | cons x l ih =>
    intro P hP
    show (isortB lt (insB lt P.reverse x) l).filter q = _
    rw [ih _ (insB_rev lt tot tr P.reverse x hP), insB_filter lt q tr P.reverse x hP]
    cases gx : q x
    · rw [List.filter_cons, gx]
      simp only [Bool.false_eq_true, if_false]
      rw [List.filter_reverse, List.reverse_reverse]
    · rw [List.filter_cons, gx]
      simp only [if_true]
      rw [List.filter_reverse]
      rfl
/-- a place that is looked for from the right, and what stands there behind -/
theorem ins_scan {α β : Type} (z x : α) (lt : α → α → Bool) (O : List α) (L : Nat → Int → Option β) (K : Nat → Nat → Option β)
    (h1 : ∀ k (j : Nat), 0 < j → j ≤ O.length → L (k + 1) (j : Int) = if lt x (O.getD (j - 1) z) = true then L k ((j - 1 : Nat) : Int) else K k j) (h2 : ∀ k, L (k + 1) 0 = K k 0) :
    ∀ (j k : Nat), j ≤ O.length → j < k → ∃ k' j', k ≤ k' + j + 1 ∧ j' ≤ j ∧ L k (j : Int) = K k' j' ∧ O.take j' ++ x :: O.drop j' = insB lt (O.take j).reverse x ++ O.drop j := by
  intro j
  induction j with
  | zero =>
    intro k _ hk
    obtain ⟨k, rfl, _⟩ := succ_of hk
    exact ⟨k, 0, by omega, by omega, h2 k, by simp [insB]⟩
  | succ j ih =>
    intro k hj hk
    obtain ⟨k, rfl, hk⟩ := succ_of hk
    have hlt : j < O.length := by omega
    have ht : (O.take (j + 1)).reverse = O.getD j z :: (O.take j).reverse := by
      rw [List.take_add_one, List.getElem?_eq_getElem hlt, List.getD_eq_getElem?_getD, List.getElem?_eq_getElem hlt]; simp
    have hd : O.drop j = O.getD j z :: O.drop (j + 1) := drop_step hlt z
    rw [h1 k (j + 1) (by omega) hj, Nat.add_sub_cancel]
    by_cases g : lt x (O.getD j z) = true
    · rw [if_pos g]
      obtain ⟨k', j', a, b, c, d⟩ := ih k (by omega) (by omega)
      refine ⟨k', j', by omega, by omega, c, ?_⟩
      rw [d, ht, insB, if_pos g, hd, List.append_assoc]; rfl
    · rw [if_neg g]
      refine ⟨k, j + 1, by omega, by omega, rfl, ?_⟩
      rw [ht, insB, if_neg g]
      have e : (O.getD j z :: (O.take j).reverse).reverse = O.take (j + 1) := by rw [← ht, List.reverse_reverse]
      rw [e, List.append_assoc]; rfl
theorem ins_scan_all {α β : Type} (z x : α) (lt : α → α → Bool) (O : List α) (L : Nat → Int → Option β) (K : Nat → Nat → Option β)
    (h1 : ∀ k (j : Nat), 0 < j → j ≤ O.length → L (k + 1) (j : Int) = if lt x (O.getD (j - 1) z) = true then L k ((j - 1 : Nat) : Int) else K k j) (h2 : ∀ k, L (k + 1) 0 = K k 0) {k : Nat} (hk : O.length < k) :
    ∃ k' j', k ≤ k' + O.length + 1 ∧ j' ≤ O.length ∧ L k (O.length : Int) = K k' j' ∧ O.take j' ++ x :: O.drop j' = insB lt O.reverse x := by
  obtain ⟨k', j', a, b, c, d⟩ := ins_scan z x lt O L K h1 h2 O.length k (by omega) hk
  refine ⟨k', j', a, b, c, ?_⟩
  rw [d, List.take_of_length_le (by omega), List.drop_eq_nil_of_le (by omega), List.append_nil]

end Go.Proofs.YtahfahlbdgbfeaaDoor.Pure

-- Qwaiting
namespace Go.Proofs.YtahfahlbdgbfeaaDoor.Pure
open Go Go.RowKit Go.Proofs Go.Proofs.YtahfahlbdgbfeaaDoor.X Go.Proofs.YtahfahlbdgbfeaaDoorW.PrintWords Go.Proofs.YtahfahlbdgbfeaaDoorW.PrintLast
set_option linter.unusedVariables false
set_option linter.unusedSimpArgs false

theorem idsO_eq {l : List S41} (hs : l.length ≤ 1048576) : ∀ (m k i : Nat) (acc : List Int), i + m = l.length → m < k → acc.length ≤ i → impl_orderIds.l0 k acc l (l.length : Int) (i : Int) = some (acc ++ (l.drop i).map (fun x => x.f0)) := by
  intro m
  induction m with
  | zero =>
    intro k i acc hi hk ha
    obtain ⟨k, rfl, _⟩ := succ_of hk
    rw [impl_orderIds.l0, if_neg (by omega), List.drop_eq_nil_of_le (by omega)]; simp
  | succ m ih =>
    intro k i acc hi hk ha
    obtain ⟨k, rfl, hk⟩ := succ_of hk
    have hlt : i < l.length := by omega
    rw [impl_orderIds.l0, if_pos (by omega), if_pos (by omega), if_pos (by omega), if_pos (by omega), rdIOrder_nat, wstep hlt (by omega), ih k (i + 1) _ (by omega) (by omega) (by rw [List.length_append, List.length_singleton]; omega), drop_step hlt z41, List.map_cons, List.append_assoc]
    rfl
theorem ids_eq {k : Nat} {l : List S41} (hk : l.length < k) (hs : l.length ≤ 1048576) : impl_orderIds.f k l = some (l.map (fun x => x.f0)) := by
  have h := idsO_eq hs l.length k 0 [] (by omega) (by omega) (by simp)
  simpa [impl_orderIds.f] using h
end Go.Proofs.YtahfahlbdgbfeaaDoor.Pure

-- Qatstage
namespace Go.Proofs.YtahfahlbdgbfeaaDoor.Pure
open Go Go.RowKit Go.Proofs Go.Proofs.YtahfahlbdgbfeaaDoor.X Go.Proofs.YtahfahlbdgbfeaaDoorW.PrintWords Go.Proofs.YtahfahlbdgbfeaaDoorW.PrintLast
set_option linter.unusedVariables false
set_option linter.unusedSimpArgs false

def ltD (x y : S41) : Bool := decide (x.f7 < y.f7)
theorem ltD_tot (x y : S41) (h : ltD x y = true) : ltD y x = false := by
  unfold ltD at *
  have := of_decide_eq_true h
  exact decide_eq_false (by omega)
theorem ltD_tr (x a b : S41) (h1 : ltD x a = false) (h2 : ltD a b = false) : ltD x b = false := by
  unfold ltD at *
  have := of_decide_eq_false h1
  have := of_decide_eq_false h2
  exact decide_eq_false (by omega)
def stageQ (s : Int) (x : S41) : Bool := decide (x.f4 = s)
def atM (l : List S41) (s : Int) : List Int × Bool := if ordersB l && decide (0 ≤ s ∧ s ≤ 5) then (((isortB ltD [] l).filter (stageQ s)).map (fun x => x.f0), true) else ([], false)
theorem isortD_len (l : List S41) : (isortB ltD [] l).length = l.length := by
  have h := (isortB_perm ltD l []).length_eq
  simpa using h
theorem atM_len (l : List S41) (s : Int) : (atM l s).1.length ≤ 10 := by
  unfold atM
  split
  · rename_i h
    simp only [Bool.and_eq_true] at h
    have := (orders_of h.1).1
    simp only [List.length_map]
    have h2 := List.length_filter_le (stageQ s) (isortB ltD [] l)
    rw [isortD_len] at h2
    omega
  · simp
theorem atS_l2 {l : List S41} {s : Int} (hs : l.length ≤ 1048576) : ∀ (m k i : Nat) (acc : List Int), i + m = l.length → m < k → acc.length ≤ i → spec_AtStage.l2 k s acc l (i : Int) = some (acc ++ ((l.drop i).filter (stageQ s)).map (fun x => x.f0), true) := by
  intro m
  induction m with
  | zero =>
    intro k i acc hi hk ha
    obtain ⟨k, rfl, _⟩ := succ_of hk
    rw [spec_AtStage.l2, if_neg (by omega), List.drop_eq_nil_of_le (by omega)]; simp
  | succ m ih =>
    intro k i acc hi hk ha
    obtain ⟨k, rfl, hk⟩ := succ_of hk
    have hlt : i < l.length := by omega
    rw [spec_AtStage.l2, if_pos (by omega), if_pos (by omega)]
    simp only [rdIOrder_nat, Option.bind_some]
    rw [drop_step hlt z41, List.filter_cons]
    generalize l.getD i z41 = x
    by_cases g : x.f4 = s
    · rw [if_pos g, if_pos (by simp only [List.length_singleton]; omega), wstep hlt (by omega), ih k (i + 1) _ (by omega) (by omega) (by rw [List.length_append, List.length_singleton]; omega)]
      simp only [stageQ, g, decide_true, if_true, List.map_cons, List.append_assoc, List.singleton_append]
    · rw [if_neg g, wstep hlt (by omega), ih k (i + 1) _ (by omega) (by omega) (by omega)]
      simp only [stageQ, g, decide_false, Bool.false_eq_true, if_false]
theorem atS_l0 {l : List S41} {s : Int} (hs : l.length ≤ 10) : ∀ (m k i : Nat) (O : List S41), i + m = l.length → 20 * m + 20 < k → O.length = i → spec_AtStage.l0 k l s [] O (i : Int) = some (((isortB ltD O (l.drop i)).filter (stageQ s)).map (fun x => x.f0), true) := by
  intro m
  induction m with
  | zero =>
    intro k i O hi hk ho
    obtain ⟨k, rfl, _⟩ := succ_of (show 0 < k by omega)
    rw [spec_AtStage.l0, if_neg (by omega), List.drop_eq_nil_of_le (by omega)]
    have h := atS_l2 (s := s) (l := O) (by omega) O.length k 0 [] (by omega) (by omega) (by simp)
    rw [show ((0 : Nat) : Int) = 0 from rfl] at h
    rw [h]; rfl
  | succ m ih =>
    intro k i O hi hk ho
    obtain ⟨k, rfl, _⟩ := succ_of (show 0 < k by omega)
    have hlt : i < l.length := by omega
    rw [spec_AtStage.l0, if_pos (by omega), drop_step hlt z41]
    obtain ⟨k', j', h1, h2, e, h3⟩ := ins_scan_all z41 (l.getD i z41) ltD O (fun k j => spec_AtStage.l1 k l s [] O (i : Int) j) (fun k j => spec_AtStage.l0 k l s [] (O.take j ++ (l.getD i z41) :: O.drop j) (wrap64 ((i : Int) + 1)))
      (fun k j h0 h1 => by
        simp only [spec_AtStage.l1, Option.bind_some]
        rw [w64 (x := (j : Int) - 1) (by omega) (by omega), if_pos (by omega), if_pos (by omega), if_pos (by omega), if_pos (by omega), if_pos (by omega), show (j : Int) - 1 = ((j - 1 : Nat) : Int) by omega]
        simp only [rdIOrder_nat, Int.toNat_natCast, List.length_nil, List.nil_append, List.length_append, List.length_take, List.length_drop, List.length_singleton]
        by_cases g : (O.getD (j - 1) z41).f7 > (l.getD i z41).f7
        · rw [if_pos g, if_pos (show ltD _ _ = true from decide_eq_true g)]
        · rw [if_neg g, if_neg (show ¬ ltD _ _ = true from by unfold ltD; rw [decide_eq_false (by omega)]; simp), if_pos (by omega), if_pos (by omega), if_pos (by omega), if_pos (by omega), if_pos (by omega)]
          simp only [List.append_assoc, List.singleton_append])
      (fun k => by
        simp only [spec_AtStage.l1, Option.bind_some]
        rw [if_neg (by omega), if_pos (by omega), if_pos (by omega)]
        simp only [rdIOrder_nat, List.take_zero, List.drop_zero, List.length_nil, List.nil_append, List.length_append, List.length_singleton, Int.toNat_zero]
        rw [if_pos (by omega), if_pos (by omega), if_pos (by omega), if_pos (by omega), if_pos (by omega)]
        simp only [List.singleton_append]) (k := k) (by omega)
    have e : spec_AtStage.l1 k l s [] O (i : Int) (O.length : Int) = _ := e
    rw [e, h3, wstep hlt (by omega)]
    have hl := insB_len ltD O.reverse (l.getD i z41)
    rw [List.length_reverse] at hl
    rw [ih k' (i + 1) (insB ltD O.reverse (l.getD i z41)) (by omega) (by omega) (by omega)]
    rfl
theorem atS_eq {k : Nat} {l : List S41} {s : Int} (hk : 4000000 < k) (hs : sizesOk l) : spec_AtStage.f k l s = some (atM l s) := by
  have hlen := hs.1
  obtain ⟨k, rfl, hk⟩ := succ_of hk
  simp only [spec_AtStage.f, ordersS_eq (k := k + 1) (l := l) (by omega) hs, l1In_eq, Option.bind_some, atM, spec_AtStage.j0]
  cases ho : ordersB l
  · simp
  cases decide (0 ≤ s ∧ s ≤ 5)
  · simp
  have h10 := (orders_of ho).1
  simp only [if_true, Bool.not_true, Bool.false_eq_true, if_false, Bool.and_self]
  have h := atS_l0 (l := l) (s := s) h10 l.length k 0 [] (by omega) (by omega) rfl
  rw [show ((0 : Nat) : Int) = 0 from rfl] at h
  rw [h]; rfl
theorem insD_eq {k : Nat} {l : List S41} (hl : l.length ≤ 10) (hk : 200 ≤ k) : slices_insertionSortCmpFunc__impl_CarpetOrder__impl_AtStage_2.f k l 0 (l.length : Int) = some (isortB ltD [] l) := by
  unfold slices_insertionSortCmpFunc__impl_CarpetOrder__impl_AtStage_2.f
  rw [Int.zero_add]
  rw [show wrap64 1 = 1 from w64 (by omega) (by omega)]
  exact ins_eq z41 ltD l (by omega) (fun k s i => slices_insertionSortCmpFunc__impl_CarpetOrder__impl_AtStage_2.l0 k s 0 (l.length : Int) i) (fun k s i j => slices_insertionSortCmpFunc__impl_CarpetOrder__impl_AtStage_2.l1 k s 0 (l.length : Int) i j)
    (fun k s i j h0 h1 h2 => by
      simp only [slices_insertionSortCmpFunc__impl_CarpetOrder__impl_AtStage_2.l1]
      rw [w64 (x := (j : Int) - 1) (by omega) (by omega), if_pos (by omega), if_pos (by omega), if_pos (by omega), if_pos (by omega), if_pos (by omega), show (j : Int) - 1 = ((j - 1 : Nat) : Int) by omega]
      simp only [rdIOrder_nat, impl_AtStage_2.f, cmpI_eq, Option.bind_some, Int.toNat_natCast]
      by_cases g : (s.getD j z41).f7 < (s.getD (j - 1) z41).f7
      · rw [if_pos (by unfold cmpI; rw [if_pos g]; omega), if_pos (show ltD _ _ = true from decide_eq_true g)]
      · rw [if_neg (by unfold cmpI; rw [if_neg g]; split <;> omega), if_neg (by unfold ltD; rw [decide_eq_false g]; simp)])
    (fun k s i => by
      simp only [slices_insertionSortCmpFunc__impl_CarpetOrder__impl_AtStage_2.l1]
      rw [if_neg (by omega)])
    (fun k s i h => by
      simp only [slices_insertionSortCmpFunc__impl_CarpetOrder__impl_AtStage_2.l0]
      rw [if_pos (by omega)])
    (fun k s i h => by
      simp only [slices_insertionSortCmpFunc__impl_CarpetOrder__impl_AtStage_2.l0]
      rw [if_neg (by omega)]) (by have : (l.length + 1) * (l.length + 3) ≤ 11 * 13 := Nat.mul_le_mul (by omega) (by omega); omega)
theorem stableD_eq {k : Nat} {l : List S41} (hl : l.length ≤ 10) (hk : 300 ≤ k) : slices_SortStableFunc__impl_CarpetOrder__impl_AtStage_2.f k l = some (isortB ltD [] l) := by
  unfold slices_SortStableFunc__impl_CarpetOrder__impl_AtStage_2.f slices_stableCmpFunc__impl_CarpetOrder__impl_AtStage_2.f
  obtain ⟨k, rfl, hk2⟩ := succ_of (show 299 < k by omega)
  rw [slices_stableCmpFunc__impl_CarpetOrder__impl_AtStage_2.l0, if_neg (by omega), insD_eq hl (by omega)]
  obtain ⟨k, rfl, hk3⟩ := succ_of (show 0 < k by omega)
  simp only [Option.bind_some, slices_stableCmpFunc__impl_CarpetOrder__impl_AtStage_2.l1]
  rw [if_neg (by omega)]; rfl
theorem delA_eq {k : Nat} {l : List S41} {s : Int} (hk : l.length < k) (hl : l.length ≤ 1048576) : slices_DeleteFunc__impl_CarpetOrder__impl_AtStage_1.f k l s = some (l.filter (stageQ s)) := by
  simp only [slices_DeleteFunc__impl_CarpetOrder__impl_AtStage_1.f, impl_CarpetOrder__impl_AtStage_1.f]
  rw [del_eq z41 (fun k q o j => slices_DeleteFunc__impl_CarpetOrder__impl_AtStage_1.l0 k q o j s) (fun (x_ : S41) => impl_AtStage_1.f x_.f0 x_.f1 x_.f2 x_.f3 x_.f4 x_.f5 x_.f6 x_.f7 s) (fun x => x.f4 != s) l (fun x _ => rfl) hl
    (fun k q o j h1 h2 h3 => by
      simp only [slices_DeleteFunc__impl_CarpetOrder__impl_AtStage_1.l0, rdIOrder_nat, impl_AtStage_1.f, Option.bind_some]
      rw [if_pos (by omega), if_pos (by omega), if_pos (show (0 : Int) ≤ (o : Int) by omega), if_pos (show (o : Int) < (q.length : Int) by omega), Int.toNat_natCast])
    (fun k q o h2 h3 => by
      simp only [slices_DeleteFunc__impl_CarpetOrder__impl_AtStage_1.l0]
      rw [if_neg (by omega), if_pos (by omega), if_pos (by omega), Int.toNat_natCast]) hk]
  congr 1
  refine List.filter_congr (fun x _ => ?_)
  unfold stageQ
  by_cases g : x.f4 = s <;> simp [g]
theorem atI_eq {k : Nat} {l : List S41} {s : Int} (hk : 2000000 < k) (hs : l.length ≤ 1048576) : impl_AtStage.f k l s = some (atM l s) := by
  obtain ⟨k, rfl, hk⟩ := succ_of hk
  simp only [impl_AtStage.f, ordersI_eq (k := k + 1) (l := l) (by omega) hs, impl_isStage.f, in_eq, Option.bind_some, atM, impl_AtStage.j0]
  cases ho : ordersB l
  · simp
  cases decide (0 ≤ s ∧ s ≤ 5)
  · simp
  have h10 := (orders_of ho).1
  have hf := List.length_filter_le (stageQ s) l
  simp only [if_true, Bool.not_true, Bool.false_eq_true, if_false, Bool.and_self, impl_CarpetOrder_80.f, Option.bind_some, List.length_nil, List.nil_append]
  rw [if_pos (by omega)]
  simp only [Option.bind_some, delA_eq (k := k) (l := l) (s := s) (by omega) hs, stableD_eq (k := k) (l := l.filter (stageQ s)) (by omega) (by omega)]
  have hi : isortB ltD [] (l.filter (stageQ s)) = (isortB ltD [] l).filter (stageQ s) := by
    have := isortB_filter ltD (stageQ s) ltD_tot ltD_tr l [] (by simp)
    simpa using this.symm
  have hl2 := isortD_len (l.filter (stageQ s))
  rw [ids_eq (k := k) (by omega) (by omega), hi]
  rfl

end Go.Proofs.YtahfahlbdgbfeaaDoor.Pure

-- QeqInts
namespace Go.Proofs.YtahfahlbdgbfeaaDoor.Pure
open Go Go.RowKit Go.Proofs Go.Proofs.YtahfahlbdgbfeaaDoor.X Go.Proofs.YtahfahlbdgbfeaaDoorW.PrintWords Go.Proofs.YtahfahlbdgbfeaaDoorW.PrintLast
set_option linter.unusedVariables false
set_option linter.unusedSimpArgs false

theorem eqIntS_refl {k : Nat} {l : List Int} (hk : l.length < k) (hl : l.length ≤ 9223372036854775806) : laws_eqIntS.f k l l = some true := by
  unfold laws_eqIntS.f
  rw [if_pos rfl]
  exact refl_loop laws_eqIntS.l0 l hl
    (fun k i h => by simp only [laws_eqIntS.l0]; rw [if_pos (by omega), if_pos (by omega), if_pos (by omega)]; simp)
    (fun k i h => by simp only [laws_eqIntS.l0]; rw [if_neg (by omega)])
    l.length k 0 (by omega) hk

end Go.Proofs.YtahfahlbdgbfeaaDoor.Pure

-- QmarkInts
namespace Go.Proofs.YtahfahlbdgbfeaaDoor.Pure
open Go Go.RowKit Go.Proofs Go.Proofs.YtahfahlbdgbfeaaDoor.X Go.Proofs.YtahfahlbdgbfeaaDoorW.PrintWords Go.Proofs.YtahfahlbdgbfeaaDoorW.PrintLast
set_option linter.unusedVariables false
set_option linter.unusedSimpArgs false

theorem markIntS_eq {k : Nat} {l : List Int} {s : Int} (hk : l.length < k) (hl : l.length ≤ 1073741824) (hs : 0 ≤ s ∧ s ≤ 1073741824) : laws_markIntS.f k l s = some (s + 1 * l.length, markM (fun x => x) 1 l.length s) := by
  unfold laws_markIntS.f
  have h := mark_loop laws_markIntS.l0 (fun x => x) 1 l.length s (by omega)
    (fun k x i h1 h2 => by
      simp only [laws_markIntS.l0]
      rw [if_pos (by omega), if_pos (by omega)]
      rw [w64 (x := s + 1 * (i : Int) + 1) (by omega) (by omega)]
      congr 1 <;> first | (push_cast; omega) | simp)
    (fun k x m i h1 h2 => by simp only [laws_markIntS.l0]; rw [if_neg (by omega)])
    l.length k 0 l (by omega) hk rfl (by simp)
  simpa using h
theorem heldIntS_eq {k : Nat} {n : Nat} {s : Int} (hk : n < k) (hl : n ≤ 1073741824) (hs : 0 ≤ s ∧ s ≤ 1073741824) : laws_heldIntS.f k (markM (fun x => x) 1 n s) s = some (s + 1 * n) := by
  unfold laws_heldIntS.f
  have h := held_loop laws_heldIntS.l0 (fun x => x) 1 n s (by omega)
    (fun k i h1 => by
      simp only [laws_heldIntS.l0, markM_length]
      rw [if_pos (by omega), if_pos (by omega), rd_nat, markM_getD _ _ _ _ _ h1, if_pos rfl]
      rw [w64 (x := s + 1 * (i : Int) + 1) (by omega) (by omega)]
      congr 1; push_cast; omega)
    (fun k m i h1 => by simp only [laws_heldIntS.l0, markM_length]; rw [if_neg (by omega)])
    n k 0 (by omega) hk
  simpa using h

end Go.Proofs.YtahfahlbdgbfeaaDoor.Pure

-- Qmarks2
namespace Go.Proofs.YtahfahlbdgbfeaaDoor.Pure
open Go Go.RowKit Go.Proofs Go.Proofs.YtahfahlbdgbfeaaDoorW.PrintWords Go.Proofs.YtahfahlbdgbfeaaDoorW.PrintLast
set_option linter.unusedVariables false
set_option linter.unusedSimpArgs false

/-- A loop that marks, whose rounds need some fuel. -/
theorem mark_loop2 {α : Type} (L : Nat → List α → Int → Int → Option (Int × List α)) (g : Int → α) (c : Int) (n0 m0 : Nat) (s : Int) (hb : n0 ≤ 9223372036854775806)
    (hs : ∀ k x (i : Nat), m0 ≤ k → i < n0 → x.length = n0 → L (k + 1) x (s + c * i) i = L k (x.set i (g (s + c * i))) (s + c * ((i + 1 : Nat) : Int)) (wrap64 ((i : Int) + 1)))
    (he : ∀ k x m (i : Nat), n0 ≤ i → x.length = n0 → L (k + 1) x m i = some (m, x)) :
    ∀ n k (i : Nat) (x : List α), i + n = n0 → n + m0 < k → x.length = n0 → x.take i = (markM g c n0 s).take i → L k x (s + c * i) i = some (s + c * n0, markM g c n0 s) := by
  intro n
  induction n with
  | zero =>
    intro k i x hi hk hl ht
    obtain ⟨k, rfl, _⟩ := succ_of (show 0 < k by omega)
    rw [he k x _ i (by omega) hl]
    rw [List.take_of_length_le (by omega), List.take_of_length_le (by rw [markM_length]; omega)] at ht
    rw [ht]; simp [show i = n0 by omega]
  | succ n ih =>
    intro k i x hi hk hl ht
    obtain ⟨k, rfl, _⟩ := succ_of (show 0 < k by omega)
    rw [hs k x i (by omega) (by omega) hl, wstep (show i < n0 by omega) (by omega)]
    refine ih k (i + 1) _ (by omega) (by omega) (by rw [List.length_set]; exact hl) ?_
    rw [List.take_succ_eq_append_getElem (by rw [List.length_set]; omega), List.take_succ_eq_append_getElem (by rw [markM_length]; omega), ← ht]
    congr 1
    · rw [List.take_set_of_le (Nat.le_refl _)]
    · simp [markM]
end Go.Proofs.YtahfahlbdgbfeaaDoor.Pure

-- Qmarktext
namespace Go.Proofs.YtahfahlbdgbfeaaDoor.Pure
open Go Go.RowKit Go.Proofs Go.Proofs.YtahfahlbdgbfeaaDoor.X Go.Proofs.YtahfahlbdgbfeaaDoorW.PrintWords Go.Proofs.YtahfahlbdgbfeaaDoorW.PrintLast
set_option linter.unusedVariables false
set_option linter.unusedSimpArgs false

theorem strOf_one (c : Int) : (strOfNums [c]).size = 1 := rfl
theorem markText_loop : ∀ (m : Nat) (x0 : Int) (x3 : ByteArray), 0 ≤ x0 → x0 ≤ 9223372036854775807 → x0 < ((10 ^ m : Nat) : Int) → x3.size + m ≤ 100 → ∃ t, ∀ k, m < k → laws_markText.l0 k x0 x3 = some t := by
  intro m
  induction m with
  | zero =>
    intro x0 x3 h0 hb h1 hs
    refine ⟨(⟨#[109]⟩ : ByteArray) ++ x3, fun k hk => ?_⟩
    obtain ⟨k, rfl, _⟩ := succ_of hk
    rw [laws_markText.l0, if_neg (by simp at h1; omega), if_pos (by omega)]
  | succ m ih =>
    intro x0 x3 h0 hb h1 hs
    by_cases hx : x0 > 0
    · have hq : Int.tdiv x0 10 = x0 / 10 := Int.tdiv_eq_ediv_of_nonneg h0
      have hp : ((10 ^ (m + 1) : Nat) : Int) = 10 * ((10 ^ m : Nat) : Int) := by rw [Nat.pow_succ]; push_cast; omega
      obtain ⟨t, ht⟩ := ih (x0 / 10) (strOfNums [(wrap64 (48 + (Int.tmod x0 10))) % 256] ++ x3) (by omega) (by omega) (by omega) (by rw [ByteArray.size_append, strOf_one]; omega)
      refine ⟨t, fun k hk => ?_⟩
      obtain ⟨k, rfl, hk2⟩ := succ_of (show 0 < k by omega)
      rw [laws_markText.l0, if_pos hx]
      simp only [Option.bind_some]
      rw [if_pos (by rw [strOf_one]; omega), hq]
      rw [w64 (x := x0 / 10) (by omega) (by omega)]; exact ht k (by omega)
    · refine ⟨(⟨#[109]⟩ : ByteArray) ++ x3, fun k hk => ?_⟩
      obtain ⟨k, rfl, _⟩ := succ_of (show 0 < k by omega)
      rw [laws_markText.l0, if_neg hx, if_pos (by omega)]
theorem markText_ex (n : Int) (h : n ≤ 9223372036854775807) : ∃ t, ∀ k, 19 < k → laws_markText.f k n = some t := by
  by_cases h0 : n ≤ 0
  · exact ⟨_, fun k _ => by unfold laws_markText.f; rw [if_pos h0]⟩
  · obtain ⟨t, ht⟩ := markText_loop 19 n ⟨#[]⟩ (by omega) h (by have : ((10 ^ 19 : Nat) : Int) = 10000000000000000000 := rfl; omega) (by decide)
    exact ⟨t, fun k hk => by unfold laws_markText.f; rw [if_neg h0]; exact ht k hk⟩
/-- the text that tells a number -/
noncomputable def mt (n : Int) : ByteArray := if h : n ≤ 9223372036854775807 then Classical.choose (markText_ex n h) else ⟨#[]⟩
theorem markText_eq {n : Int} {k : Nat} (h : n ≤ 9223372036854775807) (hk : 19 < k) : laws_markText.f k n = some (mt n) := by
  unfold mt
  rw [dif_pos h]
  exact Classical.choose_spec (markText_ex n h) k hk

end Go.Proofs.YtahfahlbdgbfeaaDoor.Pure

-- QmarksOrder
namespace Go.Proofs.YtahfahlbdgbfeaaDoor.Pure
open Go Go.RowKit Go.Proofs Go.Proofs.YtahfahlbdgbfeaaDoor.X Go.Proofs.YtahfahlbdgbfeaaDoorW.PrintWords Go.Proofs.YtahfahlbdgbfeaaDoorW.PrintLast
set_option linter.unusedVariables false
set_option linter.unusedSimpArgs false

noncomputable def markOrder (s : Int) : S41 := ⟨s, mt (s + 1), s + 2, s + 3, s + 4, s + 5, s + 6, s + 7⟩
set_option maxHeartbeats 8000000 in
theorem markOrderS_eq {k : Nat} {l : List S41} {s : Int} (hk : l.length + 20 < k) (hl : l.length ≤ 1048576) (hs : 0 ≤ s ∧ s ≤ 1073741824) : laws_markCarpetOrderS.f k l s = some (s + 8 * (l.length : Int), markM markOrder 8 l.length s) := by
  unfold laws_markCarpetOrderS.f
  have h := mark_loop2 laws_markCarpetOrderS.l0 markOrder 8 l.length 20 s (by omega)
    (fun k x i hk h1 h2 => by
      have hg : ∀ (y : List S41) (v : S41), y.length = l.length → (y.set i v).getD i z41 = v := by
        intro y v hy
        rw [List.getD_eq_getElem?_getD, List.getElem?_set_self (by omega)]; rfl
      simp only [laws_markCarpetOrderS.l0, Option.bind_some, rdIOrder_nat, Int.toNat_natCast]
      rw [if_pos (by omega), if_pos (by omega)]
      rw [w64 (x := s + 8 * (i : Int) + 1) (by omega) (by omega), markText_eq (n := s + 8 * (i : Int) + 1) (by omega) (by omega)]
      simp only [Option.bind_some, hg, List.length_set, h2, List.set_set]
      rw [w64 (x := s + 8 * (i : Int) + 1 + 1) (by omega) (by omega), w64 (x := s + 8 * (i : Int) + 1 + 1 + 1) (by omega) (by omega), w64 (x := s + 8 * (i : Int) + 1 + 1 + 1 + 1) (by omega) (by omega), w64 (x := s + 8 * (i : Int) + 1 + 1 + 1 + 1 + 1) (by omega) (by omega), w64 (x := s + 8 * (i : Int) + 1 + 1 + 1 + 1 + 1 + 1) (by omega) (by omega), w64 (x := s + 8 * (i : Int) + 1 + 1 + 1 + 1 + 1 + 1 + 1) (by omega) (by omega), w64 (x := s + 8 * (i : Int) + 1 + 1 + 1 + 1 + 1 + 1 + 1 + 1) (by omega) (by omega)]
      have e1 : markOrder (s + 8 * (i : Int)) = ⟨s + 8 * (i : Int), mt (s + 8 * (i : Int) + 1), s + 8 * (i : Int) + 1 + 1, s + 8 * (i : Int) + 1 + 1 + 1, s + 8 * (i : Int) + 1 + 1 + 1 + 1, s + 8 * (i : Int) + 1 + 1 + 1 + 1 + 1, s + 8 * (i : Int) + 1 + 1 + 1 + 1 + 1 + 1, s + 8 * (i : Int) + 1 + 1 + 1 + 1 + 1 + 1 + 1⟩ := by
        unfold markOrder; congr 1 <;> omega
      have e2 : s + 8 * ((i + 1 : Nat) : Int) = s + 8 * (i : Int) + 1 + 1 + 1 + 1 + 1 + 1 + 1 + 1 := by push_cast; omega
      rw [e1, e2])
    (fun k x m i h1 h2 => by simp only [laws_markCarpetOrderS.l0]; rw [if_neg (by omega)])
    l.length k 0 l (by omega) (by omega) rfl (by simp)
  simpa using h
end Go.Proofs.YtahfahlbdgbfeaaDoor.Pure

-- PureFnExactAtStage
namespace Go.Proofs.YtahfahlbdgbfeaaDoor.Pure
open Go Go.RowKit Go.Proofs Go.Proofs.YtahfahlbdgbfeaaDoor.X Go.Proofs.YtahfahlbdgbfeaaDoorW.PrintWords Go.Proofs.YtahfahlbdgbfeaaDoorW.PrintLast
set_option linter.unusedVariables false
set_option linter.unusedSimpArgs false

theorem FnExactAtStage : laws_FnExactAtStage.Pure := by
  intro l d hl _
  refine ⟨8000003, ?_⟩
  obtain ⟨r, hr, hor⟩ := szOrderS_ex (k := 8000003) (l := l) (by omega) hl.1 (fun x hx => (hl.2 x hx).2.1)
  simp only [laws_FnExactAtStage.f, hr, Option.bind_some]
  by_cases h : r < 0
  · rw [if_pos h]
  rw [if_neg h]
  have hs := hor.resolve_left h
  have hm := sizesOk_map hs
  have hlen := atM_len (l.map toOrder) d
  simp only [toOrderS_eq (k := 8000003) (l := l) (by omega) hs.1, Option.bind_some, atS_eq (k := 8000003) (l := l.map toOrder) (s := d) (by omega) hm, atI_eq (k := 8000003) (l := l.map toOrder) (s := d) (by omega) hm.1, eqIntS_refl (k := 8000003) (l := (atM (l.map toOrder) d).1) (by omega) (by omega), if_true, bne_self_eq_false, laws_FnExactAtStage.j0, Bool.false_eq_true, if_false, toOrderS_eq (k := 8000002) (l := l) (by omega) hs.1, eqOrderS_refl (k := 8000002) (l := l.map toOrder) (by omega) (by omega), markOrderS_eq (k := 8000002) (l := l.map toOrder) (s := 1) (by omega) hm.1 (by omega), eqIntS_refl (k := 8000002) (l := (atM (l.map toOrder) d).1) (by omega) (by omega)]
  rw [if_neg (by omega)]
  simp only [laws_FnExactAtStage.j1, Bool.false_eq_true, if_false, markIntS_eq (k := 8000001) (l := (atM (l.map toOrder) d).1) (s := 1) (by omega) (by omega) (by omega), Option.bind_some, heldIntS_eq (k := 8000001) (n := (atM (l.map toOrder) d).1.length) (s := 1) (by omega) (by omega) (by omega), if_true, toOrderS_eq (k := 8000001) (l := l) (by omega) hs.1, atI_eq (k := 8000001) (l := l.map toOrder) (s := d) (by omega) hm.1, eqIntS_refl (k := 8000001) (l := (atM (l.map toOrder) d).1) (by omega) (by omega), bne_self_eq_false]
  rw [if_neg (by omega)]
  simp only [laws_FnExactAtStage.j2, Bool.false_eq_true, if_false, heldIntS_eq (k := 8000000) (n := (atM (l.map toOrder) d).1.length) (s := 1) (by omega) (by omega) (by omega), Option.bind_some, if_true]
  rw [if_neg (by omega)]

end Go.Proofs.YtahfahlbdgbfeaaDoor.Pure
