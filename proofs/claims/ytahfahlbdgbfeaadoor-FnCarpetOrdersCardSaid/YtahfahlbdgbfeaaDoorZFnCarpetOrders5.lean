/- What the law FnCarpetOrders needs, part 6 of 6: what each function of the program that it reaches returns (printed by this session's own program, checked by Lean), and plain mathematics about it. Conditions: those of each theorem. -/
import Derived.Test.YtahfahlbdgbfeaaDoorZFnCarpetOrders4
import Derived.Test.YtahfahlbdgbfeaaDoorYG
import Derived.ProofKit
import Derived.WideShapes
namespace Go.Proofs.YtahfahlbdgbfeaaDoor.Pure
open Go Go.RowKit Go.Proofs Go.Proofs.YtahfahlbdgbfeaaDoor.X Go.Proofs.YtahfahlbdgbfeaaDoorW.PrintWords Go.Proofs.YtahfahlbdgbfeaaDoorW.PrintLast
set_option linter.unusedVariables false
set_option linter.unusedSimpArgs false
def owedV (c : ByteArray) (x : S41) : Int := if x.f1.toList = c.toList then (if x.f4 = 5 then 0 else x.f5 - x.f6) else 0
def owedM (l : List S41) (c : ByteArray) : Int × Bool := if ordersB l && wordB c then ((l.map (owedV c)).sum, true) else (0, false)
theorem owed_bd {c : ByteArray} {x : S41} (h : orderB x = true) : 0 ≤ owedV c x ∧ owedV c x ≤ 10000000 := by
  have hx := order_of h
  unfold owedV
  (repeat' split) <;> omega
theorem owedI_eq {k : Nat} {l : List S41} {c : ByteArray} (hk : l.length + 2 < k) (hs : l.length ≤ 1048576) : Fj.f k l c = some (owedM l c) := by
  obtain ⟨k, rfl, hk⟩ := succ_of (show 0 < k by omega)
  simp only [Fj.f, Fj.j0, ordersI_eq (k := k + 1) (l := l) (by omega) hs, wordI_eq, Option.bind_some, owedM]
  cases hb : ordersB l
  · simp
  cases hw : wordB c
  · simp
  obtain ⟨h10, hx⟩ := orders_of hb
  simp only [if_true, Bool.not_true, Bool.false_eq_true, if_false, Bool.and_self]
  have := sum_loop (fun k a i => Fj.l0 k c a l (l.length : Int) i) (owedV c) (fun a => some (a, true)) z41 10000000 l (by omega) (fun x hm => owed_bd (hx x hm))
    (fun k acc i h1 h2 h3 => by
      have hm : l.getD i z41 ∈ l := by rw [List.getD_eq_getElem?_getD, List.getElem?_eq_getElem h1]; exact List.getElem_mem h1
      have hb := order_of (hx _ hm)
      simp only [Fj.l0, rdIOrder_nat]
      rw [if_pos (by omega), if_pos (by omega), if_pos (by omega)]
      unfold owedV
      by_cases g1 : (l.getD i z41).f1.toList = c.toList
      · rw [if_pos g1, if_pos g1]
        by_cases g2 : (l.getD i z41).f4 = 5
        · rw [if_pos g2, if_pos g2, Int.add_zero]
        · rw [if_neg g2, if_neg g2, w64 (x := _ - _) (by omega) (by omega), w64 (by omega) (by omega)]
      · rw [if_neg g1, if_neg g1, Int.add_zero])
    (fun k acc i h1 => by simp only [Fj.l0]; rw [if_neg (by omega)])
    l.length k 0 0 (by omega) (by omega) (by omega) (by omega)
  simpa using this
end Go.Proofs.YtahfahlbdgbfeaaDoor.Pure

namespace Go.Proofs.YtahfahlbdgbfeaaDoor.Pure
open Go Go.RowKit Go.Proofs Go.Proofs.YtahfahlbdgbfeaaDoorW.PrintWords Go.Proofs.YtahfahlbdgbfeaaDoorW.PrintLast
set_option linter.unusedVariables false
set_option linter.unusedSimpArgs false
theorem sum_set {α : Type} (f : α → Int) (d y : α) : ∀ (l : List α) (j : Nat), j < l.length → ((l.set j y).map f).sum = (l.map f).sum - f (l.getD j d) + f y := by
  intro l
  induction l with
  | nil => intro j h; simp at h
  | cons x l ih =>
    intro j h
    cases j with
    | zero => simp [List.set]; omega
    | succ j =>
      have := ih j (by simp at h; omega)
      simp only [List.set, List.map_cons, List.sum_cons, this, List.getD_cons_succ]
      omega
/-- A loop whose rounds all pass. -/
theorem pass_loop {β : Type} (L : Nat → Int → Option β) (K : Nat → Option β) (n M : Nat) (hn : n ≤ 1048576)
    (hs : ∀ k (i : Nat), M ≤ k → i < n → L (k + 1) i = L k (wrap64 ((i : Int) + 1))) (he : ∀ k, L (k + 1) (n : Int) = K k) :
    ∀ (m k i : Nat), i + m = n → m + M < k → ∃ k', k ≤ k' + m + 1 ∧ M ≤ k' ∧ L k (i : Int) = K k' := by
  intro m
  induction m with
  | zero =>
    intro k i hi hk
    obtain ⟨k, rfl, _⟩ := succ_of (show 0 < k by omega)
    obtain rfl : i = n := by omega
    exact ⟨k, by omega, by omega, he k⟩
  | succ m ih =>
    intro k i hi hk
    obtain ⟨k, rfl, _⟩ := succ_of (show 0 < k by omega)
    rw [hs k i (by omega) (by omega), wstep (n := n) (by omega) (by omega)]
    obtain ⟨k', h1, h2, h3⟩ := ih k (i + 1) (by omega) (by omega)
    exact ⟨k', by omega, h2, h3⟩
end Go.Proofs.YtahfahlbdgbfeaaDoor.Pure

namespace Go.Proofs.YtahfahlbdgbfeaaDoor.Pure
open Go Go.RowKit Go.Proofs Go.Proofs.YtahfahlbdgbfeaaDoor.X Go.Proofs.YtahfahlbdgbfeaaDoorW.PrintWords Go.Proofs.YtahfahlbdgbfeaaDoorW.PrintLast
set_option linter.unusedVariables false
set_option linter.unusedSimpArgs false
theorem asc_ltO {l : List S41} (h : ordersB l = true) : ∀ n i, i + n + 1 < l.length → (l.getD i z41).f0 < (l.getD (i + n + 1) z41).f0 := by
  simp only [ordersB, Bool.and_eq_true] at h
  have h := h.2.2
  rw [allR_iff] at h
  intro n
  induction n with
  | zero =>
    intro i hi
    have := h (i + 1) (by omega) (by omega)
    unfold ascO at this
    simpa using this
  | succ n ih =>
    intro i hi
    have h1 := ih i (by omega)
    have h2 := h (i + (n + 1) + 1) (by omega) (by omega)
    unfold ascO at h2
    have h2 := of_decide_eq_true h2
    rw [show i + (n + 1) + 1 - 1 = i + n + 1 by omega] at h2
    omega
theorem uniqO {l : List S41} (h : ordersB l = true) {i j : Nat} (hi : i < l.length) (hj : j < l.length) (e : (l.getD i z41).f0 = (l.getD j z41).f0) : i = j := by
  by_cases g : i < j
  · have := asc_ltO h (j - i - 1) i (by omega)
    rw [show i + (j - i - 1) + 1 = j by omega] at this
    omega
  · by_cases g2 : j < i
    · have := asc_ltO h (i - j - 1) j (by omega)
      rw [show j + (i - j - 1) + 1 = i by omega] at this
      omega
    · omega
theorem findM_id {l : List S41} {id : Int} {j : Nat} (h : findM l id = j) : (l.getD j z41).f0 = id := by
  unfold findM at h
  split at h
  · unfold findI at h
    cases hf : l.findIdx? (fun x => x.f0 == id) with
    | none => rw [hf] at h; simp only at h; omega
    | some q =>
      rw [hf] at h
      simp only at h
      obtain rfl : q = j := by omega
      obtain ⟨hj, h1, _⟩ := List.findIdx?_eq_some_iff_getElem.mp hf
      rw [List.getD_eq_getElem?_getD, List.getElem?_eq_getElem hj]
      simpa using h1
  · omega
theorem getD_set {α : Type} (l : List α) (j : Nat) (o d : α) (h : j < l.length) : (l.set j o).getD j d = o := by
  rw [List.getD_eq_getElem?_getD, List.getElem?_set_self (by omega)]; rfl
/-- a list in which the order that is looked for is another one -/
theorem set_fact {l : List S41} {id : Int} {j : Nat} {o : S41} (h : findM l id = j) (hj : j < l.length) (ho : o.f0 = (l.getD j z41).f0) (hb : ordersB (l.set j o) = true) {i : Nat} (hi : i < (l.set j o).length) (hid : ((l.set j o).getD i z41).f0 = id) : i = j := by
  have h1 := getD_set l j o z41 hj
  refine uniqO hb hi (by rw [List.length_set]; exact hj) ?_
  rw [hid, h1, ho, findM_id h]
theorem pay_fact {l : List S41} {id c : Int} {i : Nat} (hi : i < (payM l id c).1.length) (hid : ((payM l id c).1.getD i z41).f0 = id) : ∃ a b : Int, owedM l ((payM l id c).1.getD i z41).f1 = (a, true) ∧ owedM (payM l id c).1 ((payM l id c).1.getD i z41).f1 = (b, true) ∧ a - b = c ∧ (0 ≤ c ∧ c ≤ 10000000) := by
  unfold payM at hi hid ⊢
  simp only at hi hid ⊢
  rcases findM_cases l id with h | ⟨j, h, hj, hob, ho⟩
  · rw [h] at hi; simp at hi
  rw [h] at hi hid ⊢
  simp only [Int.toNat_natCast] at hi hid ⊢
  simp only [if_neg (show ¬ (j : Int) < 0 by omega)] at hi hid ⊢
  obtain ⟨x, hx⟩ : ∃ x, l.getD j z41 = x := ⟨_, rfl⟩
  rw [hx] at hi hid ho ⊢
  by_cases g5 : x.f4 = 5
  · simp only [if_pos g5] at hi; simp at hi
  simp only [if_neg g5] at hi hid ⊢
  by_cases gc : 0 ≤ c ∧ c ≤ 10000000
  rotate_left
  · simp only [if_neg gc] at hi; simp at hi
  simp only [if_pos gc] at hi hid ⊢
  unfold withM at hi hid ⊢
  simp only [Int.toNat_natCast] at hi hid ⊢
  by_cases gb : ordersB (l.set j ⟨x.f0, x.f1, x.f2, x.f3, x.f4, x.f5, x.f6 + c, x.f7⟩) = true
  rotate_left
  · simp only [if_neg gb] at hi; simp at hi
  simp only [if_pos gb] at hi hid ⊢
  have e := set_fact h hj (by rw [hx]) gb hi hid
  subst e
  rw [getD_set l i _ z41 hj]
  have hw := (order_of ho).2.1
  unfold owedM
  simp only [hob, gb, hw, Bool.and_self, if_true]
  refine ⟨_, _, rfl, rfl, ?_, gc⟩
  rw [sum_set (owedV x.f1) z41 _ l i hj, hx]
  have e1 : owedV x.f1 x = x.f5 - x.f6 := by unfold owedV; rw [if_pos rfl, if_neg g5]
  have e2 : owedV x.f1 ⟨x.f0, x.f1, x.f2, x.f3, x.f4, x.f5, x.f6 + c, x.f7⟩ = x.f5 - (x.f6 + c) := by unfold owedV; rw [if_pos rfl, if_neg g5]
  rw [e1, e2]; omega
theorem next_fact {l : List S41} {id d : Int} {i : Nat} (hi : i < (nextM l id d).1.length) (hid : ((nextM l id d).1.getD i z41).f0 = id) : i < l.length ∧ (0 ≤ (l.getD i z41).f4 ∧ (l.getD i z41).f4 ≤ 3) ∧ (atM (nextM l id d).1 ((l.getD i z41).f4 + 1)).2 = true ∧ ((atM (nextM l id d).1 ((l.getD i z41).f4 + 1)).1.any fun y => decide (y = id)) = true := by
  unfold nextM at hi hid ⊢
  simp only at hi hid ⊢
  rcases findM_cases l id with h | ⟨j, h, hj, hob, ho⟩
  · rw [h] at hi; simp at hi
  rw [h] at hi hid ⊢
  simp only [Int.toNat_natCast] at hi hid ⊢
  simp only [if_neg (show ¬ (j : Int) < 0 by omega)] at hi hid ⊢
  obtain ⟨x, hx⟩ : ∃ x, l.getD j z41 = x := ⟨_, rfl⟩
  rw [hx] at hi hid ho ⊢
  by_cases g5 : x.f4 > 3 ∨ d < x.f7 ∨ (x.f4 = 0 ∧ 3 * x.f6 < x.f5) ∨ (x.f4 = 3 ∧ x.f6 < x.f5)
  · simp only [if_pos g5] at hi; simp at hi
  simp only [if_neg g5] at hi hid ⊢
  unfold withM at hi hid ⊢
  simp only [Int.toNat_natCast] at hi hid ⊢
  by_cases gb : ordersB (l.set j ⟨x.f0, x.f1, x.f2, x.f3, x.f4 + 1, x.f5, x.f6, d⟩) = true
  rotate_left
  · simp only [if_neg gb] at hi; simp at hi
  simp only [if_pos gb] at hi hid ⊢
  have e := set_fact h hj (by rw [hx]) gb hi hid
  subst e
  have hb := order_of ho
  rw [hx]
  refine ⟨hj, by omega, ?_⟩
  unfold atM
  rw [gb, decide_eq_true (show 0 ≤ x.f4 + 1 ∧ x.f4 + 1 ≤ 5 by omega), if_pos (show (true && true) = true from rfl)]
  refine ⟨rfl, ?_⟩
  rw [List.any_eq_true]
  refine ⟨id, ?_, by simp⟩
  rw [List.mem_map]
  refine ⟨⟨x.f0, x.f1, x.f2, x.f3, x.f4 + 1, x.f5, x.f6, d⟩, ?_, ?_⟩
  · rw [List.mem_filter]
    refine ⟨?_, by simp [stageQ]⟩
    have hp := (isortB_perm ltD (l.set i ⟨x.f0, x.f1, x.f2, x.f3, x.f4 + 1, x.f5, x.f6, d⟩) []).mem_iff (a := ⟨x.f0, x.f1, x.f2, x.f3, x.f4 + 1, x.f5, x.f6, d⟩)
    rw [hp, List.nil_append]
    exact List.mem_set hj _
  · rw [← findM_id h, hx]
theorem call_fact {l : List S41} {id d : Int} {i : Nat} (hi : i < (callM l id d).1.length) (hid : ((callM l id d).1.getD i z41).f0 = id) : i < l.length ∧ ((callM l id d).1.getD i z41).f6 + (callM l id d).2.1 = (l.getD i z41).f6 ∧ ¬ (callM l id d).2.1 < ((callM l id d).1.getD i z41).f6 ∧ (0 ≤ (l.getD i z41).f6 ∧ (l.getD i z41).f6 ≤ 10000000) := by
  unfold callM at hi hid ⊢
  simp only at hi hid ⊢
  rcases findM_cases l id with h | ⟨j, h, hj, hob, ho⟩
  · rw [h] at hi; simp at hi
  rw [h] at hi hid ⊢
  simp only [Int.toNat_natCast] at hi hid ⊢
  simp only [if_neg (show ¬ (j : Int) < 0 by omega)] at hi hid ⊢
  obtain ⟨x, hx⟩ : ∃ x, l.getD j z41 = x := ⟨_, rfl⟩
  rw [hx] at hi hid ho ⊢
  by_cases g5 : x.f4 > 1 ∨ d < x.f7
  · simp only [if_pos g5] at hi; simp at hi
  simp only [if_neg g5] at hi hid ⊢
  unfold withM at hi hid ⊢
  simp only [Int.toNat_natCast] at hi hid ⊢
  by_cases gb : ordersB (l.set j ⟨x.f0, x.f1, x.f2, x.f3, 5, x.f5, x.f6 - (x.f6 + 1) / 2, d⟩) = true
  rotate_left
  · simp only [if_neg gb] at hi; simp at hi
  simp only [if_pos gb, if_true] at hi hid ⊢
  have e := set_fact h hj (by rw [hx]) gb hi hid
  subst e
  have hb := order_of ho
  rw [hx, getD_set l i _ z41 hj]
  exact ⟨hj, by simp only; omega, by simp only; omega, by omega⟩
end Go.Proofs.YtahfahlbdgbfeaaDoor.Pure

namespace Go.Proofs.YtahfahlbdgbfeaaDoor.Pure
open Go Go.RowKit Go.Proofs Go.Proofs.YtahfahlbdgbfeaaDoorW.PrintWords Go.Proofs.YtahfahlbdgbfeaaDoorW.PrintLast
set_option linter.unusedVariables false
set_option linter.unusedSimpArgs false
/-- A loop that looks for an element. -/
theorem any_loop {α : Type} (L : Nat → Int → Option Bool) (q : α → Bool) (d : α) (l : List α) (hb : l.length ≤ 9223372036854775806)
    (hs : ∀ k (i : Nat), i < l.length → L (k + 1) i = if q (l.getD i d) = true then some true else L k (wrap64 ((i : Int) + 1))) (he : ∀ k (i : Nat), l.length ≤ i → L (k + 1) i = some false) :
    ∀ n k (i : Nat), i + n = l.length → n < k → L k i = some ((l.drop i).any q) := by
  intro n
  induction n with
  | zero =>
    intro k i hi hk
    obtain ⟨k, rfl, _⟩ := succ_of hk
    rw [he k i (by omega), List.drop_eq_nil_of_le (by omega)]; rfl
  | succ n ih =>
    intro k i hi hk
    obtain ⟨k, rfl, hk⟩ := succ_of hk
    rw [hs k i (by omega), wstep (show i < l.length by omega) (by omega), drop_step (by omega) d, List.any_cons, ih k (i + 1) (by omega) (by omega)]
    cases q (l.getD i d) <;> simp
end Go.Proofs.YtahfahlbdgbfeaaDoor.Pure

namespace Go.Proofs.YtahfahlbdgbfeaaDoor.Pure
open Go Go.RowKit Go.Proofs Go.Proofs.YtahfahlbdgbfeaaDoor.X Go.Proofs.YtahfahlbdgbfeaaDoorW.PrintWords Go.Proofs.YtahfahlbdgbfeaaDoorW.PrintLast
set_option linter.unusedVariables false
set_option linter.unusedSimpArgs false
theorem rHas_eq {k : Nat} {t : List Int} (hk : t.length < k) (hl : t.length ≤ 1048576) (v : Int) : Faf.f k t v = some (t.any fun y => decide (y = v)) := by
  unfold Faf.f
  have := any_loop (fun k i => Faf.l0 k t v i) (fun y => decide (y = v)) 0 t (by omega)
    (fun k i h => by
      simp only [Faf.l0]
      rw [if_pos (by omega), if_pos (by omega), rd_nat]
      by_cases g : t.getD i 0 = v
      · rw [if_pos g, if_pos (decide_eq_true g)]
      · rw [if_neg g, if_neg (by simpa using g)])
    (fun k i h => by simp only [Faf.l0]; rw [if_neg (by omega)])
    t.length k 0 (by omega) hk
  simpa using this
theorem sizes_of {l : List S41} (h1 : l.length ≤ 12) (h2 : clientsOk l) : sizesOk l := ⟨by omega, fun x hx => by have := h2 x hx; omega⟩
theorem ords_end {k : Nat} {l : List Int} (hs : curOk l) (hk : 4100000 < k) : ((Fy.f k l).bind fun bt144 => ((Fs.f k bt144.1 bt144.2.1 bt144.2.2).bind fun bt149 => ((Ft.f k bt144.1 bt144.2.1 bt144.2.2).bind fun bt154 => (if (bt149.2.2 != bt154.2.2) = true then (Fd.j4 k bt144.1 bt144.2.1 bt149.1 bt149.2.1 true) else (if bt149.2.1 = bt154.2.1 then ((Fr.f k bt149.1 bt154.1).bind fun t159 => (Fd.j4 k bt144.1 bt144.2.1 bt149.1 bt149.2.1 (!t159))) else (Fd.j4 k bt144.1 bt144.2.1 bt149.1 bt149.2.1 true)))))) = some true := by
  obtain ⟨x, p1, h1, e1, hx, hc, b1, b2⟩ := ords_ex (k := k) 0 hs (by omega)
  obtain ⟨n, p2, h2, e2, b3, b4⟩ := carpetId_ex (k := k) h1 x 1 hs (by omega) (by omega) (p := p1) (by omega)
  obtain ⟨d, p3, h3, e3, b5, b6⟩ := day17_ex h2 hs (p := p2) (by omega)
  have hd : Fy.f k l = some (x, n, d) := by
    simp only [Fy.f, e1, e2, e3, Option.bind_some]
  have hz := sizes_of hx hc
  have hlen := callM_len x n d
  simp only [hd, Option.bind_some, callI_eq (k := k) (l := x) (id := n) (d := d) (by omega) hz.1, callS_eq (k := k) (l := x) (id := n) (d := d) (by omega) hz, bne_self_eq_false, Bool.false_eq_true, if_false, if_true, rOrders_refl (k := k) (l := (callM x n d).1) (by omega) (by omega), Bool.not_true]
  obtain ⟨k, rfl, hk2⟩ := succ_of hk
  simp only [Fd.j4, Bool.false_eq_true, if_false]
  obtain ⟨k', _, _, e⟩ := pass_loop (fun k i => Fd.l2 k x n (callM x n d).1 (callM x n d).2.1 i) (fun _ => some true) (callM x n d).1.length 0 (by omega)
    (fun k i _ hi => by
      simp only [Fd.l2, rdIOrder_nat]
      rw [if_pos (by omega), if_pos (by omega)]
      by_cases g : ((callM x n d).1.getD i z41).f0 = n
      · obtain ⟨q1, q2, q3, q4⟩ := call_fact hi g
        rw [if_pos g, if_pos (by omega), q2, w64 (by omega) (by omega), if_pos rfl, if_neg q3]
      · rw [if_neg g])
    (fun k => by simp only [Fd.l2]; rw [if_neg (by omega)])
    (callM x n d).1.length k 0 (by omega) (by omega)
  exact e
theorem next_end {k : Nat} {l : List Int} (hs : curOk l) (hk : 8300000 < k) : ((Fv.f k l).bind fun bt123 => ((Fae.f k bt123.1 bt123.2.1 bt123.2.2).bind fun bt128 => ((Fq.f k bt123.1 bt123.2.1 bt123.2.2).bind fun bt132 => (if (bt128.2 != bt132.2) = true then (Fd.j2 k l bt123.1 bt123.2.1 bt128.1 true) else ((Fr.f k bt128.1 bt132.1).bind fun t136 => (Fd.j2 k l bt123.1 bt123.2.1 bt128.1 (!t136))))))) = some true := by
  obtain ⟨x, p1, h1, e1, hx, hc, b1, b2⟩ := ords_ex (k := k) 0 hs (by omega)
  obtain ⟨n, p2, h2, e2, b3, b4⟩ := carpetId_ex (k := k) h1 x 3 hs (by omega) (by omega) (p := p1) (by omega)
  obtain ⟨d, p3, h3, e3, b5, b6⟩ := day17_ex h2 hs (p := p2) (by omega)
  have hd : Fv.f k l = some (x, n, d) := by
    simp only [Fv.f, e1, e2, e3, Option.bind_some]
  have hz := sizes_of hx hc
  have hlen := nextM_len x n d
  simp only [hd, Option.bind_some, nextI_eq (k := k) (l := x) (id := n) (d := d) (by omega) hz.1, nextS_eq (k := k) (l := x) (id := n) (d := d) (by omega) hz, bne_self_eq_false, Bool.false_eq_true, if_false, rOrders_refl (k := k) (l := (nextM x n d).1) (by omega) (by omega), Bool.not_true]
  obtain ⟨k, rfl, hk2⟩ := succ_of hk
  simp only [Fd.j2, Bool.false_eq_true, if_false]
  obtain ⟨k', _, hk', e⟩ := pass_loop (fun k i => Fd.l1 k l x n (nextM x n d).1 i) (fun k => (Fy.f k l).bind fun bt144 => ((Fs.f k bt144.1 bt144.2.1 bt144.2.2).bind fun bt149 => ((Ft.f k bt144.1 bt144.2.1 bt144.2.2).bind fun bt154 => (if (bt149.2.2 != bt154.2.2) = true then (Fd.j4 k bt144.1 bt144.2.1 bt149.1 bt149.2.1 true) else (if bt149.2.1 = bt154.2.1 then ((Fr.f k bt149.1 bt154.1).bind fun t159 => (Fd.j4 k bt144.1 bt144.2.1 bt149.1 bt149.2.1 (!t159))) else (Fd.j4 k bt144.1 bt144.2.1 bt149.1 bt149.2.1 true)))))) (nextM x n d).1.length 4200000 (by omega)
    (fun k i hk hi => by
      simp only [Fd.l1, rdIOrder_nat]
      rw [if_pos (by omega), if_pos (by omega)]
      by_cases g : ((nextM x n d).1.getD i z41).f0 = n
      · obtain ⟨q1, q2, q3, q4⟩ := next_fact hi g
        have hal := atM_len (nextM x n d).1 ((x.getD i z41).f4 + 1)
        rw [if_pos g, if_pos (by omega), w64 (x := (x.getD i z41).f4 + 1) (by omega) (by omega), atI_eq (by omega) (by omega)]
        simp only [Option.bind_some]
        rw [if_pos q3, rHas_eq (k := k) (by omega) (by omega) n, q4]
        simp only [Option.bind_some, if_true]
      · rw [if_neg g])
    (fun k => by simp only [Fd.l1]; rw [if_neg (by omega)])
    (nextM x n d).1.length k 0 (by omega) (by omega)
  refine Eq.trans e ?_
  exact ords_end hs (by omega)
theorem FnCarpetOrders : Fd.Pure := by
  intro l hl
  refine ⟨12600000 + 1, ?_⟩
  obtain ⟨k, hk⟩ : ∃ k, k = 12600000 + 1 := ⟨_, rfl⟩
  rw [← hk]
  simp only [Fd.f, Fbh.f, Option.bind_some]
  by_cases hbig : (l.length : Int) > 65536
  · rw [decide_eq_true hbig, if_pos rfl]
  rw [decide_eq_false hbig, if_neg (by simp)]
  have hs : curOk l := ⟨by omega, fun y hy => wf8 (hl.2 y hy)⟩
  obtain ⟨x, p1, h1, e1, hx, hc, b1, b2⟩ := ords_ex (k := k) 0 hs (by omega)
  obtain ⟨n, p2, h2, e2, b3, b4⟩ := carpetId_ex (k := k) h1 x 5 hs (by omega) (by omega) (p := p1) (by omega)
  obtain ⟨t, p3, h3, c, p4, h4, e3, c1, c2, e4, _⟩ := some_ex (b := 5) h2 [0, 1, 200, 60000, 10000000, -1, 10000001] hs (p := p2) (by omega) (by simp) (by simp)
  have hd : Fz.f k l = some (x, n, c) := by
    simp only [Fz.f, e1, e2, e3, Option.bind_some]
    rw [if_pos c1, if_pos c2, e4]; rfl
  have hz := sizes_of hx hc
  have hlen := payM_len x n c
  simp only [hd, Option.bind_some, payI_eq (k := k) (l := x) (id := n) (c := c) (by omega) hz.1, payS_eq (k := k) (l := x) (id := n) (c := c) (by omega) hz, bne_self_eq_false, Bool.false_eq_true, if_false, rOrders_refl (k := k) (l := (payM x n c).1) (by omega) (by omega), Bool.not_true]
  obtain ⟨k, rfl, hk2⟩ := succ_of (show 12600000 < k by omega)
  simp only [Fd.j0, Bool.false_eq_true, if_false]
  obtain ⟨k', _, hk', e⟩ := pass_loop (fun k i => Fd.l0 k l x n c (payM x n c).1 i) (fun k => (Fv.f k l).bind fun bt123 => ((Fae.f k bt123.1 bt123.2.1 bt123.2.2).bind fun bt128 => ((Fq.f k bt123.1 bt123.2.1 bt123.2.2).bind fun bt132 => (if (bt128.2 != bt132.2) = true then (Fd.j2 k l bt123.1 bt123.2.1 bt128.1 true) else ((Fr.f k bt128.1 bt132.1).bind fun t136 => (Fd.j2 k l bt123.1 bt123.2.1 bt128.1 (!t136))))))) (payM x n c).1.length 8400000 (by omega)
    (fun k i hk hi => by
      simp only [Fd.l0, rdIOrder_nat]
      rw [if_pos (by omega), if_pos (by omega)]
      by_cases g : ((payM x n c).1.getD i z41).f0 = n
      · obtain ⟨a, b, q1, q2, q3, q4⟩ := pay_fact hi g
        rw [if_pos g, owedI_eq (k := k) (l := x) (by omega) hz.1, owedI_eq (k := k) (l := (payM x n c).1) (by omega) (by omega), q1, q2]
        simp only [Option.bind_some, if_true]
        rw [q3, w64 (by omega) (by omega), if_pos rfl]
      · rw [if_neg g])
    (fun k => by simp only [Fd.l0]; rw [if_neg (by omega)])
    (payM x n c).1.length k 0 (by omega) (by omega)
  refine Eq.trans e ?_
  exact next_end hs (by omega)
end Go.Proofs.YtahfahlbdgbfeaaDoor.Pure

namespace Go.Proofs.Open
open Go.RowKit Go.WideShapes Go.Proofs.YtahfahlbdgbfeaaDoorW.PrintWords
set_option linter.unusedVariables false
theorem mapM_cons_some {α β : Type} {f : α → Option β} {a : α} {l : List α} {ys : List β} (h : (a :: l).mapM f = some ys) : ∃ y ys', f a = some y ∧ l.mapM f = some ys' ∧ ys = y :: ys' := by
  rw [List.mapM_cons] at h
  obtain ⟨y, hy, h⟩ := Option.bind_eq_some_iff.mp h
  obtain ⟨ys', hys, h⟩ := Option.bind_eq_some_iff.mp h
  exact ⟨y, ys', hy, hys, (Option.some.inj h).symm⟩
theorem mapM_some_get {α β : Type} {f : α → Option β} : ∀ {l : List α} {ys : List β}, l.mapM f = some ys → ys.length = l.length ∧ ∀ (i : Nat) (a : α), l[i]? = some a → ∃ y, f a = some y ∧ ys[i]? = some y
  | [], ys, h => by
    obtain rfl : ys = [] := by simpa using h
    exact ⟨rfl, fun i a h => by simp at h⟩
  | a :: l, ys, h => by
    obtain ⟨y, ys', hy, hys, rfl⟩ := mapM_cons_some h
    obtain ⟨hl, hg⟩ := mapM_some_get hys
    refine ⟨by simp [hl], fun i b hb => ?_⟩
    cases i with
    | zero => obtain rfl : a = b := by simpa using hb
              exact ⟨y, hy, rfl⟩
    | succ i => exact hg i b (by simpa using hb)
theorem cells_get {w : World} {base n : Nat} {a : Addr} {cs : List Value} (h : w.cells? base a n = some cs) : cs.length = n ∧ ∀ i u, cs[i]? = some u → w.cell? (a.add i) = some u := by
  unfold World.cells? at h
  split at h
  · obtain ⟨hl, hg⟩ := mapM_some_get h
    rw [List.length_range] at hl
    refine ⟨hl, fun i u hu => ?_⟩
    have hi : i < n := by have := (List.getElem?_eq_some_iff.1 hu).1; omega
    obtain ⟨y, hy, hy2⟩ := hg i i (by simp [List.getElem?_range hi])
    rw [hu] at hy2
    injection hy2 with hy2
    rw [hy2]; exact hy
  · cases h
theorem add_add (a : Addr) (i j : Nat) : (a.add i).add j = a.add (i + j) := by
  by_cases hi : i = 0
  · subst hi
    rw [Nat.zero_add, show a.add 0 = a by unfold Addr.add; simp]
  · by_cases hj : j = 0
    · subst hj
      rw [Nat.add_zero, show (a.add i).add 0 = a.add i by unfold Addr.add; simp]
    · unfold Addr.add
      simp [hi, hj, Nat.add_assoc]
/-- Whatever reads as a datum of type t is an x of kind d, within ok. -/
structure Opens {α : Type} (P : Program) (W : World) (t : TypeId) (d : Kd α) (ok : α → Prop) : Prop where
  get : ∀ {H : Type} (enc : TypeId × Value → H) (base : Nat) (spare : Nat → Bool) (held : Bool) (fuel : Nat) (cs : List Value) (y : DataW H × List MemPlace), DataW.trod enc P W base spare held fuel t cs = some y → ∃ x, d.K W x cs ∧ ok x
theorem Opens.int {P : Program} {W : World} {t : TypeId} {k : IntKind} (hu : P.underlying t = some (.int k)) : Opens P W t (Kd.int k) (fun x => (Lit.int k x).wf = true) := ⟨by
  intro H enc base spare held fuel cs y h
  cases fuel with
  | zero => simp [DataW.trod] at h
  | succ fuel =>
    simp only [DataW.trod, hu] at h
    split at h <;> first | (cases h; done) | skip
    all_goals rename_i heq
    all_goals first | (cases heq; done) | skip
    rename_i k0 k' n
    injection heq with heq
    injection heq with heq
    subst heq
    split at h
    · rename_i hk
      obtain ⟨rfl, hw⟩ := hk
      exact ⟨n, rfl, hw⟩
    · cases h⟩
theorem Opens.bool {P : Program} {W : World} {t : TypeId} (hu : P.underlying t = some .bool) : Opens P W t Kd.bool (fun _ => True) := ⟨by
  intro H enc base spare held fuel cs y h
  cases fuel with
  | zero => simp [DataW.trod] at h
  | succ fuel =>
    simp only [DataW.trod, hu] at h
    split at h <;> first | (cases h; done) | skip
    all_goals rename_i heq
    all_goals first | (cases heq; done) | skip
    rename_i b
    exact ⟨b, rfl, trivial⟩⟩
theorem Opens.string {P : Program} {W : World} {t : TypeId} (hu : P.underlying t = some .string) : Opens P W t Kd.string (fun s => s.size ≤ 9223372036854775807) := ⟨by
  intro H enc base spare held fuel cs y h
  cases fuel with
  | zero => simp [DataW.trod] at h
  | succ fuel =>
    simp only [DataW.trod, hu] at h
    split at h <;> first | (cases h; done) | skip
    all_goals rename_i heq
    all_goals first | (cases heq; done) | skip
    rename_i s
    split at h
    · rename_i hs
      exact ⟨s, rfl, by simpa [maxLen] using hs⟩
    · cases h⟩
theorem pick {α : Type} {n : Nat} {Q : Nat → α → Prop} (h : ∀ i, i < n → ∃ x, Q i x) : ∃ xs : List α, xs.length = n ∧ ∀ i x, xs[i]? = some x → Q i x := by
  induction n with
  | zero => exact ⟨[], rfl, fun i x h => by simp at h⟩
  | succ n ih =>
    obtain ⟨xs, hl, hq⟩ := ih (fun i hi => h i (by omega))
    obtain ⟨x, hx⟩ := h n (by omega)
    refine ⟨xs ++ [x], by simp [hl], fun i z hz => ?_⟩
    by_cases hi : i < n
    · rw [List.getElem?_append_left (by omega)] at hz
      exact hq i z hz
    · have hlt := (List.getElem?_eq_some_iff.1 hz).1
      simp [hl] at hlt
      obtain rfl : i = n := by omega
      rw [List.getElem?_append_right (by omega), hl, Nat.sub_self] at hz
      obtain rfl : x = z := by simpa using hz
      exact hx
theorem Opens.slice {α : Type} {P : Program} {W : World} {t e : TypeId} {d : Kd α} {ok : α → Prop} (hu : P.underlying t = some (.slice e)) (hc : P.cellsOf e = d.sz) (h : Opens P W e d ok) :
    Opens P W t (Kd.slice e d) (fun l => l.length ≤ 9223372036854775807 ∧ ∀ x ∈ l, ok x) := ⟨by
  intro H enc base spare held fuel cs y hd
  cases fuel with
  | zero => simp [DataW.trod] at hd
  | succ fuel =>
    simp only [DataW.trod, hu] at hd
    split at hd <;> first | (cases hd; done) | skip
    all_goals rename_i heq
    all_goals first | (cases heq; done) | skip
    · exact ⟨[], ⟨none, 0, rfl, Nat.le_refl _, rfl, by simp, fun hp => absurd hp (by simp)⟩, by simp, fun x hx => by simp at hx⟩
    · rename_i e' a len cap
      injection heq with heq
      injection heq with heq
      subst heq
      split at hd
      · rename_i hb
        obtain ⟨hb1, hb2, hb3⟩ := hb
        obtain ⟨elems, hel, _⟩ := Option.bind_eq_some_iff.mp hd
        obtain ⟨hl, hg⟩ := mapM_some_get hel
        rw [List.length_range] at hl
        have hm : len ≤ 9223372036854775807 := by have : cap ≤ 9223372036854775807 := by simpa [maxLen] using hb3
                                                  omega
        obtain ⟨xs, hxl, hxs⟩ := pick (n := len) (Q := fun i x => ∃ c, c.length = d.sz ∧ d.K W x c ∧ ok x ∧ ∀ j u, c[j]? = some u → W.cell? (a.add (i * d.sz + j)) = some u) (fun i hi => by
          obtain ⟨z, hz, _⟩ := hg i i (by simp [List.getElem?_range hi])
          obtain ⟨c, hcc, hct⟩ := Option.bind_eq_some_iff.mp hz
          obtain ⟨x, hK, hok⟩ := h.get enc base spare held fuel c z hct
          obtain ⟨hcl, hcell⟩ := cells_get hcc
          refine ⟨x, c, by rw [hcl, hc], hK, hok, fun j u hu => ?_⟩
          have := hcell j u hu
          rw [add_add, hc] at this
          exact this)
        refine ⟨xs, ⟨some a, cap, by rw [hxl], by omega, rfl, by omega, fun _ => ⟨a, rfl, fun j p hj => ?_⟩⟩, by omega, fun x hx => ?_⟩
        · obtain ⟨c, h1, h2, h3, h4⟩ := hxs j p hj
          exact ⟨c, h1, h2, h4⟩
        · obtain ⟨j, hj, rfl⟩ := List.mem_iff_getElem.mp hx
          obtain ⟨c, h1, h2, h3, h4⟩ := hxs j _ (List.getElem?_eq_getElem hj)
          exact h3
      · cases hd⟩
/-- The fields from an offset on. -/
structure OpensAt {α : Type} (P : Program) (W : World) (fs : List Field) (off : Nat) (d : Kd α) (ok : α → Prop) : Prop where
  get : ∀ {H : Type} (enc : TypeId × Value → H) (base : Nat) (spare : Nat → Bool) (held : Bool) (fuel : Nat) (cs : List Value) (ys : List (DataW H × List MemPlace)), cs.length = off + d.sz →
    (fs.mapM fun f => DataW.trod enc P W base spare held fuel f.type ((cs.drop f.offset).take (P.cellsOf f.type))) = some ys → ∃ x, d.K W x (cs.drop off) ∧ ok x
theorem OpensAt.one {α : Type} {P : Program} {W : World} {f : Field} {off : Nat} {d : Kd α} {ok : α → Prop} (ho : f.offset = off) (hc : P.cellsOf f.type = d.sz) (h : Opens P W f.type d ok) : OpensAt P W [f] off d ok := ⟨by
  intro H enc base spare held fuel cs ys hl hm
  obtain ⟨y, _, hy, _, _⟩ := mapM_cons_some hm
  rw [ho, hc, List.take_of_length_le (by rw [List.length_drop]; omega)] at hy
  exact h.get enc base spare held fuel _ y hy⟩
theorem OpensAt.cons {α β : Type} {P : Program} {W : World} {f : Field} {fs : List Field} {off : Nat} {d : Kd α} {d2 : Kd β} {ok : α → Prop} {ok2 : β → Prop} (ho : f.offset = off) (hc : P.cellsOf f.type = d.sz) (h : Opens P W f.type d ok) (h2 : OpensAt P W fs (off + d.sz) d2 ok2) :
    OpensAt P W (f :: fs) off (Kd.pair d d2) (fun x => ok x.1 ∧ ok2 x.2) := ⟨by
  intro H enc base spare held fuel cs ys hl hm
  have hl2 : cs.length = off + (d.sz + d2.sz) := hl
  obtain ⟨y, ys', hy, hys, _⟩ := mapM_cons_some hm
  rw [ho, hc] at hy
  obtain ⟨x, hK, hok⟩ := h.get enc base spare held fuel _ y hy
  obtain ⟨x2, hK2, hok2⟩ := h2.get enc base spare held fuel cs ys' (by omega) hys
  refine ⟨(x, x2), ⟨(cs.drop off).take d.sz, cs.drop (off + d.sz), ?_, hK, hK2⟩, hok, hok2⟩
  rw [← List.drop_drop, List.take_append_drop]⟩
theorem Opens.struct {α : Type} {P : Program} {W : World} {t : TypeId} {fs : Array Field} {d : Kd α} {ok : α → Prop} (hu : P.underlying t = some (.struct fs)) (hc : P.cellsOf t = d.sz) (h : OpensAt P W fs.toList 0 d ok) : Opens P W t d ok := ⟨by
  intro H enc base spare held fuel cs y hd
  cases fuel with
  | zero => simp [DataW.trod] at hd
  | succ fuel =>
    simp only [DataW.trod, hu] at hd
    split at hd
    · rename_i hl
      obtain ⟨ys, hys, _⟩ := Option.map_eq_some_iff.mp hd
      exact h.get enc base spare held fuel cs ys (by omega) hys
    · cases hd⟩
theorem Opens.iso {α β : Type} {P : Program} {W : World} {t : TypeId} {d : Kd α} {f : β → α} {ok : α → Prop} (h : Opens P W t d ok) (g : α → β) (hg : ∀ x, f (g x) = x) : Opens P W t (Kd.iso d f) (fun y => ok (f y)) := ⟨by
  intro H enc base spare held fuel cs y hd
  obtain ⟨x, hK, hok⟩ := h.get enc base spare held fuel cs y hd
  refine ⟨g x, ?_, ?_⟩
  · show d.K W (f (g x)) cs
    rw [hg]; exact hK
  · rw [hg]; exact hok⟩
theorem wf_i64 {x : Int} (h : (Lit.int .i64 x).wf = true) : -9223372036854775808 ≤ x ∧ x ≤ 9223372036854775807 := by
  have h1 := h
  simp [Lit.wf] at h1
  exact ⟨h1.1, h1.2⟩
end Go.Proofs.Open

namespace Go.Proofs.YtahfahlbdgbfeaaDoor.X
open Ho (bS eS)
open Go.RowKit Go.Proofs.YtahfahlbdgbfeaaDoorW.PrintWords Go.Proofs.YtahfahlbdgbfeaaDoorW.PrintLast Go.Proofs.YtahfahlbdgbfeaaDoorW.PrintMore
attribute [local go_sem] max2_int min2_int max_two min_two max_three min_three max_four min_four   -- for this text's walks alone
set_option linter.unusedVariables false
set_option linter.unusedSimpArgs false
def ok38 (x : S38) : Prop := (Lit.int .i64 x.f0).wf = true ∧ x.f1.size ≤ 9223372036854775807 ∧ (Lit.int .i64 x.f2).wf = true ∧ (Lit.int .i64 x.f3).wf = true ∧ (Lit.int .i64 x.f4).wf = true ∧ (Lit.int .i64 x.f5).wf = true ∧ (Lit.int .i64 x.f6).wf = true ∧ (Lit.int .i64 x.f7).wf = true
theorem opens38 (W : World) : Open.Opens Tryd.prog W 38 k38 ok38 := ⟨fun enc base spare held fuel cs y h => by
  obtain ⟨x, hK, hok⟩ := (Open.Opens.iso (f := fun x : S38 => (x.f0, x.f1, x.f2, x.f3, x.f4, x.f5, x.f6, x.f7)) (Open.Opens.struct Tryd.underlying38 (by kernel_rfl) (Open.OpensAt.cons rfl (by kernel_rfl) (Open.Opens.int Tryd.underlying3) (Open.OpensAt.cons rfl (by kernel_rfl) (Open.Opens.string Tryd.underlying9) (Open.OpensAt.cons rfl (by kernel_rfl) (Open.Opens.int Tryd.underlying3) (Open.OpensAt.cons rfl (by kernel_rfl) (Open.Opens.int Tryd.underlying3) (Open.OpensAt.cons rfl (by kernel_rfl) (Open.Opens.int Tryd.underlying3) (Open.OpensAt.cons rfl (by kernel_rfl) (Open.Opens.int Tryd.underlying3) (Open.OpensAt.cons rfl (by kernel_rfl) (Open.Opens.int Tryd.underlying3) (Open.OpensAt.one rfl (by kernel_rfl) (Open.Opens.int Tryd.underlying3)))))))))) (fun x => ⟨x.1, x.2.1, x.2.2.1, x.2.2.2.1, x.2.2.2.2.1, x.2.2.2.2.2.1, x.2.2.2.2.2.2.1, x.2.2.2.2.2.2.2⟩) (fun x => rfl)).get enc base spare held fuel cs y h
  exact ⟨x, hK, hok⟩⟩
end Go.Proofs.YtahfahlbdgbfeaaDoor.X
