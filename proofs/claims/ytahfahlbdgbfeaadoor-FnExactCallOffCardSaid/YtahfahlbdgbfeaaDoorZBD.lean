/- What laws of this seat need, part 4: what each function of the program that it reaches returns (printed by this session's own program, checked by Lean), and plain mathematics about it. Conditions: those of each theorem. -/
import Derived.Test.YtahfahlbdgbfeaaDoorZBC
-- Qwords
namespace Go.Proofs.YtahfahlbdgbfeaaDoor.Pure
open Go Go.RowKit Go.Proofs Go.Proofs.YtahfahlbdgbfeaaDoor.X Go.Proofs.YtahfahlbdgbfeaaDoorW.PrintWords Go.Proofs.YtahfahlbdgbfeaaDoorW.PrintLast
set_option linter.unusedVariables false
set_option linter.unusedSimpArgs false

def lowB (b : UInt8) : Bool := decide (97 ≤ b.toNat ∧ b.toNat ≤ 122)
/-- a word: one to ten small letters -/
def wordB (s : ByteArray) : Bool := decide (1 ≤ s.size ∧ s.size ≤ 10) && s.data.toList.all lowB
theorem bt_nat (s : ByteArray) (i : Nat) (h : i < s.size) : bt s (i : Int) = ((s.data.toList.getD i 0).toNat : Int) := by
  have h2 : i < s.data.toList.length := by simpa using h
  unfold bt
  rw [dif_pos (by simpa using h), List.getD_eq_getElem?_getD, List.getElem?_eq_getElem h2]
  rfl
theorem wordS_eq {k : Nat} {s : ByteArray} (hk : s.size < k) (hs : s.size ≤ 9223372036854775806) : spec_l2Word.f k s = some (wordB s) := by
  unfold spec_l2Word.f
  have hl : s.data.toList.length = s.size := by rw [Array.length_toList]; rfl
  have h := all_loop (fun k i => spec_l2Word.l0 k s i) lowB 0 s.data.toList (decide (1 ≤ s.size ∧ s.size ≤ 10)) (by omega)
    (fun k i h1 => by
      simp only [spec_l2Word.l0]
      rw [if_pos (by omega), if_pos (by omega), bt_nat s i (by omega)]
      unfold lowB
      by_cases g1 : ((s.data.toList.getD i 0).toNat : Int) < 97
      · rw [if_pos g1, decide_eq_false (by omega)]; simp
      · rw [if_neg g1]
        by_cases g2 : ((s.data.toList.getD i 0).toNat : Int) > 122
        · rw [if_pos g2, decide_eq_false (by omega)]; simp
        · rw [if_neg g2, decide_eq_true (by omega)]; simp)
    (fun k i h1 => by
      simp only [spec_l2Word.l0]
      rw [if_neg (by omega), l1In_eq]
      simp only [Option.bind_some]
      congr 2
      exact propext ⟨fun h => by omega, fun h => by omega⟩)
    s.data.toList.length k 0 (by omega) (by omega)
  refine h.trans ?_
  simp only [List.drop_zero, wordB, Bool.and_comm]
theorem dropWhile_nil (p : UInt8 → Bool) (l : List UInt8) : l.dropWhile p = [] ↔ l.all p = true := by
  induction l with
  | nil => simp
  | cons a l ih =>
    by_cases h : p a = true
    · rw [List.dropWhile_cons_of_pos h, ih]; simp [h]
    · rw [List.dropWhile_cons_of_neg h]; simp [h]
theorem trim_nil (p : UInt8 → Bool) (l : List UInt8) : ((l.reverse.dropWhile p).reverse.dropWhile p) = [] ↔ l.all p = true := by
  rw [dropWhile_nil, List.all_reverse]
  constructor
  · intro h
    have : (l.reverse.dropWhile p) = [] := by
      cases hd : l.reverse.dropWhile p with
      | nil => rfl
      | cons x t =>
        rw [hd] at h
        have h1 : p x = true := by simp at h; exact h.1
        have h2 := List.head?_dropWhile_not p l.reverse
        rw [hd] at h2
        simp [h1] at h2
    rw [dropWhile_nil, List.all_reverse] at this
    exact this
  · intro h
    have : (l.reverse.dropWhile p) = [] := by rw [dropWhile_nil, List.all_reverse]; exact h
    rw [this]; rfl
def abcB : ByteArray := ⟨#[97, 98, 99, 100, 101, 102, 103, 104, 105, 106, 107, 108, 109, 110, 111, 112, 113, 114, 115, 116, 117, 118, 119, 120, 121, 122]⟩
theorem abc_has (b : UInt8) : abcB.data.toList.contains b = lowB b := by
  have e : ∀ c : UInt8, (b == c) = decide (b.toNat = c.toNat) := fun c => by
    rw [Bool.eq_iff_iff]; simp [UInt8.toNat_inj]
  unfold lowB abcB
  simp only [List.contains_cons, List.contains_nil, e]
  rw [Bool.eq_iff_iff]
  simp only [Bool.or_eq_true, decide_eq_true_eq, Bool.false_eq_true, or_false, UInt8.reduceToNat]
  omega
theorem wordI_eq (s : ByteArray) : impl_isWord.f s = some (wordB s) := by
  unfold impl_isWord.f
  rw [in_eq]
  simp only [Option.bind_some, wordB]
  by_cases hs : 1 ≤ s.size ∧ s.size ≤ 10
  · rw [decide_eq_true (show 1 ≤ (s.size : Int) ∧ (s.size : Int) ≤ 10 by omega), decide_eq_true hs, if_pos rfl, Bool.true_and]
    show (strings_Trim.f s abcB).bind _ = _
    unfold strings_Trim.f
    rw [if_pos ⟨by omega, by decide, by decide⟩]
    simp only [Option.bind_some, ByteArray.toList_eq]
    congr 1
    unfold Go.Lib.trimS Go.Lib.trimLeftS Go.Lib.trimRightS
    rw [Bool.eq_iff_iff, beq_iff_eq, trim_nil, show (fun b => abcB.data.toList.contains b) = lowB from funext abc_has]
  · rw [decide_eq_false (show ¬ (1 ≤ (s.size : Int) ∧ (s.size : Int) ≤ 10) by omega), decide_eq_false hs]; simp

end Go.Proofs.YtahfahlbdgbfeaaDoor.Pure

-- Qorders
namespace Go.Proofs.YtahfahlbdgbfeaaDoor.Pure
open Go Go.RowKit Go.Proofs Go.Proofs.YtahfahlbdgbfeaaDoor.X Go.Proofs.YtahfahlbdgbfeaaDoorW.PrintWords Go.Proofs.YtahfahlbdgbfeaaDoorW.PrintLast
set_option linter.unusedVariables false
set_option linter.unusedSimpArgs false

def orderB (x : S41) : Bool := decide (1 ≤ x.f0 ∧ x.f0 ≤ 999) && (wordB x.f1 && (decide (30 ≤ x.f2 ∧ x.f2 ≤ 600) && (decide (30 ≤ x.f3 ∧ x.f3 ≤ 600) && (decide (0 ≤ x.f4 ∧ x.f4 ≤ 5) && (decide (0 ≤ x.f5 ∧ x.f5 ≤ 10000000) && (decide (0 ≤ x.f6 ∧ x.f6 ≤ x.f5) && decide (0 ≤ x.f7 ∧ x.f7 ≤ 4000)))))))
def ascO (l : List S41) (j : Nat) : Bool := decide ((l.getD (j - 1) z41).f0 < (l.getD j z41).f0)
def ordersB (l : List S41) : Bool := decide (l.length ≤ 10) && (l.all orderB && allR (ascO l) 1 (l.length - 1))
def sizesOk (l : List S41) : Prop := l.length ≤ 1048576 ∧ ∀ x ∈ l, x.f1.size ≤ 1048576
theorem oneOS_eq {k : Nat} (x : S41) (hk : x.f1.size < k) (hs : x.f1.size ≤ 1048576) : spec_l17One.f k x.f0 x.f1 x.f2 x.f3 x.f4 x.f5 x.f6 x.f7 = some (orderB x) := by
  simp only [spec_l17One.f, spec_l17Cents.f, spec_l2Day.f, l1In_eq, wordS_eq hk (by omega), Option.bind_some, orderB]
  generalize decide (1 ≤ x.f0 ∧ x.f0 ≤ 999) = p1; generalize wordB x.f1 = p2; generalize decide (30 ≤ x.f2 ∧ x.f2 ≤ 600) = p3; generalize decide (30 ≤ x.f3 ∧ x.f3 ≤ 600) = p4; generalize decide (0 ≤ x.f4 ∧ x.f4 ≤ 5) = p5; generalize decide (0 ≤ x.f5 ∧ x.f5 ≤ 10000000) = p6; generalize decide (0 ≤ x.f6 ∧ x.f6 ≤ x.f5) = p7; generalize decide (0 ≤ x.f7 ∧ x.f7 ≤ 4000) = p8
  cases p1 <;> cases p2 <;> cases p3 <;> cases p4 <;> cases p5 <;> cases p6 <;> cases p7 <;> rfl
theorem oneOI_eq {k : Nat} (x : S41) (hk : 0 < k) : impl_IsCarpetOrder.f k x.f0 x.f1 x.f2 x.f3 x.f4 x.f5 x.f6 x.f7 = some (orderB x) := by
  obtain ⟨k, rfl, _⟩ := succ_of hk
  simp only [impl_IsCarpetOrder.f, impl_IsCarpetOrder.j0, impl_isNumber.f, impl_isWide.f, impl_isStage.f, impl_isPrice.f, impl_isDay.f, in_eq, wordI_eq, Option.bind_some, orderB]
  generalize decide (1 ≤ x.f0 ∧ x.f0 ≤ 999) = p1; generalize wordB x.f1 = p2; generalize decide (30 ≤ x.f2 ∧ x.f2 ≤ 600) = p3; generalize decide (30 ≤ x.f3 ∧ x.f3 ≤ 600) = p4; generalize decide (0 ≤ x.f4 ∧ x.f4 ≤ 5) = p5; generalize decide (0 ≤ x.f5 ∧ x.f5 ≤ 10000000) = p6; generalize decide (0 ≤ x.f6 ∧ x.f6 ≤ x.f5) = p7; generalize decide (0 ≤ x.f7 ∧ x.f7 ≤ 4000) = p8
  cases p1 <;> cases p2 <;> cases p3 <;> cases p4 <;> cases p5 <;> cases p6 <;> cases p7 <;> rfl
theorem ordersS_eq {k : Nat} {l : List S41} (hk : l.length + 1048577 < k) (hs : sizesOk l) : spec_l17Good.f k l = some (ordersB l) := by
  unfold spec_l17Good.f
  have hx := idx_loop2 (fun k i => spec_l17Good.l0 k l i) (fun j => orderB (l.getD j z41) && (decide (j = 0) || ascO l j)) 0 l.length 1048577 (decide (l.length ≤ 10)) (by have := hs.1; omega)
    (fun k i _ h1 h2 => by
      have hm : l.getD i z41 ∈ l := by rw [List.getD_eq_getElem?_getD, List.getElem?_eq_getElem h1]; exact List.getElem_mem h1
      have hsz := hs.2 _ hm
      have hlen := hs.1
      simp only [spec_l17Good.l0, rdIOrder_nat]
      rw [if_pos (by omega), if_pos (by omega), oneOS_eq _ (by omega) hsz]
      simp only [Option.bind_some]
      cases orderB (l.getD i z41)
      · simp
      · by_cases hi : i = 0
        · rw [if_pos rfl, if_neg (by omega), decide_eq_true hi]; simp
        · rw [if_pos rfl, if_pos (by omega), w64 (x := (i : Int) - 1) (by omega) (by omega), if_pos (by omega), if_pos (by omega), show (i : Int) - 1 = ((i - 1 : Nat) : Int) by omega, rdIOrder_nat, decide_eq_false hi]
          unfold ascO
          by_cases g : (l.getD (i - 1) z41).f0 ≥ (l.getD i z41).f0
          · rw [if_pos g, decide_eq_false (by omega)]; simp
          · rw [if_neg g, decide_eq_true (by omega)]; simp)
    (fun hq k hk => by
      simp only [spec_l17Good.l0]
      rw [if_neg (by omega)]
      congr 2
      exact propext ⟨fun h => by omega, fun h => by omega⟩)
    l.length k 0 (by omega) (by omega) (by omega) (fun j h1 h2 => by omega)
  refine hx.trans (congrArg some ?_)
  unfold ordersB
  rw [Bool.and_comm]
  congr 1
  rw [Bool.eq_iff_iff, Bool.and_eq_true, allR_iff, allR_iff, all_getD z41]
  constructor
  · intro h
    refine ⟨fun j hj => ?_, fun j h1 h2 => ?_⟩
    · have := h j (by omega) (by omega)
      rw [Bool.and_eq_true] at this; exact this.1
    · have := h j (by omega) (by omega)
      rw [Bool.and_eq_true, decide_eq_false (show ¬ j = 0 by omega), Bool.false_or] at this; exact this.2
  · intro h j h1 h2
    rw [Bool.and_eq_true]
    refine ⟨h.1 j (by omega), ?_⟩
    by_cases hj : j = 0
    · rw [decide_eq_true hj]; rfl
    · rw [h.2 j (by omega) (by omega), Bool.or_true]
theorem ordersI_eq {k : Nat} {l : List S41} (hk : l.length + 1 < k) (hs : l.length ≤ 1048576) : impl_AreCarpetOrders.f k l = some (ordersB l) := by
  unfold impl_AreCarpetOrders.f ordersB
  by_cases h10 : (l.length : Int) ≤ 10
  · rw [if_pos h10, decide_eq_true (show l.length ≤ 10 by omega), Bool.true_and]
    simp only [impl_CarpetOrder__impl_IsCarpetOrder.f]
    rw [Ho.allO_eq (q := orderB) (fun x _ => oneOI_eq x (by omega))]
    simp only [Option.bind_some]
    have hasc : impl_CarpetOrder__impl_AreCarpetOrders_1.f k l = some (allR (ascO l) 1 (l.length - 1)) := by
      unfold impl_CarpetOrder__impl_AreCarpetOrders_1.f
      by_cases h0 : l.length = 0
      · obtain ⟨k, rfl, _⟩ := succ_of (show 0 < k by omega)
        simp only [impl_CarpetOrder__impl_AreCarpetOrders_1.l0]
        rw [if_neg (by omega), h0]; rfl
      have h := idx_loop (fun k i => impl_CarpetOrder__impl_AreCarpetOrders_1.l0 k l i) (ascO l) 1 l.length true (by omega)
        (fun k i h1 h2 => by
          simp only [impl_CarpetOrder__impl_AreCarpetOrders_1.l0, impl_AreCarpetOrders_1.f, Option.bind_some]
          rw [if_pos (by omega), w64 (x := (i : Int) - 1) (by omega) (by omega), if_pos (by omega), if_pos (by omega), if_pos (by omega), show (i : Int) - 1 = ((i - 1 : Nat) : Int) by omega, rdIOrder_nat, rdIOrder_nat]
          unfold ascO
          by_cases g : (l.getD (i - 1) z41).f0 ≥ (l.getD i z41).f0
          · rw [if_pos g, decide_eq_false (by omega)]; simp
          · rw [if_neg g, decide_eq_true (by omega)]; simp)
        (fun k i h1 => by simp only [impl_CarpetOrder__impl_AreCarpetOrders_1.l0]; rw [if_neg (by omega)])
        (l.length - 1) k 1 (by omega) (by omega) (by omega)
      simpa using h
    rw [hasc]
    simp only [Option.bind_some]
    cases l.all orderB <;> simp
  · rw [if_neg h10, decide_eq_false (show ¬ l.length ≤ 10 by omega)]; simp

end Go.Proofs.YtahfahlbdgbfeaaDoor.Pure

-- XimplAreaOnOrderF33
namespace Go.Proofs.YtahfahlbdgbfeaaDoor.X
open Ho (bS eS)
open Go.RowKit Go.Proofs.YtahfahlbdgbfeaaDoorW.PrintWords Go.Proofs.YtahfahlbdgbfeaaDoorW.PrintLast Go.Proofs.YtahfahlbdgbfeaaDoorW.PrintMore
attribute [local go_sem] max2_int min2_int max_two min_two max_three min_three max_four min_four   -- for this text's walks alone
set_option linter.unusedVariables false
set_option linter.unusedSimpArgs false

attribute [local go_sem ↓] Ho.isSome_setCell_   -- a store leaves all places there
/-! ### impl_AreaOnOrder: function 33 -/
def impl_AreaOnOrder.l0 : Nat → Int → List (S41) → Int → Int → Option (Int × Bool)
  | 0, _, _, _, _ => none
  | k + 1, x4, x10, x11, x12 => if x12 < x11 then (if 0 ≤ x12 then (if x12 < (x10.length : Int) then (if ((rd_T41 x10 x12).f4) = 1 then (impl_AreaOnOrder.l0 k (wrap64 (x4 + (wrap64 (((rd_T41 x10 x12).f2) * ((rd_T41 x10 x12).f3))))) x10 x11 (wrap64 (x12 + 1))) else (if ((rd_T41 x10 x12).f4) = 2 then (impl_AreaOnOrder.l0 k (wrap64 (x4 + (wrap64 (((rd_T41 x10 x12).f2) * ((rd_T41 x10 x12).f3))))) x10 x11 (wrap64 (x12 + 1))) else (impl_AreaOnOrder.l0 k x4 x10 x11 (wrap64 (x12 + 1))))) else (none)) else (none)) else (some (x4, true))
def impl_AreaOnOrder.f (k : Nat) (l0 : List (S41)) : Option (Int × Bool) := (impl_AreCarpetOrders.f k l0).bind fun t101 => (if t101 = true then (impl_AreaOnOrder.l0 k 0 l0 (l0.length : Int) 0) else (some (0, false)))
theorem impl_AreaOnOrder.mono_l : ∀ k, (∀ y0 y1 y2 y3, LeO (impl_AreaOnOrder.l0 k y0 y1 y2 y3) (impl_AreaOnOrder.l0 (k + 1) y0 y1 y2 y3))
  | 0 => fun _ _ _ _ r h => by simp [impl_AreaOnOrder.l0] at h
  | k + 1 => by
    have ih0 := impl_AreaOnOrder.mono_l k
    · intro y0 y1 y2 y3
      unfold impl_AreaOnOrder.l0
      repeat' first
      | (with_reducible exact ih0 _ _ _ _)
      | (with_reducible exact impl_AreCarpetOrders.mono _ _)
      | (with_reducible exact LeO.refl _)
      | (with_reducible exact LeO.none _)
      | (with_reducible refine LeO.ite ?_ ?_)
      | (with_reducible refine LeO.bind ?_ (fun _ => ?_))
      | exact ih0 _ _ _ _
      | exact impl_AreCarpetOrders.mono _ _
      | exact LeO.none _
      | refine LeO.ite ?_ ?_
      | refine LeO.bind ?_ (fun _ => ?_)
theorem impl_AreaOnOrder.mono : ∀ a0 k, LeO (impl_AreaOnOrder.f k a0) (impl_AreaOnOrder.f (k + 1) a0) := by
  intro a0 k
  have ih0 := impl_AreaOnOrder.mono_l k
  unfold impl_AreaOnOrder.f
  repeat' first
      | (with_reducible exact ih0 _ _ _ _)
      | (with_reducible exact impl_AreCarpetOrders.mono _ _)
      | (with_reducible exact LeO.refl _)
      | (with_reducible exact LeO.none _)
      | (with_reducible refine LeO.ite ?_ ?_)
      | (with_reducible refine LeO.bind ?_ (fun _ => ?_))
      | exact ih0 _ _ _ _
      | exact impl_AreCarpetOrders.mono _ _
      | exact LeO.none _
      | refine LeO.ite ?_ ?_
      | refine LeO.bind ?_ (fun _ => ?_)
set_option maxHeartbeats 8000000 in
set_option maxRecDepth 100000 in
theorem impl_AreaOnOrder.calls (k : Nat) (A0 : Option Addr) (c0 : Nat) (l0 : List (S41)) (r1 : Int) (r2 : Bool) (w : World) (hr0 : Kd.C k41 w A0 l0.length l0) (hc0 : l0.length ≤ c0) (h : impl_AreaOnOrder.f k l0 = some (r1, r2)) :
    Calls Tryd.prog 33 #[.slice A0 l0.length c0] w fun e w' => e = .returned (.tuple #[.int .i64 r1, .bool r2]) ∧ Below w.heap.size w w' := by
  have hu41 := Tryd.underlying41
  have HR0 := Aside0.mk hr0
  have HC0 := Aside0.mk hc0
  clear hr0 hc0
  have HB := Aside0.mk (Below.refl w.heap.size w)
  have H : ((impl_AreCarpetOrders.f k l0).bind fun t101 => (if t101 = true then (impl_AreaOnOrder.l0 k 0 l0 (l0.length : Int) 0) else (some (0, false)))) = some (r1, r2) := h
  clear h
  replace H := Option.bind_eq_some_iff.mp H
  obtain ⟨t101, A20, H⟩ := H
  replace H : (if t101 = true then (impl_AreaOnOrder.l0 k 0 l0 (l0.length : Int) 0) else (some (0, false))) = some (r1, r2) := H
  have A2 := Aside0.mk A20
  clear A20
  by_cases c3 : t101 = true
  · subst c3
    have H1 : (impl_AreaOnOrder.l0 k 0 l0 (l0.length : Int) 0) = some (r1, r2) := by rw [if_pos rfl] at H; exact H
    clear H
    have H := H1
    clear H1
    have H' := Aside0.mk H
    clear H
    go_enter Tryd.func33, Tryd.ntmps33
    go_wp2_with (first | ((with_reducible refine gate_callee (f := 31) rfl ?_); refine goesL_ (some 8) rfl rfl Tryd.func31 (by kernel_rfl) rfl #[.slice A0 l0.length c0] rfl (by (try simp only [List.map_toArray, List.map_cons, List.map_nil]); first | done | rfl | (simp only [List.length_drop, List.length_take]; rfl)) ?_; (with_reducible refine (impl_AreCarpetOrders.calls k _ _ l0 true _ ?side1 ?side2 A2.out).mono ?_); (case side1 => repeat (first | exact HR0.out | (with_reducible refine Kd.C_alloc ?_ _) | (with_reducible refine Kd.C_drewN ?_ _) | (with_reducible refine Kd.C_drew ?_))); (case side2 => exact HC0.out); rintro e w4 ⟨rfl, hb⟩; refine ⟨_, rfl, ?_⟩; have n0_ := Aside0.mk (below_step (by exact eS HB.out) hb); clear HB; have HB := n0_; clear n0_; (try clear hb); (try clear hb2); (try clear hk); (try clear hi)))
    go_loopg [4, 12] k (fun kq v4 v12 w' => ∃ (x4_1 : Int) (x12_1 : Int), v4 = .int .i64 x4_1 ∧ v12 = .int .i64 x12_1 ∧ Aside0 (impl_AreaOnOrder.l0 kq x4_1 l0 (l0.length : Int) x12_1 = some (r1, r2)) ∧ Aside0 (kq ≤ k) ∧ Aside0 (Below w.heap.size w w'))
    case atStart => exact ⟨(0), (0), (by first | rfl | (simp; done) | (simp [*]; done)), (by first | rfl | (simp; done) | (simp [*]; done)), H', ⟨Nat.le_refl _⟩, ⟨by exact eS HB.out⟩⟩
    case round =>
      clear H'
      try clear p2
      try clear c3
      obtain ⟨x4_1, x12_1, rfl, rfl, HA, HK1, HB⟩ := hrel
      cases gk with
      | zero => exact absurd HA.out (by simp [impl_AreaOnOrder.l0])
      | succ k1 =>
        have H := HA.out
        clear HA
        simp only [impl_AreaOnOrder.l0] at H
        by_cases c5 : x12_1 < (l0.length : Int)
        · rw [if_pos c5] at H
          have c5b0 : decide (x12_1 < (l0.length : Int)) = true := decide_eq_true c5
          clear c5
          by_cases c6 : 0 ≤ x12_1
          · rw [if_pos c6] at H
            have c6b0 : decide (0 ≤ x12_1) = true := decide_eq_true c6
            clear c6
            by_cases c7 : x12_1 < (l0.length : Int)
            · rw [if_pos c7] at H
              have c7b0 : decide (x12_1 < (l0.length : Int)) = true := decide_eq_true c7
              clear c7
              by_cases c8 : ((rd_T41 l0 x12_1).f4) = 1
              · rw [if_pos c8] at H
                have c8b0 : (((rd_T41 l0 x12_1).f4) == 1) = true := beq_iff_eq.mpr c8
                have c8b1 : (((rd_T41 l0 x12_1).f4) != 1) = false := bne_eq_false_iff_eq.mpr c8
                clear c8
                have H' := Aside0.mk H
                clear H
                have p102 : 0 ≤ (x12_1 : Int) := of_decide_eq_true (by first | (with_reducible assumption) | assumption)
                have q102 : x12_1 < (l0.length : Int) := of_decide_eq_true (by first | (with_reducible assumption) | assumption)
                obtain ⟨ad102, e102, hx102_0, hx102_1, hx102_2, hx102_3, hx102_4, hx102_5, hx102_6, hx102_7⟩ := at_T41 HR0.out x12_1 p102 q102
                cases e102
                replace hx102_0 := (HB.out.cell (World.block_lt_of_cell? w _ hx102_0)).trans hx102_0
                replace hx102_1 := (HB.out.cell (World.block_lt_of_cell? w _ hx102_1)).trans hx102_1
                replace hx102_2 := (HB.out.cell (World.block_lt_of_cell? w _ hx102_2)).trans hx102_2
                replace hx102_3 := (HB.out.cell (World.block_lt_of_cell? w _ hx102_3)).trans hx102_3
                replace hx102_4 := (HB.out.cell (World.block_lt_of_cell? w _ hx102_4)).trans hx102_4
                replace hx102_5 := (HB.out.cell (World.block_lt_of_cell? w _ hx102_5)).trans hx102_5
                replace hx102_6 := (HB.out.cell (World.block_lt_of_cell? w _ hx102_6)).trans hx102_6
                replace hx102_7 := (HB.out.cell (World.block_lt_of_cell? w _ hx102_7)).trans hx102_7
                replace p102 := eq_true p102
                replace q102 := eq_true q102
                go_wp2_with (first | ((with_reducible refine gate_dst (N := 6) rfl ?_); refine box_event ?hg (N := 6) ?hd (cs := #[.int .i64 0, .string (⟨#[]⟩ : ByteArray), .int .i64 0, .int .i64 0, .int .i64 0, .int .i64 0, .int .i64 0, .int .i64 0]) (t := 41) ?hr ?_; (case hd => rfl); (case hg => rfl); (case hr => first | (go_simp; done) | (go_simp; rfl)); intro gb103 hg w9 hbox hb; have n0_ := Aside0.mk (below_step (by exact eS HB.out) hb); have n1_ := Aside0.mk (hbox); have n2_ := Aside0.mk ((by rw [hg]; exact (below_size (by exact eS HB.out)) : w.heap.size ≤ gb103)); have n3_ := Aside0.mk ((by rw [hg]; exact (below_size (by exact eS HB.out)) : w.heap.size ≤ gb103)); clear HB; have HB := n0_; have BK103 := n1_; have GW103 := n2_; have GE103 := n3_; clear n0_ n1_ n2_ n3_; clear hb hbox hg; have hcz10_0 : w9.cell? ⟨gb103, 0, none⟩ = some (.int .i64 0) := (blk_cell BK103.out 0).trans rfl; have hcz10_1 : w9.cell? ⟨gb103, 1, none⟩ = some (.string (⟨#[]⟩ : ByteArray)) := (blk_cell BK103.out 1).trans rfl; have hcz10_2 : w9.cell? ⟨gb103, 2, none⟩ = some (.int .i64 0) := (blk_cell BK103.out 2).trans rfl; have hcz10_3 : w9.cell? ⟨gb103, 3, none⟩ = some (.int .i64 0) := (blk_cell BK103.out 3).trans rfl; have hcz10_4 : w9.cell? ⟨gb103, 4, none⟩ = some (.int .i64 0) := (blk_cell BK103.out 4).trans rfl; have hcz10_5 : w9.cell? ⟨gb103, 5, none⟩ = some (.int .i64 0) := (blk_cell BK103.out 5).trans rfl; have hcz10_6 : w9.cell? ⟨gb103, 6, none⟩ = some (.int .i64 0) := (blk_cell BK103.out 6).trans rfl; have hcz10_7 : w9.cell? ⟨gb103, 7, none⟩ = some (.int .i64 0) := (blk_cell BK103.out 7).trans rfl; have hfz10_0 := blk_frozen BK103.out 0; have hfz10_1 := blk_frozen BK103.out 1; have hfz10_2 := blk_frozen BK103.out 2; have hfz10_3 := blk_frozen BK103.out 3; have hfz10_4 := blk_frozen BK103.out 4; have hfz10_5 := blk_frozen BK103.out 5; have hfz10_6 := blk_frozen BK103.out 6; have hfz10_7 := blk_frozen BK103.out 7))
                go_roundg k1
                case measure => have := HK1.out; omega
                case rel => exact ⟨(wrap64 (x4_1 + (wrap64 (((rd_T41 l0 x12_1).f2) * ((rd_T41 l0 x12_1).f3))))), (wrap64 (x12_1 + 1)), (by first | rfl | (simp; done) | (simp [*]; done)), (by first | rfl | (simp; done) | (simp [*]; done)), H', ⟨by have := HK1.out; omega⟩, ⟨by repeat (first | (with_reducible first | exact HB.out | apply below_alloc | apply pw_below_drewN | apply below_drew1 | refine below_set ?_ GE103.out) | exact HB.out)⟩⟩
              · rw [if_neg c8] at H
                have c8b0 : (((rd_T41 l0 x12_1).f4) == 1) = false := beq_eq_false_iff_ne.mpr c8
                have c8b1 : (((rd_T41 l0 x12_1).f4) != 1) = true := bne_iff_ne.mpr c8
                by_cases c11 : ((rd_T41 l0 x12_1).f4) = 2
                · rw [if_pos c11] at H
                  have c11b0 : (((rd_T41 l0 x12_1).f4) == 2) = true := beq_iff_eq.mpr c11
                  have c11b1 : (((rd_T41 l0 x12_1).f4) != 2) = false := bne_eq_false_iff_eq.mpr c11
                  clear c11
                  have H' := Aside0.mk H
                  clear H
                  have p102 : 0 ≤ (x12_1 : Int) := of_decide_eq_true (by first | (with_reducible assumption) | assumption)
                  have q102 : x12_1 < (l0.length : Int) := of_decide_eq_true (by first | (with_reducible assumption) | assumption)
                  obtain ⟨ad102, e102, hx102_0, hx102_1, hx102_2, hx102_3, hx102_4, hx102_5, hx102_6, hx102_7⟩ := at_T41 HR0.out x12_1 p102 q102
                  cases e102
                  replace hx102_0 := (HB.out.cell (World.block_lt_of_cell? w _ hx102_0)).trans hx102_0
                  replace hx102_1 := (HB.out.cell (World.block_lt_of_cell? w _ hx102_1)).trans hx102_1
                  replace hx102_2 := (HB.out.cell (World.block_lt_of_cell? w _ hx102_2)).trans hx102_2
                  replace hx102_3 := (HB.out.cell (World.block_lt_of_cell? w _ hx102_3)).trans hx102_3
                  replace hx102_4 := (HB.out.cell (World.block_lt_of_cell? w _ hx102_4)).trans hx102_4
                  replace hx102_5 := (HB.out.cell (World.block_lt_of_cell? w _ hx102_5)).trans hx102_5
                  replace hx102_6 := (HB.out.cell (World.block_lt_of_cell? w _ hx102_6)).trans hx102_6
                  replace hx102_7 := (HB.out.cell (World.block_lt_of_cell? w _ hx102_7)).trans hx102_7
                  replace p102 := eq_true p102
                  replace q102 := eq_true q102
                  go_wp2_with (first | ((with_reducible refine gate_dst (N := 6) rfl ?_); refine box_event ?hg (N := 6) ?hd (cs := #[.int .i64 0, .string (⟨#[]⟩ : ByteArray), .int .i64 0, .int .i64 0, .int .i64 0, .int .i64 0, .int .i64 0, .int .i64 0]) (t := 41) ?hr ?_; (case hd => rfl); (case hg => rfl); (case hr => first | (go_simp; done) | (go_simp; rfl)); intro gb103 hg w12 hbox hb; have n0_ := Aside0.mk (below_step (by exact eS HB.out) hb); have n1_ := Aside0.mk (hbox); have n2_ := Aside0.mk ((by rw [hg]; exact (below_size (by exact eS HB.out)) : w.heap.size ≤ gb103)); have n3_ := Aside0.mk ((by rw [hg]; exact (below_size (by exact eS HB.out)) : w.heap.size ≤ gb103)); clear HB; have HB := n0_; have BK103 := n1_; have GW103 := n2_; have GE103 := n3_; clear n0_ n1_ n2_ n3_; clear hb hbox hg; have hcz13_0 : w12.cell? ⟨gb103, 0, none⟩ = some (.int .i64 0) := (blk_cell BK103.out 0).trans rfl; have hcz13_1 : w12.cell? ⟨gb103, 1, none⟩ = some (.string (⟨#[]⟩ : ByteArray)) := (blk_cell BK103.out 1).trans rfl; have hcz13_2 : w12.cell? ⟨gb103, 2, none⟩ = some (.int .i64 0) := (blk_cell BK103.out 2).trans rfl; have hcz13_3 : w12.cell? ⟨gb103, 3, none⟩ = some (.int .i64 0) := (blk_cell BK103.out 3).trans rfl; have hcz13_4 : w12.cell? ⟨gb103, 4, none⟩ = some (.int .i64 0) := (blk_cell BK103.out 4).trans rfl; have hcz13_5 : w12.cell? ⟨gb103, 5, none⟩ = some (.int .i64 0) := (blk_cell BK103.out 5).trans rfl; have hcz13_6 : w12.cell? ⟨gb103, 6, none⟩ = some (.int .i64 0) := (blk_cell BK103.out 6).trans rfl; have hcz13_7 : w12.cell? ⟨gb103, 7, none⟩ = some (.int .i64 0) := (blk_cell BK103.out 7).trans rfl; have hfz13_0 := blk_frozen BK103.out 0; have hfz13_1 := blk_frozen BK103.out 1; have hfz13_2 := blk_frozen BK103.out 2; have hfz13_3 := blk_frozen BK103.out 3; have hfz13_4 := blk_frozen BK103.out 4; have hfz13_5 := blk_frozen BK103.out 5; have hfz13_6 := blk_frozen BK103.out 6; have hfz13_7 := blk_frozen BK103.out 7))
                  go_roundg k1
                  case measure => have := HK1.out; omega
                  case rel => exact ⟨(wrap64 (x4_1 + (wrap64 (((rd_T41 l0 x12_1).f2) * ((rd_T41 l0 x12_1).f3))))), (wrap64 (x12_1 + 1)), (by first | rfl | (simp; done) | (simp [*]; done)), (by first | rfl | (simp; done) | (simp [*]; done)), H', ⟨by have := HK1.out; omega⟩, ⟨by repeat (first | (with_reducible first | exact HB.out | apply below_alloc | apply pw_below_drewN | apply below_drew1 | refine below_set ?_ GE103.out) | exact HB.out)⟩⟩
                · rw [if_neg c11] at H
                  have c11b0 : (((rd_T41 l0 x12_1).f4) == 2) = false := beq_eq_false_iff_ne.mpr c11
                  have c11b1 : (((rd_T41 l0 x12_1).f4) != 2) = true := bne_iff_ne.mpr c11
                  have H' := Aside0.mk H
                  clear H
                  have p102 : 0 ≤ (x12_1 : Int) := of_decide_eq_true (by first | (with_reducible assumption) | assumption)
                  have q102 : x12_1 < (l0.length : Int) := of_decide_eq_true (by first | (with_reducible assumption) | assumption)
                  obtain ⟨ad102, e102, hx102_0, hx102_1, hx102_2, hx102_3, hx102_4, hx102_5, hx102_6, hx102_7⟩ := at_T41 HR0.out x12_1 p102 q102
                  cases e102
                  replace hx102_0 := (HB.out.cell (World.block_lt_of_cell? w _ hx102_0)).trans hx102_0
                  replace hx102_1 := (HB.out.cell (World.block_lt_of_cell? w _ hx102_1)).trans hx102_1
                  replace hx102_2 := (HB.out.cell (World.block_lt_of_cell? w _ hx102_2)).trans hx102_2
                  replace hx102_3 := (HB.out.cell (World.block_lt_of_cell? w _ hx102_3)).trans hx102_3
                  replace hx102_4 := (HB.out.cell (World.block_lt_of_cell? w _ hx102_4)).trans hx102_4
                  replace hx102_5 := (HB.out.cell (World.block_lt_of_cell? w _ hx102_5)).trans hx102_5
                  replace hx102_6 := (HB.out.cell (World.block_lt_of_cell? w _ hx102_6)).trans hx102_6
                  replace hx102_7 := (HB.out.cell (World.block_lt_of_cell? w _ hx102_7)).trans hx102_7
                  replace p102 := eq_true p102
                  replace q102 := eq_true q102
                  go_wp2_with (first | ((with_reducible refine gate_dst (N := 6) rfl ?_); refine box_event ?hg (N := 6) ?hd (cs := #[.int .i64 0, .string (⟨#[]⟩ : ByteArray), .int .i64 0, .int .i64 0, .int .i64 0, .int .i64 0, .int .i64 0, .int .i64 0]) (t := 41) ?hr ?_; (case hd => rfl); (case hg => rfl); (case hr => first | (go_simp; done) | (go_simp; rfl)); intro gb103 hg w14 hbox hb; have n0_ := Aside0.mk (below_step (by exact eS HB.out) hb); have n1_ := Aside0.mk (hbox); have n2_ := Aside0.mk ((by rw [hg]; exact (below_size (by exact eS HB.out)) : w.heap.size ≤ gb103)); have n3_ := Aside0.mk ((by rw [hg]; exact (below_size (by exact eS HB.out)) : w.heap.size ≤ gb103)); clear HB; have HB := n0_; have BK103 := n1_; have GW103 := n2_; have GE103 := n3_; clear n0_ n1_ n2_ n3_; clear hb hbox hg; have hcz15_0 : w14.cell? ⟨gb103, 0, none⟩ = some (.int .i64 0) := (blk_cell BK103.out 0).trans rfl; have hcz15_1 : w14.cell? ⟨gb103, 1, none⟩ = some (.string (⟨#[]⟩ : ByteArray)) := (blk_cell BK103.out 1).trans rfl; have hcz15_2 : w14.cell? ⟨gb103, 2, none⟩ = some (.int .i64 0) := (blk_cell BK103.out 2).trans rfl; have hcz15_3 : w14.cell? ⟨gb103, 3, none⟩ = some (.int .i64 0) := (blk_cell BK103.out 3).trans rfl; have hcz15_4 : w14.cell? ⟨gb103, 4, none⟩ = some (.int .i64 0) := (blk_cell BK103.out 4).trans rfl; have hcz15_5 : w14.cell? ⟨gb103, 5, none⟩ = some (.int .i64 0) := (blk_cell BK103.out 5).trans rfl; have hcz15_6 : w14.cell? ⟨gb103, 6, none⟩ = some (.int .i64 0) := (blk_cell BK103.out 6).trans rfl; have hcz15_7 : w14.cell? ⟨gb103, 7, none⟩ = some (.int .i64 0) := (blk_cell BK103.out 7).trans rfl; have hfz15_0 := blk_frozen BK103.out 0; have hfz15_1 := blk_frozen BK103.out 1; have hfz15_2 := blk_frozen BK103.out 2; have hfz15_3 := blk_frozen BK103.out 3; have hfz15_4 := blk_frozen BK103.out 4; have hfz15_5 := blk_frozen BK103.out 5; have hfz15_6 := blk_frozen BK103.out 6; have hfz15_7 := blk_frozen BK103.out 7))
                  go_roundg k1
                  case measure => have := HK1.out; omega
                  case rel => exact ⟨(x4_1), (wrap64 (x12_1 + 1)), (by first | rfl | (simp; done) | (simp [*]; done)), (by first | rfl | (simp; done) | (simp [*]; done)), H', ⟨by have := HK1.out; omega⟩, ⟨by repeat (first | (with_reducible first | exact HB.out | apply below_alloc | apply pw_below_drewN | apply below_drew1 | refine below_set ?_ GE103.out) | exact HB.out)⟩⟩
            · rw [if_neg c7] at H
              exact absurd H (by simp)
          · rw [if_neg c6] at H
            exact absurd H (by simp)
        · rw [if_neg c5] at H
          have c5b0 : decide (x12_1 < (l0.length : Int)) = false := decide_eq_false c5
          clear c5
          simp only [Option.some.injEq, Prod.mk.injEq] at H
          obtain ⟨rfl, rfl⟩ := H
          go_wp2
          go_ret2
          exact ⟨by first | rfl | (simp [errW_none, errW_some] <;> rfl) | (simp [*, errW_none, errW_some] <;> rfl), by exact eS HB.out⟩
  · replace c3 := Bool.eq_false_iff.mpr c3
    subst c3
    have H1 : (some (0, false)) = some (r1, r2) := by rw [if_neg (show ¬ (false = true) by decide)] at H; exact H
    clear H
    have H := H1
    clear H1
    simp only [Option.some.injEq, Prod.mk.injEq] at H
    obtain ⟨rfl, rfl⟩ := H
    go_enter Tryd.func33, Tryd.ntmps33
    go_wp2_with (first | ((with_reducible refine gate_callee (f := 31) rfl ?_); refine goesL_ (some 8) rfl rfl Tryd.func31 (by kernel_rfl) rfl #[.slice A0 l0.length c0] rfl (by (try simp only [List.map_toArray, List.map_cons, List.map_nil]); first | done | rfl | (simp only [List.length_drop, List.length_take]; rfl)) ?_; (with_reducible refine (impl_AreCarpetOrders.calls k _ _ l0 false _ ?side1 ?side2 A2.out).mono ?_); (case side1 => repeat (first | exact HR0.out | (with_reducible refine Kd.C_alloc ?_ _) | (with_reducible refine Kd.C_drewN ?_ _) | (with_reducible refine Kd.C_drew ?_))); (case side2 => exact HC0.out); rintro e w16 ⟨rfl, hb⟩; refine ⟨_, rfl, ?_⟩; have n0_ := Aside0.mk (below_step (by exact eS HB.out) hb); clear HB; have HB := n0_; clear n0_; (try clear hb); (try clear hb2); (try clear hk); (try clear hi)))
    go_ret2
    exact ⟨by first | rfl | (simp [errW_none, errW_some] <;> rfl) | (simp [*, errW_none, errW_some] <;> rfl), by exact eS HB.out⟩

end Go.Proofs.YtahfahlbdgbfeaaDoor.X

-- XspecAreaOnOrderF32
namespace Go.Proofs.YtahfahlbdgbfeaaDoor.X
open Ho (bS eS)
open Go.RowKit Go.Proofs.YtahfahlbdgbfeaaDoorW.PrintWords Go.Proofs.YtahfahlbdgbfeaaDoorW.PrintLast Go.Proofs.YtahfahlbdgbfeaaDoorW.PrintMore
attribute [local go_sem] max2_int min2_int max_two min_two max_three min_three max_four min_four   -- for this text's walks alone
set_option linter.unusedVariables false
set_option linter.unusedSimpArgs false

attribute [local go_sem ↓] Ho.isSome_setCell_   -- a store leaves all places there
/-! ### spec_AreaOnOrder: function 32 -/
def spec_AreaOnOrder.l0 : Nat → List (S41) → Int → Int → Option (Int × Bool)
  | 0, _, _, _ => none
  | k + 1, x0, x4, x5 => if x5 < (x0.length : Int) then (if 0 ≤ x5 then (if ((rd_T41 x0 x5).f4) = 1 then (spec_AreaOnOrder.l0 k x0 (wrap64 (x4 + (wrap64 (((rd_T41 x0 x5).f2) * ((rd_T41 x0 x5).f3))))) (wrap64 (x5 + 1))) else (if ((rd_T41 x0 x5).f4) = 2 then (spec_AreaOnOrder.l0 k x0 (wrap64 (x4 + (wrap64 (((rd_T41 x0 x5).f2) * ((rd_T41 x0 x5).f3))))) (wrap64 (x5 + 1))) else (spec_AreaOnOrder.l0 k x0 x4 (wrap64 (x5 + 1))))) else (none)) else (some (x4, true))
def spec_AreaOnOrder.f (k : Nat) (l0 : List (S41)) : Option (Int × Bool) := (spec_l17Good.f k l0).bind fun t101 => (if t101 = true then (spec_AreaOnOrder.l0 k l0 0 0) else (some (0, false)))
theorem spec_AreaOnOrder.mono_l : ∀ k, (∀ y0 y1 y2, LeO (spec_AreaOnOrder.l0 k y0 y1 y2) (spec_AreaOnOrder.l0 (k + 1) y0 y1 y2))
  | 0 => fun _ _ _ r h => by simp [spec_AreaOnOrder.l0] at h
  | k + 1 => by
    have ih0 := spec_AreaOnOrder.mono_l k
    · intro y0 y1 y2
      unfold spec_AreaOnOrder.l0
      repeat' first
      | (with_reducible exact ih0 _ _ _)
      | (with_reducible exact spec_l17Good.mono _ _)
      | (with_reducible exact LeO.refl _)
      | (with_reducible exact LeO.none _)
      | (with_reducible refine LeO.ite ?_ ?_)
      | (with_reducible refine LeO.bind ?_ (fun _ => ?_))
      | exact ih0 _ _ _
      | exact spec_l17Good.mono _ _
      | exact LeO.none _
      | refine LeO.ite ?_ ?_
      | refine LeO.bind ?_ (fun _ => ?_)
theorem spec_AreaOnOrder.mono : ∀ a0 k, LeO (spec_AreaOnOrder.f k a0) (spec_AreaOnOrder.f (k + 1) a0) := by
  intro a0 k
  have ih0 := spec_AreaOnOrder.mono_l k
  unfold spec_AreaOnOrder.f
  repeat' first
      | (with_reducible exact ih0 _ _ _)
      | (with_reducible exact spec_l17Good.mono _ _)
      | (with_reducible exact LeO.refl _)
      | (with_reducible exact LeO.none _)
      | (with_reducible refine LeO.ite ?_ ?_)
      | (with_reducible refine LeO.bind ?_ (fun _ => ?_))
      | exact ih0 _ _ _
      | exact spec_l17Good.mono _ _
      | exact LeO.none _
      | refine LeO.ite ?_ ?_
      | refine LeO.bind ?_ (fun _ => ?_)
set_option maxHeartbeats 8000000 in
set_option maxRecDepth 100000 in
theorem spec_AreaOnOrder.calls (k : Nat) (A0 : Option Addr) (c0 : Nat) (l0 : List (S41)) (r1 : Int) (r2 : Bool) (w : World) (hr0 : Kd.C k41 w A0 l0.length l0) (hc0 : l0.length ≤ c0) (h : spec_AreaOnOrder.f k l0 = some (r1, r2)) :
    Calls Tryd.prog 32 #[.slice A0 l0.length c0] w fun e w' => e = .returned (.tuple #[.int .i64 r1, .bool r2]) ∧ Below w.heap.size w w' := by
  have hu41 := Tryd.underlying41
  have HR0 := Aside0.mk hr0
  have HC0 := Aside0.mk hc0
  clear hr0 hc0
  have HB := Aside0.mk (Below.refl w.heap.size w)
  have H : ((spec_l17Good.f k l0).bind fun t101 => (if t101 = true then (spec_AreaOnOrder.l0 k l0 0 0) else (some (0, false)))) = some (r1, r2) := h
  clear h
  replace H := Option.bind_eq_some_iff.mp H
  obtain ⟨t101, A20, H⟩ := H
  replace H : (if t101 = true then (spec_AreaOnOrder.l0 k l0 0 0) else (some (0, false))) = some (r1, r2) := H
  have A2 := Aside0.mk A20
  clear A20
  by_cases c3 : t101 = true
  · subst c3
    have H1 : (spec_AreaOnOrder.l0 k l0 0 0) = some (r1, r2) := by rw [if_pos rfl] at H; exact H
    clear H
    have H := H1
    clear H1
    have H' := Aside0.mk H
    clear H
    go_enter Tryd.func32, Tryd.ntmps32
    go_wp2_with (first | ((with_reducible refine gate_callee (f := 53) rfl ?_); refine goesL_ (some 8) rfl rfl Tryd.func53 (by kernel_rfl) rfl #[.slice A0 l0.length c0] rfl (by (try simp only [List.map_toArray, List.map_cons, List.map_nil]); first | done | rfl | (simp only [List.length_drop, List.length_take]; rfl)) ?_; (with_reducible refine (spec_l17Good.calls k _ _ l0 true _ ?side1 ?side2 A2.out).mono ?_); (case side1 => repeat (first | exact HR0.out | (with_reducible refine Kd.C_alloc ?_ _) | (with_reducible refine Kd.C_drewN ?_ _) | (with_reducible refine Kd.C_drew ?_))); (case side2 => exact HC0.out); rintro e w4 ⟨rfl, hb⟩; refine ⟨_, rfl, ?_⟩; have n0_ := Aside0.mk (below_step (by exact eS HB.out) hb); clear HB; have HB := n0_; clear n0_; (try clear hb); (try clear hb2); (try clear hk); (try clear hi)))
    go_loopg [4, 5] k (fun kq v4 v5 w' => ∃ (x4_1 : Int) (x5_1 : Int), v4 = .int .i64 x4_1 ∧ v5 = .int .i64 x5_1 ∧ Aside0 (spec_AreaOnOrder.l0 kq l0 x4_1 x5_1 = some (r1, r2)) ∧ Aside0 (kq ≤ k) ∧ Aside0 (Below w.heap.size w w'))
    case atStart => exact ⟨(0), (0), (by first | rfl | (simp; done) | (simp [*]; done)), (by first | rfl | (simp; done) | (simp [*]; done)), H', ⟨Nat.le_refl _⟩, ⟨by exact eS HB.out⟩⟩
    case round =>
      clear H'
      try clear p2
      try clear c3
      obtain ⟨x4_1, x5_1, rfl, rfl, HA, HK1, HB⟩ := hrel
      cases gk with
      | zero => exact absurd HA.out (by simp [spec_AreaOnOrder.l0])
      | succ k1 =>
        have H := HA.out
        clear HA
        simp only [spec_AreaOnOrder.l0] at H
        by_cases c5 : x5_1 < (l0.length : Int)
        · rw [if_pos c5] at H
          have c5b0 : decide (x5_1 < (l0.length : Int)) = true := decide_eq_true c5
          clear c5
          by_cases c6 : 0 ≤ x5_1
          · rw [if_pos c6] at H
            have c6b0 : decide (0 ≤ x5_1) = true := decide_eq_true c6
            clear c6
            by_cases c7 : ((rd_T41 l0 x5_1).f4) = 1
            · rw [if_pos c7] at H
              have c7b0 : (((rd_T41 l0 x5_1).f4) == 1) = true := beq_iff_eq.mpr c7
              have c7b1 : (((rd_T41 l0 x5_1).f4) != 1) = false := bne_eq_false_iff_eq.mpr c7
              clear c7
              have H' := Aside0.mk H
              clear H
              have p102 : 0 ≤ (x5_1 : Int) := of_decide_eq_true (by first | (with_reducible assumption) | assumption)
              have q102 : x5_1 < (l0.length : Int) := of_decide_eq_true (by first | (with_reducible assumption) | assumption)
              obtain ⟨ad102, e102, hx102_0, hx102_1, hx102_2, hx102_3, hx102_4, hx102_5, hx102_6, hx102_7⟩ := at_T41 HR0.out x5_1 p102 q102
              cases e102
              replace hx102_0 := (HB.out.cell (World.block_lt_of_cell? w _ hx102_0)).trans hx102_0
              replace hx102_1 := (HB.out.cell (World.block_lt_of_cell? w _ hx102_1)).trans hx102_1
              replace hx102_2 := (HB.out.cell (World.block_lt_of_cell? w _ hx102_2)).trans hx102_2
              replace hx102_3 := (HB.out.cell (World.block_lt_of_cell? w _ hx102_3)).trans hx102_3
              replace hx102_4 := (HB.out.cell (World.block_lt_of_cell? w _ hx102_4)).trans hx102_4
              replace hx102_5 := (HB.out.cell (World.block_lt_of_cell? w _ hx102_5)).trans hx102_5
              replace hx102_6 := (HB.out.cell (World.block_lt_of_cell? w _ hx102_6)).trans hx102_6
              replace hx102_7 := (HB.out.cell (World.block_lt_of_cell? w _ hx102_7)).trans hx102_7
              replace p102 := eq_true p102
              replace q102 := eq_true q102
              go_wp2_with (first | ((with_reducible refine gate_dst (N := 6) rfl ?_); refine box_event ?hg (N := 6) ?hd (cs := #[.int .i64 0, .string (⟨#[]⟩ : ByteArray), .int .i64 0, .int .i64 0, .int .i64 0, .int .i64 0, .int .i64 0, .int .i64 0]) (t := 41) ?hr ?_; (case hd => rfl); (case hg => rfl); (case hr => first | (go_simp; done) | (go_simp; rfl)); intro gb103 hg w8 hbox hb; have n0_ := Aside0.mk (below_step (by exact eS HB.out) hb); have n1_ := Aside0.mk (hbox); have n2_ := Aside0.mk ((by rw [hg]; exact (below_size (by exact eS HB.out)) : w.heap.size ≤ gb103)); have n3_ := Aside0.mk ((by rw [hg]; exact (below_size (by exact eS HB.out)) : w.heap.size ≤ gb103)); clear HB; have HB := n0_; have BK103 := n1_; have GW103 := n2_; have GE103 := n3_; clear n0_ n1_ n2_ n3_; clear hb hbox hg; have hcz9_0 : w8.cell? ⟨gb103, 0, none⟩ = some (.int .i64 0) := (blk_cell BK103.out 0).trans rfl; have hcz9_1 : w8.cell? ⟨gb103, 1, none⟩ = some (.string (⟨#[]⟩ : ByteArray)) := (blk_cell BK103.out 1).trans rfl; have hcz9_2 : w8.cell? ⟨gb103, 2, none⟩ = some (.int .i64 0) := (blk_cell BK103.out 2).trans rfl; have hcz9_3 : w8.cell? ⟨gb103, 3, none⟩ = some (.int .i64 0) := (blk_cell BK103.out 3).trans rfl; have hcz9_4 : w8.cell? ⟨gb103, 4, none⟩ = some (.int .i64 0) := (blk_cell BK103.out 4).trans rfl; have hcz9_5 : w8.cell? ⟨gb103, 5, none⟩ = some (.int .i64 0) := (blk_cell BK103.out 5).trans rfl; have hcz9_6 : w8.cell? ⟨gb103, 6, none⟩ = some (.int .i64 0) := (blk_cell BK103.out 6).trans rfl; have hcz9_7 : w8.cell? ⟨gb103, 7, none⟩ = some (.int .i64 0) := (blk_cell BK103.out 7).trans rfl; have hfz9_0 := blk_frozen BK103.out 0; have hfz9_1 := blk_frozen BK103.out 1; have hfz9_2 := blk_frozen BK103.out 2; have hfz9_3 := blk_frozen BK103.out 3; have hfz9_4 := blk_frozen BK103.out 4; have hfz9_5 := blk_frozen BK103.out 5; have hfz9_6 := blk_frozen BK103.out 6; have hfz9_7 := blk_frozen BK103.out 7))
              go_roundg k1
              case measure => have := HK1.out; omega
              case rel => exact ⟨(wrap64 (x4_1 + (wrap64 (((rd_T41 l0 x5_1).f2) * ((rd_T41 l0 x5_1).f3))))), (wrap64 (x5_1 + 1)), (by first | rfl | (simp; done) | (simp [*]; done)), (by first | rfl | (simp; done) | (simp [*]; done)), H', ⟨by have := HK1.out; omega⟩, ⟨by repeat (first | (with_reducible first | exact HB.out | apply below_alloc | apply pw_below_drewN | apply below_drew1 | refine below_set ?_ GE103.out) | exact HB.out)⟩⟩
            · rw [if_neg c7] at H
              have c7b0 : (((rd_T41 l0 x5_1).f4) == 1) = false := beq_eq_false_iff_ne.mpr c7
              have c7b1 : (((rd_T41 l0 x5_1).f4) != 1) = true := bne_iff_ne.mpr c7
              by_cases c10 : ((rd_T41 l0 x5_1).f4) = 2
              · rw [if_pos c10] at H
                have c10b0 : (((rd_T41 l0 x5_1).f4) == 2) = true := beq_iff_eq.mpr c10
                have c10b1 : (((rd_T41 l0 x5_1).f4) != 2) = false := bne_eq_false_iff_eq.mpr c10
                clear c10
                have H' := Aside0.mk H
                clear H
                have p102 : 0 ≤ (x5_1 : Int) := of_decide_eq_true (by first | (with_reducible assumption) | assumption)
                have q102 : x5_1 < (l0.length : Int) := of_decide_eq_true (by first | (with_reducible assumption) | assumption)
                obtain ⟨ad102, e102, hx102_0, hx102_1, hx102_2, hx102_3, hx102_4, hx102_5, hx102_6, hx102_7⟩ := at_T41 HR0.out x5_1 p102 q102
                cases e102
                replace hx102_0 := (HB.out.cell (World.block_lt_of_cell? w _ hx102_0)).trans hx102_0
                replace hx102_1 := (HB.out.cell (World.block_lt_of_cell? w _ hx102_1)).trans hx102_1
                replace hx102_2 := (HB.out.cell (World.block_lt_of_cell? w _ hx102_2)).trans hx102_2
                replace hx102_3 := (HB.out.cell (World.block_lt_of_cell? w _ hx102_3)).trans hx102_3
                replace hx102_4 := (HB.out.cell (World.block_lt_of_cell? w _ hx102_4)).trans hx102_4
                replace hx102_5 := (HB.out.cell (World.block_lt_of_cell? w _ hx102_5)).trans hx102_5
                replace hx102_6 := (HB.out.cell (World.block_lt_of_cell? w _ hx102_6)).trans hx102_6
                replace hx102_7 := (HB.out.cell (World.block_lt_of_cell? w _ hx102_7)).trans hx102_7
                replace p102 := eq_true p102
                replace q102 := eq_true q102
                go_wp2_with (first | ((with_reducible refine gate_dst (N := 6) rfl ?_); refine box_event ?hg (N := 6) ?hd (cs := #[.int .i64 0, .string (⟨#[]⟩ : ByteArray), .int .i64 0, .int .i64 0, .int .i64 0, .int .i64 0, .int .i64 0, .int .i64 0]) (t := 41) ?hr ?_; (case hd => rfl); (case hg => rfl); (case hr => first | (go_simp; done) | (go_simp; rfl)); intro gb103 hg w11 hbox hb; have n0_ := Aside0.mk (below_step (by exact eS HB.out) hb); have n1_ := Aside0.mk (hbox); have n2_ := Aside0.mk ((by rw [hg]; exact (below_size (by exact eS HB.out)) : w.heap.size ≤ gb103)); have n3_ := Aside0.mk ((by rw [hg]; exact (below_size (by exact eS HB.out)) : w.heap.size ≤ gb103)); clear HB; have HB := n0_; have BK103 := n1_; have GW103 := n2_; have GE103 := n3_; clear n0_ n1_ n2_ n3_; clear hb hbox hg; have hcz12_0 : w11.cell? ⟨gb103, 0, none⟩ = some (.int .i64 0) := (blk_cell BK103.out 0).trans rfl; have hcz12_1 : w11.cell? ⟨gb103, 1, none⟩ = some (.string (⟨#[]⟩ : ByteArray)) := (blk_cell BK103.out 1).trans rfl; have hcz12_2 : w11.cell? ⟨gb103, 2, none⟩ = some (.int .i64 0) := (blk_cell BK103.out 2).trans rfl; have hcz12_3 : w11.cell? ⟨gb103, 3, none⟩ = some (.int .i64 0) := (blk_cell BK103.out 3).trans rfl; have hcz12_4 : w11.cell? ⟨gb103, 4, none⟩ = some (.int .i64 0) := (blk_cell BK103.out 4).trans rfl; have hcz12_5 : w11.cell? ⟨gb103, 5, none⟩ = some (.int .i64 0) := (blk_cell BK103.out 5).trans rfl; have hcz12_6 : w11.cell? ⟨gb103, 6, none⟩ = some (.int .i64 0) := (blk_cell BK103.out 6).trans rfl; have hcz12_7 : w11.cell? ⟨gb103, 7, none⟩ = some (.int .i64 0) := (blk_cell BK103.out 7).trans rfl; have hfz12_0 := blk_frozen BK103.out 0; have hfz12_1 := blk_frozen BK103.out 1; have hfz12_2 := blk_frozen BK103.out 2; have hfz12_3 := blk_frozen BK103.out 3; have hfz12_4 := blk_frozen BK103.out 4; have hfz12_5 := blk_frozen BK103.out 5; have hfz12_6 := blk_frozen BK103.out 6; have hfz12_7 := blk_frozen BK103.out 7))
                go_roundg k1
                case measure => have := HK1.out; omega
                case rel => exact ⟨(wrap64 (x4_1 + (wrap64 (((rd_T41 l0 x5_1).f2) * ((rd_T41 l0 x5_1).f3))))), (wrap64 (x5_1 + 1)), (by first | rfl | (simp; done) | (simp [*]; done)), (by first | rfl | (simp; done) | (simp [*]; done)), H', ⟨by have := HK1.out; omega⟩, ⟨by repeat (first | (with_reducible first | exact HB.out | apply below_alloc | apply pw_below_drewN | apply below_drew1 | refine below_set ?_ GE103.out) | exact HB.out)⟩⟩
              · rw [if_neg c10] at H
                have c10b0 : (((rd_T41 l0 x5_1).f4) == 2) = false := beq_eq_false_iff_ne.mpr c10
                have c10b1 : (((rd_T41 l0 x5_1).f4) != 2) = true := bne_iff_ne.mpr c10
                have H' := Aside0.mk H
                clear H
                have p102 : 0 ≤ (x5_1 : Int) := of_decide_eq_true (by first | (with_reducible assumption) | assumption)
                have q102 : x5_1 < (l0.length : Int) := of_decide_eq_true (by first | (with_reducible assumption) | assumption)
                obtain ⟨ad102, e102, hx102_0, hx102_1, hx102_2, hx102_3, hx102_4, hx102_5, hx102_6, hx102_7⟩ := at_T41 HR0.out x5_1 p102 q102
                cases e102
                replace hx102_0 := (HB.out.cell (World.block_lt_of_cell? w _ hx102_0)).trans hx102_0
                replace hx102_1 := (HB.out.cell (World.block_lt_of_cell? w _ hx102_1)).trans hx102_1
                replace hx102_2 := (HB.out.cell (World.block_lt_of_cell? w _ hx102_2)).trans hx102_2
                replace hx102_3 := (HB.out.cell (World.block_lt_of_cell? w _ hx102_3)).trans hx102_3
                replace hx102_4 := (HB.out.cell (World.block_lt_of_cell? w _ hx102_4)).trans hx102_4
                replace hx102_5 := (HB.out.cell (World.block_lt_of_cell? w _ hx102_5)).trans hx102_5
                replace hx102_6 := (HB.out.cell (World.block_lt_of_cell? w _ hx102_6)).trans hx102_6
                replace hx102_7 := (HB.out.cell (World.block_lt_of_cell? w _ hx102_7)).trans hx102_7
                replace p102 := eq_true p102
                replace q102 := eq_true q102
                go_wp2_with (first | ((with_reducible refine gate_dst (N := 6) rfl ?_); refine box_event ?hg (N := 6) ?hd (cs := #[.int .i64 0, .string (⟨#[]⟩ : ByteArray), .int .i64 0, .int .i64 0, .int .i64 0, .int .i64 0, .int .i64 0, .int .i64 0]) (t := 41) ?hr ?_; (case hd => rfl); (case hg => rfl); (case hr => first | (go_simp; done) | (go_simp; rfl)); intro gb103 hg w13 hbox hb; have n0_ := Aside0.mk (below_step (by exact eS HB.out) hb); have n1_ := Aside0.mk (hbox); have n2_ := Aside0.mk ((by rw [hg]; exact (below_size (by exact eS HB.out)) : w.heap.size ≤ gb103)); have n3_ := Aside0.mk ((by rw [hg]; exact (below_size (by exact eS HB.out)) : w.heap.size ≤ gb103)); clear HB; have HB := n0_; have BK103 := n1_; have GW103 := n2_; have GE103 := n3_; clear n0_ n1_ n2_ n3_; clear hb hbox hg; have hcz14_0 : w13.cell? ⟨gb103, 0, none⟩ = some (.int .i64 0) := (blk_cell BK103.out 0).trans rfl; have hcz14_1 : w13.cell? ⟨gb103, 1, none⟩ = some (.string (⟨#[]⟩ : ByteArray)) := (blk_cell BK103.out 1).trans rfl; have hcz14_2 : w13.cell? ⟨gb103, 2, none⟩ = some (.int .i64 0) := (blk_cell BK103.out 2).trans rfl; have hcz14_3 : w13.cell? ⟨gb103, 3, none⟩ = some (.int .i64 0) := (blk_cell BK103.out 3).trans rfl; have hcz14_4 : w13.cell? ⟨gb103, 4, none⟩ = some (.int .i64 0) := (blk_cell BK103.out 4).trans rfl; have hcz14_5 : w13.cell? ⟨gb103, 5, none⟩ = some (.int .i64 0) := (blk_cell BK103.out 5).trans rfl; have hcz14_6 : w13.cell? ⟨gb103, 6, none⟩ = some (.int .i64 0) := (blk_cell BK103.out 6).trans rfl; have hcz14_7 : w13.cell? ⟨gb103, 7, none⟩ = some (.int .i64 0) := (blk_cell BK103.out 7).trans rfl; have hfz14_0 := blk_frozen BK103.out 0; have hfz14_1 := blk_frozen BK103.out 1; have hfz14_2 := blk_frozen BK103.out 2; have hfz14_3 := blk_frozen BK103.out 3; have hfz14_4 := blk_frozen BK103.out 4; have hfz14_5 := blk_frozen BK103.out 5; have hfz14_6 := blk_frozen BK103.out 6; have hfz14_7 := blk_frozen BK103.out 7))
                go_roundg k1
                case measure => have := HK1.out; omega
                case rel => exact ⟨(x4_1), (wrap64 (x5_1 + 1)), (by first | rfl | (simp; done) | (simp [*]; done)), (by first | rfl | (simp; done) | (simp [*]; done)), H', ⟨by have := HK1.out; omega⟩, ⟨by repeat (first | (with_reducible first | exact HB.out | apply below_alloc | apply pw_below_drewN | apply below_drew1 | refine below_set ?_ GE103.out) | exact HB.out)⟩⟩
          · rw [if_neg c6] at H
            exact absurd H (by simp)
        · rw [if_neg c5] at H
          have c5b0 : decide (x5_1 < (l0.length : Int)) = false := decide_eq_false c5
          clear c5
          simp only [Option.some.injEq, Prod.mk.injEq] at H
          obtain ⟨rfl, rfl⟩ := H
          go_wp2
          go_ret2
          exact ⟨by first | rfl | (simp [errW_none, errW_some] <;> rfl) | (simp [*, errW_none, errW_some] <;> rfl), by exact eS HB.out⟩
  · replace c3 := Bool.eq_false_iff.mpr c3
    subst c3
    have H1 : (some (0, false)) = some (r1, r2) := by rw [if_neg (show ¬ (false = true) by decide)] at H; exact H
    clear H
    have H := H1
    clear H1
    simp only [Option.some.injEq, Prod.mk.injEq] at H
    obtain ⟨rfl, rfl⟩ := H
    go_enter Tryd.func32, Tryd.ntmps32
    go_wp2_with (first | ((with_reducible refine gate_callee (f := 53) rfl ?_); refine goesL_ (some 8) rfl rfl Tryd.func53 (by kernel_rfl) rfl #[.slice A0 l0.length c0] rfl (by (try simp only [List.map_toArray, List.map_cons, List.map_nil]); first | done | rfl | (simp only [List.length_drop, List.length_take]; rfl)) ?_; (with_reducible refine (spec_l17Good.calls k _ _ l0 false _ ?side1 ?side2 A2.out).mono ?_); (case side1 => repeat (first | exact HR0.out | (with_reducible refine Kd.C_alloc ?_ _) | (with_reducible refine Kd.C_drewN ?_ _) | (with_reducible refine Kd.C_drew ?_))); (case side2 => exact HC0.out); rintro e w15 ⟨rfl, hb⟩; refine ⟨_, rfl, ?_⟩; have n0_ := Aside0.mk (below_step (by exact eS HB.out) hb); clear HB; have HB := n0_; clear n0_; (try clear hb); (try clear hb2); (try clear hk); (try clear hi)))
    go_ret2
    exact ⟨by first | rfl | (simp [errW_none, errW_some] <;> rfl) | (simp [*, errW_none, errW_some] <;> rfl), by exact eS HB.out⟩

end Go.Proofs.YtahfahlbdgbfeaaDoor.X

-- Qareaorder
namespace Go.Proofs.YtahfahlbdgbfeaaDoor.Pure
open Go Go.RowKit Go.Proofs Go.Proofs.YtahfahlbdgbfeaaDoor.X Go.Proofs.YtahfahlbdgbfeaaDoorW.PrintWords Go.Proofs.YtahfahlbdgbfeaaDoorW.PrintLast
set_option linter.unusedVariables false
set_option linter.unusedSimpArgs false

def areaV (x : S41) : Int := if x.f4 = 1 then x.f2 * x.f3 else if x.f4 = 2 then x.f2 * x.f3 else 0
def areaM (l : List S41) : Int × Bool := if ordersB l then ((l.map areaV).sum, true) else (0, false)
theorem orders_of {l : List S41} (h : ordersB l = true) : l.length ≤ 10 ∧ ∀ x ∈ l, orderB x = true := by
  simp only [ordersB, Bool.and_eq_true, decide_eq_true_eq, List.all_eq_true] at h
  exact ⟨h.1, h.2.1⟩
theorem order_of {x : S41} (h : orderB x = true) : (1 ≤ x.f0 ∧ x.f0 ≤ 999) ∧ wordB x.f1 = true ∧ (30 ≤ x.f2 ∧ x.f2 ≤ 600) ∧ (30 ≤ x.f3 ∧ x.f3 ≤ 600) ∧ (0 ≤ x.f4 ∧ x.f4 ≤ 5) ∧ (0 ≤ x.f5 ∧ x.f5 ≤ 10000000) ∧ (0 ≤ x.f6 ∧ x.f6 ≤ x.f5) ∧ (0 ≤ x.f7 ∧ x.f7 ≤ 4000) := by
  simpa only [orderB, Bool.and_eq_true, decide_eq_true_eq] using h
theorem area_bd {x : S41} (h : orderB x = true) : (0 ≤ x.f2 * x.f3 ∧ x.f2 * x.f3 ≤ 360000) ∧ 0 ≤ areaV x ∧ areaV x ≤ 360000 := by
  have hx := order_of h
  have := mul_bd (a := x.f2) (b := x.f3) (A := 600) (B := 600) (by omega) (by omega) (by omega) (by omega)
  refine ⟨by omega, ?_⟩
  unfold areaV
  (repeat' split) <;> omega
theorem areaS_eq {k : Nat} {l : List S41} (hk : l.length + 1048577 < k) (hs : sizesOk l) : spec_AreaOnOrder.f k l = some (areaM l) := by
  simp only [spec_AreaOnOrder.f, ordersS_eq hk hs, Option.bind_some, areaM]
  cases hb : ordersB l
  · simp
  obtain ⟨h10, hx⟩ := orders_of hb
  simp only [if_true]
  have := sum_loop (fun k a i => spec_AreaOnOrder.l0 k l a i) areaV (fun a => some (a, true)) z41 360000 l (by omega) (fun x hm => by have := (area_bd (hx x hm)).2; omega)
    (fun k acc i h1 h2 h3 => by
      have hm : l.getD i z41 ∈ l := by rw [List.getD_eq_getElem?_getD, List.getElem?_eq_getElem h1]; exact List.getElem_mem h1
      have hb := (area_bd (hx _ hm)).1
      simp only [spec_AreaOnOrder.l0, rdIOrder_nat]
      rw [if_pos (by omega), if_pos (by omega)]
      unfold areaV
      by_cases g1 : (l.getD i z41).f4 = 1
      · rw [if_pos g1, if_pos g1, w64 (x := _ * _) (by omega) (by omega), w64 (x := acc + _) (by omega) (by omega)]
      · rw [if_neg g1, if_neg g1]
        by_cases g2 : (l.getD i z41).f4 = 2
        · rw [if_pos g2, if_pos g2, w64 (x := _ * _) (by omega) (by omega), w64 (x := acc + _) (by omega) (by omega)]
        · rw [if_neg g2, if_neg g2, Int.add_zero])
    (fun k acc i h1 => by simp only [spec_AreaOnOrder.l0]; rw [if_neg (by omega)])
    l.length k 0 0 (by omega) (by omega) (by omega) (by omega)
  simpa using this
theorem areaI_eq {k : Nat} {l : List S41} (hk : l.length + 1 < k) (hs : l.length ≤ 1048576) : impl_AreaOnOrder.f k l = some (areaM l) := by
  simp only [impl_AreaOnOrder.f, ordersI_eq hk hs, Option.bind_some, areaM]
  cases hb : ordersB l
  · simp
  obtain ⟨h10, hx⟩ := orders_of hb
  simp only [if_true]
  have := sum_loop (fun k a i => impl_AreaOnOrder.l0 k a l (l.length : Int) i) areaV (fun a => some (a, true)) z41 360000 l (by omega) (fun x hm => by have := (area_bd (hx x hm)).2; omega)
    (fun k acc i h1 h2 h3 => by
      have hm : l.getD i z41 ∈ l := by rw [List.getD_eq_getElem?_getD, List.getElem?_eq_getElem h1]; exact List.getElem_mem h1
      have hb := (area_bd (hx _ hm)).1
      simp only [impl_AreaOnOrder.l0, rdIOrder_nat]
      rw [if_pos (by omega), if_pos (by omega), if_pos (by omega)]
      unfold areaV
      by_cases g1 : (l.getD i z41).f4 = 1
      · rw [if_pos g1, if_pos g1, w64 (x := _ * _) (by omega) (by omega), w64 (x := acc + _) (by omega) (by omega)]
      · rw [if_neg g1, if_neg g1]
        by_cases g2 : (l.getD i z41).f4 = 2
        · rw [if_pos g2, if_pos g2, w64 (x := _ * _) (by omega) (by omega), w64 (x := acc + _) (by omega) (by omega)]
        · rw [if_neg g2, if_neg g2, Int.add_zero])
    (fun k acc i h1 => by simp only [impl_AreaOnOrder.l0]; rw [if_neg (by omega)])
    l.length k 0 0 (by omega) (by omega) (by omega) (by omega)
  simpa using this

end Go.Proofs.YtahfahlbdgbfeaaDoor.Pure

-- Qfindorder
namespace Go.Proofs.YtahfahlbdgbfeaaDoor.Pure
open Go Go.RowKit Go.Proofs Go.Proofs.YtahfahlbdgbfeaaDoor.X Go.Proofs.YtahfahlbdgbfeaaDoorW.PrintWords Go.Proofs.YtahfahlbdgbfeaaDoorW.PrintLast
set_option linter.unusedVariables false
set_option linter.unusedSimpArgs false

/-- the place of an order, or -1 -/
def findI (l : List S41) (id : Int) : Int := match l.findIdx? (fun x => x.f0 == id) with | some j => (j : Int) | none => -1
def findM (l : List S41) (id : Int) : Int := if ordersB l then findI l id else -1
theorem findI_bd (l : List S41) (id : Int) : findI l id = -1 ∨ ∃ j : Nat, findI l id = j ∧ j < l.length := by
  unfold findI
  cases h : l.findIdx? (fun x => x.f0 == id) with
  | none => exact .inl rfl
  | some j => exact .inr ⟨j, rfl, (List.findIdx?_eq_some_iff_getElem.mp h).1⟩
theorem findO_eq {k : Nat} {l : List S41} {id : Int} (hk : l.length + 1 < k) (hs : l.length ≤ 1048576) : impl_findOrder.f k l id = some (findM l id) := by
  simp only [impl_findOrder.f, ordersI_eq hk hs, Option.bind_some, findM]
  cases hb : ordersB l
  · simp
  simp only [if_true, impl_CarpetOrder__impl_findOrder_1.f, impl_findOrder_1.f]
  rw [Ho.idxO_eq (p := fun (x_ : S41) => some (x_.f0 == id)) (q := fun x => x.f0 == id) (fun x _ => rfl)]
  simp only [Option.bind_some, findI]
  cases l.findIdx? (fun x => x.f0 == id) <;> simp
theorem findS_eq {k : Nat} {l : List S41} {id : Int} (hk : 2 * l.length + 1048700 < k) (hs : sizesOk l) : spec_l17Find.f k l id = some (findM l id) := by
  unfold spec_l17Find.f
  have hlen := hs.1
  by_cases hl0 : l.length = 0
  · have hnil : l = [] := List.eq_nil_of_length_eq_zero hl0
    subst hnil
    obtain ⟨k, rfl, _⟩ := succ_of (show 0 < k by omega)
    obtain ⟨k, rfl, _⟩ := succ_of (show 0 < k by simp at hk; omega)
    rw [spec_l17Find.l0, if_neg (by simp), spec_l17Find.j1]
    simp [findM, findI]
  cases hb : ordersB l
  · obtain ⟨k, rfl, _⟩ := succ_of (show 0 < k by omega)
    obtain ⟨k, rfl, _⟩ := succ_of (show 0 < k by omega)
    rw [spec_l17Find.l0, if_pos (by omega), ordersS_eq (by omega) hs, hb]
    simp only [Option.bind_some, spec_l17Find.j1]
    simp [findM, hb]
  have : ∀ (n k i : Nat), i + n = l.length → 2 * n + l.length + 1048590 < k → spec_l17Find.l0 k l id (i : Int) = some (match (l.drop i).findIdx? (fun x => x.f0 == id) with | some j => ((i + j : Nat) : Int) | none => -1) := by
    intro n
    induction n with
    | zero =>
      intro k i hi hk
      obtain ⟨k, rfl, _⟩ := succ_of (show 0 < k by omega)
      obtain ⟨k, rfl, _⟩ := succ_of (show 0 < k by omega)
      rw [spec_l17Find.l0, if_neg (by omega), spec_l17Find.j1, List.drop_eq_nil_of_le (by omega)]
      simp
    | succ n ih =>
      intro k i hi hk
      obtain ⟨k, rfl, _⟩ := succ_of (show 0 < k by omega)
      obtain ⟨k, rfl, _⟩ := succ_of (show 0 < k by omega)
      have hlt : i < l.length := by omega
      rw [spec_l17Find.l0, if_pos (by omega), ordersS_eq (by omega) hs, hb]
      simp only [Option.bind_some, spec_l17Find.j1, if_true, rdIOrder_nat]
      rw [if_pos (by omega), if_pos (by omega), drop_step hlt z41, List.findIdx?_cons]
      by_cases g : (l.getD i z41).f0 = id
      · rw [if_pos g, if_pos (by simpa using g)]; simp
      · rw [if_neg g, if_neg (by simpa using g), wstep hlt (by omega), ih k (i + 1) (by omega) (by omega)]
        congr 1
        cases (l.drop (i + 1)).findIdx? (fun x => x.f0 == id) with
        | none => rfl
        | some j => simp only [Option.map_some]; rw [show i + 1 + j = i + (j + 1) by omega]
  have h10 := (orders_of hb).1
  have h := this l.length k 0 (by omega) (by omega)
  rw [show ((0 : Nat) : Int) = 0 from rfl] at h
  rw [h]
  simp only [findM, hb, if_true, findI, List.drop_zero, Nat.zero_add]
/-- a list in which an order is replaced, if it is valid -/
def withM (l : List S41) (i : Int) (o : S41) : List S41 × Bool := if ordersB (l.set i.toNat o) then (l.set i.toNat o, true) else ([], false)
theorem withM_len (l : List S41) (i : Int) (o : S41) : (withM l i o).1.length ≤ 10 := by
  unfold withM
  split
  · rename_i h; exact (orders_of h).1
  · simp
theorem withS_eq {k : Nat} {l : List S41} {i : Int} (o : S41) (hk : l.length + 1048577 < k) (hs : sizesOk l) (ho : o.f1.size ≤ 1048576) (hi : 0 ≤ i ∧ i < l.length) : spec_l17With.f k l i o.f0 o.f1 o.f2 o.f3 o.f4 o.f5 o.f6 o.f7 = some (withM l i o) := by
  have hlen := hs.1
  have hs2 : sizesOk (l.set i.toNat o) := by
    refine ⟨by rw [List.length_set]; exact hlen, fun x hx => ?_⟩
    rcases List.mem_or_eq_of_mem_set hx with h | rfl
    · exact hs.2 x h
    · exact ho
  simp only [spec_l17With.f, Option.bind_some, List.length_nil, List.nil_append]
  rw [if_pos (by omega), if_pos hi.1, if_pos hi.2, ordersS_eq (l := l.set i.toNat o) (by rw [List.length_set]; omega) hs2]
  simp only [Option.bind_some, withM]
  cases ordersB (l.set i.toNat o) <;> simp
theorem withI_eq {k : Nat} {l : List S41} {i : Int} (o : S41) (hk : l.length + 1 < k) (hlen : l.length ≤ 1048576) (hi : 0 ≤ i ∧ i < l.length) : impl_withOrder.f k l i o.f0 o.f1 o.f2 o.f3 o.f4 o.f5 o.f6 o.f7 = some (withM l i o) := by
  simp only [impl_withOrder.f, impl_CarpetOrder_80.f, Option.bind_some, List.length_nil, List.nil_append]
  rw [if_pos (by omega)]
  simp only [Option.bind_some]
  rw [if_pos hi.1, if_pos hi.2, ordersI_eq (l := l.set i.toNat o) (by rw [List.length_set]; omega) (by rw [List.length_set]; omega)]
  simp only [Option.bind_some, withM]
  cases ordersB (l.set i.toNat o) <;> simp

end Go.Proofs.YtahfahlbdgbfeaaDoor.Pure

-- Qpaypart
namespace Go.Proofs.YtahfahlbdgbfeaaDoor.Pure
open Go Go.RowKit Go.Proofs Go.Proofs.YtahfahlbdgbfeaaDoor.X Go.Proofs.YtahfahlbdgbfeaaDoorW.PrintWords Go.Proofs.YtahfahlbdgbfeaaDoorW.PrintLast
set_option linter.unusedVariables false
set_option linter.unusedSimpArgs false

theorem findM_cases (l : List S41) (id : Int) : findM l id = -1 ∨ ∃ j : Nat, findM l id = j ∧ j < l.length ∧ ordersB l = true ∧ orderB (l.getD j z41) = true := by
  unfold findM
  cases hb : ordersB l
  · exact .inl rfl
  · rcases findI_bd l id with h | ⟨j, h, hj⟩
    · exact .inl (by rw [if_pos rfl]; exact h)
    · refine .inr ⟨j, by rw [if_pos rfl]; exact h, hj, rfl, (orders_of hb).2 _ ?_⟩
      rw [List.getD_eq_getElem?_getD, List.getElem?_eq_getElem hj]; exact List.getElem_mem hj
theorem word_size {s : ByteArray} (h : wordB s = true) : s.size ≤ 10 := by
  simp only [wordB, Bool.and_eq_true, decide_eq_true_eq] at h; exact h.1.2
def payM (l : List S41) (id c : Int) : List S41 × Bool :=
  let i := findM l id
  let x := l.getD i.toNat z41
  if i < 0 then ([], false) else if x.f4 = 5 then ([], false) else if 0 ≤ c ∧ c ≤ 10000000 then withM l i ⟨x.f0, x.f1, x.f2, x.f3, x.f4, x.f5, x.f6 + c, x.f7⟩ else ([], false)
theorem payM_len (l : List S41) (id c : Int) : (payM l id c).1.length ≤ 10 := by
  unfold payM
  simp only
  (repeat' split) <;> first | exact withM_len _ _ _ | simp
theorem payS_eq {k : Nat} {l : List S41} {id c : Int} (hk : 4000000 < k) (hs : sizesOk l) : spec_PayPart.f k l id c = some (payM l id c) := by
  have hlen := hs.1
  simp only [spec_PayPart.f, findS_eq (k := k) (l := l) (id := id) (by omega) hs, Option.bind_some, payM]
  rcases findM_cases l id with h | ⟨j, h, hj, _, ho⟩
  · rw [h]; simp
  rw [h]
  simp only [rdIOrder_nat, Int.toNat_natCast]
  simp only [if_neg (show ¬ (j : Int) < 0 by omega)]
  rw [if_pos (by omega), if_pos (by omega)]
  obtain ⟨x, hx⟩ : ∃ x, l.getD j z41 = x := ⟨_, rfl⟩
  rw [hx] at ho ⊢
  have hb := order_of ho
  by_cases g : x.f4 = 5
  · rw [if_pos g, if_pos g]
  rw [if_neg g, if_neg g]
  simp only [spec_l17Cents.f, l1In_eq, Option.bind_some]
  by_cases gc : 0 ≤ c ∧ c ≤ 10000000
  · rw [decide_eq_true gc, if_pos rfl, if_pos gc, w64 (x := x.f6 + c) (by omega) (by omega)]
    have := withS_eq (k := k) (l := l) (i := (j : Int)) ⟨x.f0, x.f1, x.f2, x.f3, x.f4, x.f5, x.f6 + c, x.f7⟩ (by omega) hs (by have := word_size hb.2.1; simp only; omega) (by omega)
    simp only at this
    rw [this]; rfl
  · rw [decide_eq_false gc, if_neg gc]; simp
theorem payI_eq {k : Nat} {l : List S41} {id c : Int} (hk : 4000000 < k) (hlen : l.length ≤ 1048576) : impl_PayPart.f k l id c = some (payM l id c) := by
  simp only [impl_PayPart.f, findO_eq (k := k) (l := l) (id := id) (by omega) hlen, Option.bind_some, payM]
  rcases findM_cases l id with h | ⟨j, h, hj, _, ho⟩
  · rw [h]; simp
  rw [h]
  simp only [rdIOrder_nat, Int.toNat_natCast, impl_isPrice.f, in_eq, Option.bind_some]
  simp only [if_neg (show ¬ (j : Int) < 0 by omega)]
  obtain ⟨x, hx⟩ : ∃ x, l.getD j z41 = x := ⟨_, rfl⟩
  rw [hx] at ho ⊢
  have hb := order_of ho
  by_cases gc : 0 ≤ c ∧ c ≤ 10000000
  · rw [decide_eq_true gc, if_pos rfl, if_pos (by omega), if_pos (by omega), if_pos gc]
    by_cases g : x.f4 = 5
    · rw [if_pos g, if_pos g]
    rw [if_neg g, if_neg g, w64 (x := x.f6 + c) (by omega) (by omega)]
    have := withI_eq (k := k) (l := l) (i := (j : Int)) ⟨x.f0, x.f1, x.f2, x.f3, x.f4, x.f5, x.f6 + c, x.f7⟩ (by omega) hlen (by omega)
    simp only at this
    rw [this]; rfl
  · rw [decide_eq_false gc, if_neg gc]; simp

end Go.Proofs.YtahfahlbdgbfeaaDoor.Pure
