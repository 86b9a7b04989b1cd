/- What the law FnBobbins needs, part 1 of 5: what each function of the program that it reaches returns (printed by this session's own program, checked by Lean), and plain mathematics about it. Conditions: those of each theorem. -/
import Derived.Test.YtiomfignokichaaGreatDoorYG
import Derived.WalkSpells
import Derived.Test.YtiomfignokichaaGreatDoorProg
import Derived.WalkKit
import Derived.Below
import Derived.Deep.Draws
import Derived.Deep.AppendLies
import Derived.Maps.AppendAt
import Derived.OwnWalk
import Derived.Laws.BytesArg
import Derived.Laws.MakeOwn
import Derived.Laws.OwnMore
import Derived.Deep.OwnRows
import Derived.Tactics
import Derived.Lib.ConvBytes
import Derived.Laws.Slices
import Derived.KernelRfl
import Derived.RowKit3
import Derived.Deep.LoopGhost
import Derived.Deep.QuietTactic
import Derived.BigQuiet
import Derived.WideLaws
import Derived.Deep.DeepCutAuto
import Derived.Deep.CutBlock
import Derived.Deep.RegionHeld3
import Derived.Laws.Rows
import Derived.Lib.AppendStr
import Derived.ArgAppend
import Derived.Laws.IdiomCopy
import Derived.OrdersHeld
import Derived.Laws.Runes
import Derived.Laws.BitsLemmas
import Derived.RowKit
import Derived.Lib.ByteType
namespace Go.Proofs.Ho
open Go.RowKit Go.Proofs.YtiomfignokichaaGreatDoorW.PrintWords Go.Proofs.YtiomfignokichaaGreatDoorW.PrintLast
set_option linter.unusedVariables false
class Steps (w w' : World) : Prop where below : Below w.heap.size w w'
instance Steps.refl (w : World) : Steps w w := ⟨Below.refl _ _⟩
instance Steps.alloc (w w' : World) (o : Obj) [h : Steps w w'] : Steps w (w'.alloc o) := ⟨below_alloc h.below o⟩
instance Steps.drewN (w w' : World) (n : Nat) [h : Steps w w'] : Steps w (w'.drewN n) := ⟨pw_below_drewN h.below n⟩
instance Steps.drew (w w' : World) [h : Steps w w'] : Steps w w'.drew := ⟨below_drew h.below⟩
theorem bS {w w' : World} {g : Nat} {o : Obj} (h : w.heap[g]? = some o) [hs : Steps w w'] : w'.heap[g]? = some o := blk_below h hs.below
theorem eS {w W W' : World} (h : Below w.heap.size w W) [hs : Steps W W'] : Below w.heap.size w W' := below_then h h.size hs.below
theorem kS {w w1 w2 : World} {g : Nat} (h : KeepBut w w1 g none) [hs : Steps w1 w2] : KeepBut w w2 g none := KeepBut.trans h (KeepBut.of_below hs.below g none) (.inl rfl)
theorem KS {w w1 w2 : World} {S : Nat → Prop} (h : Kept w w1 S) [hs : Steps w1 w2] : Kept w w2 S := Kept.below h hs.below
section
variable {α : Type} {d : Kd α} {e base : Nat} {ok : Nat → Prop} {w w' : World} {v : Value} {xs : List α}
theorem RS (h : d.R e w base ok v xs) [hs : Steps w w'] : d.R e w' base ok v xs := Kd.R_below h hs.below
end
def idxO {α : Type} (p : α → Option Bool) : List α → Int → Option Int
  | [], _ => some (-1)
  | x :: xs, i => (p x).bind fun b => if b = true then some i else idxO p xs (i + 1)
def hasO {α : Type} (p : α → Option Bool) (l : List α) : Option Bool := (idxO p l 0).bind fun i => some (decide (i ≥ 0))
def notO {α : Type} (p : α → Option Bool) (x : α) : Option Bool := (p x).bind fun b => some (!b)
def allO {α : Type} (p : α → Option Bool) (l : List α) : Option Bool := (hasO (notO p) l).bind fun b => some (!b)
structure PredO {α : Type} (P : Program) (g : Nat) (lb : Array Value) (enc : α → Value) (p : α → Option Bool) (w : World) : Prop where
  calls : ∀ (W : World) (x : α) (b : Bool), Below w.heap.size w W → p x = some b → Calls P g (#[enc x] ++ lb) W fun e w' => e = .returned (.bool b) ∧ Below W.heap.size W w'
structure PredR {α : Type} (P : Program) (g : Nat) (rv : Value) (enc : α → Value) (p : α → Option Bool) (w : World) : Prop where
  calls : ∀ (W : World) (x : α) (b : Bool), Below w.heap.size w W → p x = some b → Calls P g #[rv, enc x] W fun e w' => e = .returned (.bool b) ∧ Below W.heap.size W w'
theorem PredR.below {α : Type} {P : Program} {g : Nat} {rv : Value} {enc : α → Value} {p : α → Option Bool} {w w1 : World} (h : PredR P g rv enc p w) (hb : Below w.heap.size w w1) : PredR P g rv enc p w1 :=
  ⟨fun W x b hW hx => h.calls W x b (below_then hb hb.size hW) hx⟩
theorem PredO.below {α : Type} {P : Program} {g : Nat} {lb : Array Value} {enc : α → Value} {p : α → Option Bool} {w w1 : World} (h : PredO P g lb enc p w) (hb : Below w.heap.size w w1) : PredO P g lb enc p w1 :=
  ⟨fun W x b hW hx => h.calls W x b (below_then hb hb.size hW) hx⟩
theorem idxO_step {α : Type} {p : α → Option Bool} {l : List α} {kk : Nat} {i r : Int} (h : idxO p (l.drop kk) i = some r) (hk : kk < l.length) (d : α) : ∃ b, p (l.getD kk d) = some b ∧ (b = true → r = i) ∧ (b = false → idxO p (l.drop (kk + 1)) (i + 1) = some r) := by
  rw [List.drop_eq_getElem_cons hk] at h
  simp only [idxO] at h
  obtain ⟨b, hb, h⟩ := Option.bind_eq_some_iff.mp h
  refine ⟨b, by simpa [List.getD_eq_getElem?_getD, List.getElem?_eq_getElem hk] using hb, fun hbt => ?_, fun hbf => ?_⟩
  · rw [if_pos hbt] at h; injection h with h; exact h.symm
  · rw [if_neg (by simp [hbf])] at h; exact h
theorem idxO_end {α : Type} {p : α → Option Bool} {l : List α} {kk : Nat} {i r : Int} (h : idxO p (l.drop kk) i = some r) (hk : l.length ≤ kk) : r = -1 := by
  rw [List.drop_eq_nil_of_le hk] at h
  simp only [idxO] at h
  injection h with h; exact h.symm
theorem hasO_of {α : Type} {p : α → Option Bool} {l : List α} {b : Bool} (h : hasO p l = some b) : ∃ i, idxO p l 0 = some i ∧ b = decide (i ≥ 0) := by
  obtain ⟨i, hi, h⟩ := Option.bind_eq_some_iff.mp h
  exact ⟨i, hi, (Option.some.inj h).symm⟩
theorem notO_of {α : Type} {p : α → Option Bool} {x : α} {b : Bool} (h : notO p x = some b) : p x = some (!b) := by
  obtain ⟨i, hi, h⟩ := Option.bind_eq_some_iff.mp h
  rw [hi, ← Option.some.inj h, Bool.not_not]
theorem allO_of {α : Type} {p : α → Option Bool} {l : List α} {b : Bool} (h : allO p l = some b) : hasO (notO p) l = some (!b) := by
  obtain ⟨i, hi, h⟩ := Option.bind_eq_some_iff.mp h
  rw [hi, ← Option.some.inj h, Bool.not_not]
theorem idxO_eq {α : Type} {p : α → Option Bool} {q : α → Bool} : ∀ {l : List α} {i : Int}, (∀ x ∈ l, p x = some (q x)) → idxO p l i = some (match l.findIdx? q with | some j => i + j | none => -1)
  | [], i, _ => rfl
  | x :: xs, i, h => by
    have ih := idxO_eq (l := xs) (i := i + 1) (fun y hy => h y (List.mem_cons_of_mem _ hy))
    simp only [idxO, h x List.mem_cons_self, Option.bind_some, List.findIdx?_cons]
    cases hq : q x
    · simp only [Bool.false_eq_true, if_false]
      rw [ih]
      cases xs.findIdx? q with
      | none => rfl
      | some j =>
        show some (i + 1 + (j : Int)) = some (i + ((j + 1 : Nat) : Int))
        rw [Int.natCast_add, Int.add_assoc, Int.add_comm 1 (j : Int)]; rfl
    · simp
theorem hasO_eq {α : Type} {p : α → Option Bool} {q : α → Bool} {l : List α} (h : ∀ x ∈ l, p x = some (q x)) : hasO p l = some (l.any q) := by
  unfold hasO
  rw [idxO_eq h]
  simp only [Option.bind_some, Option.some.injEq]
  cases hf : l.findIdx? q with
  | none =>
    rw [List.findIdx?_eq_none_iff] at hf
    have : l.any q = false := by simp only [List.any_eq_false]; intro x hx; simp [hf x hx]
    rw [this]; rfl
  | some j =>
    have hj := List.findIdx?_eq_some_iff_getElem.mp hf
    obtain ⟨hlt, hq, _⟩ := hj
    have : l.any q = true := List.any_eq_true.mpr ⟨_, List.getElem_mem hlt, hq⟩
    rw [this]; simp
theorem allO_eq {α : Type} {p : α → Option Bool} {q : α → Bool} {l : List α} (h : ∀ x ∈ l, p x = some (q x)) : allO p l = some (l.all q) := by
  unfold allO
  rw [hasO_eq (p := notO p) (q := fun x => !q x) (fun x hx => by unfold notO; rw [h x hx]; rfl)]
  simp [List.not_any_eq_all_not]
theorem isSome_setCell_ (w : World) (p q : Addr) (x : Value) : ((w.setCell p x).cell? q).isSome = (w.cell? q).isSome := by
  by_cases e : p = q
  · subst e
    unfold World.cell? World.setCell
    simp only [Array.getElem?_modify, if_true]
    cases hw : w.heap[p.block]? with
    | none => simp
    | some o =>
      cases o <;> simp
      rename_i c _ _
      cases hs : p.spot.isSome
      · by_cases h : p.off < c.size <;> simp [h]
      · simp
  · rw [World.cell?_setCell_other w p q x e]
section
variable {P : Program} {ops : Array Oper} {Q : Exit → Act → World → Prop}
theorem goesv_ {oi : Oper} {N : Option Tmp} {a : Act} {w : World} {K : Act → World → Prop} {f : FuncId} {fn : Func} {c : Operand} {xas : Array Operand} {ts : Array TypeId} (hf : P.funcs[f]? = some fn) (hname : (fn.name == "runtime.NumGoroutine") = false) (hb : fn.body.isSome = true) (xs bs args : Array Value)
    (hw : Region.wanted oi (yielded ops a.tmps) = true) (hN : oi.dst = N) (hop : oi.op = .call { callee := .value c, args := xas, argTypes := ts }) (hc : a.eval c = .func (.func f) xs bs) (hargs : xs ++ xas.map a.eval ++ bs = args)
    (h : Calls P f args w fun e w' => ∃ v, e = .returned v ∧ K (a.put N v) w') : if Region.wanted oi (yielded ops a.tmps) = true then Oper.wp P oi a w K Q else K (a.put N undef) w := by
  refine call_ f args hw hN ?_ h
  have he := enters_ hf hname hb args w
  unfold execOp
  simp [hop, resolve, Deferred.ofValue, invoke, hc, hargs, he]
end
end Go.Proofs.Ho

namespace Go.Proofs.YtiomfignokichaaGreatDoor.X.Sq
open Go.RowKit Go.Proofs.YtiomfignokichaaGreatDoorW.PrintWords Go.Proofs.YtiomfignokichaaGreatDoorW.PrintLast
abbrev I : Bool := true
abbrev O : Bool := false
theorem Z : (∀ (a : Act) (v : Value), a.put none v = a) ∧ (∀ (a : Act) (n : Tmp) (v : Value), a.put (some n) v = { a with tmps := a.tmps.setIfInBounds n v }) ∧ (∀ (l : List Value) (i : Nat) (x : Value), l.toArray.setIfInBounds i x = (l.set i x).toArray) ∧ (∀ (b : Value) (l : List Value) (x : Value), (b :: l).set 0 x = x :: l) ∧ (∀ (b : Value) (l : List Value) (n : Nat) (x : Value), (b :: l).set (n + 1) x = b :: l.set n x) ∧ (∀ n : Int, IntKind.i64.wrap n = Go.RowKit.wrap64 n) ∧ (∀ n : Int, IntKind.i32.wrap n = Go.RowKit.wrap32 n) :=
  ⟨fun _ _ => rfl, fun _ _ _ => rfl, fun l i x => by simp, fun _ _ _ => rfl, fun _ _ _ _ => rfl, i64_w, i32_w⟩
theorem c2 {w : World} {g t : Nat} {v0 v1 : Value} (h : w.heap[g]? = some (.cells #[v0, v1] t (0, 0))) : w.cell? ⟨g, 0, none⟩ = some v0 ∧ w.cell? ⟨g, 1, none⟩ = some v1 ∧ w.frozen? ⟨g, 0, none⟩ = false ∧ w.frozen? ⟨g, 1, none⟩ = false :=
  ⟨(blk_cell h 0).trans rfl, (blk_cell h 1).trans rfl, blk_frozen h 0, blk_frozen h 1⟩
theorem c3 {w : World} {g t : Nat} {v0 v1 v2 : Value} (h : w.heap[g]? = some (.cells #[v0, v1, v2] t (0, 0))) : w.cell? ⟨g, 0, none⟩ = some v0 ∧ w.cell? ⟨g, 1, none⟩ = some v1 ∧ w.cell? ⟨g, 2, none⟩ = some v2 ∧ w.frozen? ⟨g, 0, none⟩ = false ∧ w.frozen? ⟨g, 1, none⟩ = false ∧ w.frozen? ⟨g, 2, none⟩ = false :=
  ⟨(blk_cell h 0).trans rfl, (blk_cell h 1).trans rfl, (blk_cell h 2).trans rfl, blk_frozen h 0, blk_frozen h 1, blk_frozen h 2⟩
theorem put3 {w : World} {g t : Nat} {v0 v1 v2 o0 o1 o2 : Value} (h : w.heap[g]? = some (.cells #[o0, o1, o2] t (0, 0))) : (((w.setCell ⟨g, 0, none⟩ v0).setCell ⟨g, 1, none⟩ v1).setCell ⟨g, 2, none⟩ v2).heap[g]? = some (.cells #[v0, v1, v2] t (0, 0)) :=
  (blk_put (cs := #[v0, v1, o2]) (blk_put (cs := #[v0, o1, o2]) (blk_put (cs := #[o0, o1, o2]) h 0 v0 rfl) 1 v1 rfl) 2 v2 rfl)
theorem c4 {w : World} {g t : Nat} {v0 v1 v2 v3 : Value} (h : w.heap[g]? = some (.cells #[v0, v1, v2, v3] t (0, 0))) : w.cell? ⟨g, 0, none⟩ = some v0 ∧ w.cell? ⟨g, 1, none⟩ = some v1 ∧ w.cell? ⟨g, 2, none⟩ = some v2 ∧ w.cell? ⟨g, 3, none⟩ = some v3 ∧ w.frozen? ⟨g, 0, none⟩ = false ∧ w.frozen? ⟨g, 1, none⟩ = false ∧ w.frozen? ⟨g, 2, none⟩ = false ∧ w.frozen? ⟨g, 3, none⟩ = false :=
  ⟨(blk_cell h 0).trans rfl, (blk_cell h 1).trans rfl, (blk_cell h 2).trans rfl, (blk_cell h 3).trans rfl, blk_frozen h 0, blk_frozen h 1, blk_frozen h 2, blk_frozen h 3⟩
theorem put4 {w : World} {g t : Nat} {v0 v1 v2 v3 o0 o1 o2 o3 : Value} (h : w.heap[g]? = some (.cells #[o0, o1, o2, o3] t (0, 0))) : ((((w.setCell ⟨g, 0, none⟩ v0).setCell ⟨g, 1, none⟩ v1).setCell ⟨g, 2, none⟩ v2).setCell ⟨g, 3, none⟩ v3).heap[g]? = some (.cells #[v0, v1, v2, v3] t (0, 0)) :=
  (blk_put (cs := #[v0, v1, v2, o3]) (blk_put (cs := #[v0, v1, o2, o3]) (blk_put (cs := #[v0, o1, o2, o3]) (blk_put (cs := #[o0, o1, o2, o3]) h 0 v0 rfl) 1 v1 rfl) 2 v2 rfl) 3 v3 rfl)
theorem c5 {w : World} {g t : Nat} {v0 v1 v2 v3 v4 : Value} (h : w.heap[g]? = some (.cells #[v0, v1, v2, v3, v4] t (0, 0))) : w.cell? ⟨g, 0, none⟩ = some v0 ∧ w.cell? ⟨g, 1, none⟩ = some v1 ∧ w.cell? ⟨g, 2, none⟩ = some v2 ∧ w.cell? ⟨g, 3, none⟩ = some v3 ∧ w.cell? ⟨g, 4, none⟩ = some v4 ∧ w.frozen? ⟨g, 0, none⟩ = false ∧ w.frozen? ⟨g, 1, none⟩ = false ∧ w.frozen? ⟨g, 2, none⟩ = false ∧ w.frozen? ⟨g, 3, none⟩ = false ∧ w.frozen? ⟨g, 4, none⟩ = false :=
  ⟨(blk_cell h 0).trans rfl, (blk_cell h 1).trans rfl, (blk_cell h 2).trans rfl, (blk_cell h 3).trans rfl, (blk_cell h 4).trans rfl, blk_frozen h 0, blk_frozen h 1, blk_frozen h 2, blk_frozen h 3, blk_frozen h 4⟩
theorem put5 {w : World} {g t : Nat} {v0 v1 v2 v3 v4 o0 o1 o2 o3 o4 : Value} (h : w.heap[g]? = some (.cells #[o0, o1, o2, o3, o4] t (0, 0))) : (((((w.setCell ⟨g, 0, none⟩ v0).setCell ⟨g, 1, none⟩ v1).setCell ⟨g, 2, none⟩ v2).setCell ⟨g, 3, none⟩ v3).setCell ⟨g, 4, none⟩ v4).heap[g]? = some (.cells #[v0, v1, v2, v3, v4] t (0, 0)) :=
  (blk_put (cs := #[v0, v1, v2, v3, o4]) (blk_put (cs := #[v0, v1, v2, o3, o4]) (blk_put (cs := #[v0, v1, o2, o3, o4]) (blk_put (cs := #[v0, o1, o2, o3, o4]) (blk_put (cs := #[o0, o1, o2, o3, o4]) h 0 v0 rfl) 1 v1 rfl) 2 v2 rfl) 3 v3 rfl) 4 v4 rfl)
theorem c6 {w : World} {g t : Nat} {v0 v1 v2 v3 v4 v5 : Value} (h : w.heap[g]? = some (.cells #[v0, v1, v2, v3, v4, v5] t (0, 0))) : w.cell? ⟨g, 0, none⟩ = some v0 ∧ w.cell? ⟨g, 1, none⟩ = some v1 ∧ w.cell? ⟨g, 2, none⟩ = some v2 ∧ w.cell? ⟨g, 3, none⟩ = some v3 ∧ w.cell? ⟨g, 4, none⟩ = some v4 ∧ w.cell? ⟨g, 5, none⟩ = some v5 ∧ w.frozen? ⟨g, 0, none⟩ = false ∧ w.frozen? ⟨g, 1, none⟩ = false ∧ w.frozen? ⟨g, 2, none⟩ = false ∧ w.frozen? ⟨g, 3, none⟩ = false ∧ w.frozen? ⟨g, 4, none⟩ = false ∧ w.frozen? ⟨g, 5, none⟩ = false :=
  ⟨(blk_cell h 0).trans rfl, (blk_cell h 1).trans rfl, (blk_cell h 2).trans rfl, (blk_cell h 3).trans rfl, (blk_cell h 4).trans rfl, (blk_cell h 5).trans rfl, blk_frozen h 0, blk_frozen h 1, blk_frozen h 2, blk_frozen h 3, blk_frozen h 4, blk_frozen h 5⟩
theorem c7 {w : World} {g t : Nat} {v0 v1 v2 v3 v4 v5 v6 : Value} (h : w.heap[g]? = some (.cells #[v0, v1, v2, v3, v4, v5, v6] t (0, 0))) : w.cell? ⟨g, 0, none⟩ = some v0 ∧ w.cell? ⟨g, 1, none⟩ = some v1 ∧ w.cell? ⟨g, 2, none⟩ = some v2 ∧ w.cell? ⟨g, 3, none⟩ = some v3 ∧ w.cell? ⟨g, 4, none⟩ = some v4 ∧ w.cell? ⟨g, 5, none⟩ = some v5 ∧ w.cell? ⟨g, 6, none⟩ = some v6 ∧ w.frozen? ⟨g, 0, none⟩ = false ∧ w.frozen? ⟨g, 1, none⟩ = false ∧ w.frozen? ⟨g, 2, none⟩ = false ∧ w.frozen? ⟨g, 3, none⟩ = false ∧ w.frozen? ⟨g, 4, none⟩ = false ∧ w.frozen? ⟨g, 5, none⟩ = false ∧ w.frozen? ⟨g, 6, none⟩ = false :=
  ⟨(blk_cell h 0).trans rfl, (blk_cell h 1).trans rfl, (blk_cell h 2).trans rfl, (blk_cell h 3).trans rfl, (blk_cell h 4).trans rfl, (blk_cell h 5).trans rfl, (blk_cell h 6).trans rfl, blk_frozen h 0, blk_frozen h 1, blk_frozen h 2, blk_frozen h 3, blk_frozen h 4, blk_frozen h 5, blk_frozen h 6⟩
theorem c8 {w : World} {g t : Nat} {v0 v1 v2 v3 v4 v5 v6 v7 : Value} (h : w.heap[g]? = some (.cells #[v0, v1, v2, v3, v4, v5, v6, v7] t (0, 0))) : w.cell? ⟨g, 0, none⟩ = some v0 ∧ w.cell? ⟨g, 1, none⟩ = some v1 ∧ w.cell? ⟨g, 2, none⟩ = some v2 ∧ w.cell? ⟨g, 3, none⟩ = some v3 ∧ w.cell? ⟨g, 4, none⟩ = some v4 ∧ w.cell? ⟨g, 5, none⟩ = some v5 ∧ w.cell? ⟨g, 6, none⟩ = some v6 ∧ w.cell? ⟨g, 7, none⟩ = some v7 ∧ w.frozen? ⟨g, 0, none⟩ = false ∧ w.frozen? ⟨g, 1, none⟩ = false ∧ w.frozen? ⟨g, 2, none⟩ = false ∧ w.frozen? ⟨g, 3, none⟩ = false ∧ w.frozen? ⟨g, 4, none⟩ = false ∧ w.frozen? ⟨g, 5, none⟩ = false ∧ w.frozen? ⟨g, 6, none⟩ = false ∧ w.frozen? ⟨g, 7, none⟩ = false :=
  ⟨(blk_cell h 0).trans rfl, (blk_cell h 1).trans rfl, (blk_cell h 2).trans rfl, (blk_cell h 3).trans rfl, (blk_cell h 4).trans rfl, (blk_cell h 5).trans rfl, (blk_cell h 6).trans rfl, (blk_cell h 7).trans rfl, blk_frozen h 0, blk_frozen h 1, blk_frozen h 2, blk_frozen h 3, blk_frozen h 4, blk_frozen h 5, blk_frozen h 6, blk_frozen h 7⟩
theorem cB {w w' : World} {a : Addr} {v : Value} (hB : Below w.heap.size w w') (h : w.cell? a = some v) : w'.cell? a = some v := (hB.cell (World.block_lt_of_cell? w _ h)).trans h
end Go.Proofs.YtiomfignokichaaGreatDoor.X.Sq

namespace Go.Proofs.Mx
open Go.RowKit Go.Proofs.Ho Go.Proofs.YtiomfignokichaaGreatDoorW.PrintWords Go.Proofs.YtiomfignokichaaGreatDoorW.PrintLast Go.Proofs.YtiomfignokichaaGreatDoorW.PrintMore Go.Proofs.YtiomfignokichaaGreatDoor.X.Sq
set_option linter.unusedVariables false
set_option linter.unusedSimpArgs false
section
variable {w W w0 w2 : World} {g g1 : Nat} {o : Obj}
theorem kT (h : Aside0 (w0.heap[g]? = some o)) (hb : Below W.heap.size W w2) [hs : Ho.Steps w0 W] : Aside0 (w2.heap[g]? = some o) := ⟨blk_below (bS h.out) hb⟩
theorem bT (h : Aside0 (Below w.heap.size w w0)) (hb : Below W.heap.size W w2) [hs : Ho.Steps w0 W] : Aside0 (Below w.heap.size w w2) := ⟨below_step (eS h.out) hb⟩
theorem gW (h : Aside0 (Below w.heap.size w w0)) (hg : g = W.heap.size) [hs : Ho.Steps w0 W] : Aside0 (w.heap.size ≤ g) := ⟨by rw [hg]; exact below_size (eS h.out)⟩
theorem nL (h : Aside0 (w0.heap[g1]? = some o)) (hg : g = W.heap.size) [hs : Ho.Steps w0 W] : Aside0 (g1 ≠ g) := ⟨by rw [hg]; exact Nat.ne_of_lt (blk_lt (bS h.out))⟩
theorem nG (h : Aside0 (w0.heap[g1]? = some o)) (hg : g = W.heap.size) [hs : Ho.Steps w0 W] : Aside0 (g ≠ g1) := ⟨by rw [hg]; exact Nat.ne_of_gt (blk_lt (bS h.out))⟩
theorem nB (h : Aside0 (w0.heap[g1]? = some o)) (hg : g = W.heap.size) [hs : Ho.Steps w0 W] : Aside0 (g1 ≠ g) ∧ Aside0 (g ≠ g1) := ⟨nL h hg, nG h hg⟩
theorem nP {a b : Nat} (h : Aside0 (a ≠ b)) : a ≠ b ∧ b ≠ a := ⟨h.out, h.out.symm⟩
theorem ks (h : Aside0 (w0.heap[g]? = some o)) [hs : Ho.Steps w0 W] : W.heap[g]? = some o := bS h.out
theorem es (h : Aside0 (Below w.heap.size w w0)) [hs : Ho.Steps w0 W] : Below w.heap.size w W := eS h.out
theorem cb {a : Addr} {v : Value} (h : Aside0 (Below w.heap.size w w0)) (hc : w.cell? a = some v) [hs : Ho.Steps w0 W] : W.cell? a = some v := Go.Proofs.YtiomfignokichaaGreatDoor.X.Sq.cB (eS h.out) hc
theorem kD (h : Aside0 (w.heap[g]? = some o)) : Aside0 (w.drew.heap[g]? = some o) := h
theorem bD (h : Aside0 (Below w.heap.size w w0)) : Aside0 (Below w.heap.size w w0.drew) := ⟨below_drew1 h.out⟩
end
section
variable {α : Type} {d : Kd α} {e base g : Nat} {ok ok' : Nat → Prop} {w W w0 w2 : World} {v : Value} {xs : List α}
theorem rT (h : Aside0 (d.R e w0 base ok v xs)) (hb : Below W.heap.size W w2) [hs : Ho.Steps w0 W] : Aside0 (d.R e w2 base ok v xs) := ⟨Kd.R_below (RS h.out) hb⟩
theorem rE (h : Aside0 (d.R e w0 base ok v xs)) (hg : g = W.heap.size) (hb : Below W.heap.size W w2) [hs : Ho.Steps w0 W] : Aside0 (d.R e w2 base (fun k => ok k ∧ k ≠ g) v xs) := ⟨Kd.R_below (Kd.R_elderB (RS h.out) g (Nat.le_of_eq hg.symm)) hb⟩
theorem rs (h : Aside0 (d.R e w0 base ok v xs)) [hs : Ho.Steps w0 W] : d.R e W base ok v xs := RS h.out
theorem Cs {A : Option Addr} {n : Nat} (h : d.C w A n xs) [hs : Ho.Steps w w2] : d.C w2 A n xs := Kd.C_below h hs.below
theorem rD (h : Aside0 (d.R e w base ok v xs)) : Aside0 (d.R e w.drew base ok v xs) := ⟨Kd.R_drew h.out⟩
end
section
variable {w W w0 w1 w2 : World} {g g1 : Nat} {o : Obj}
theorem kK (h : Aside0 (w0.heap[g1]? = some o)) (hk : KeepBut W w2 g none) (hn : Aside0 (g1 ≠ g)) [hs : Ho.Steps w0 W] : Aside0 (w2.heap[g1]? = some o) := ⟨KeepBut.blk hk (bS h.out) hn.out (by simp)⟩
theorem hT (h : Aside0 (KeepBut w w0 g none)) (hb : Below W.heap.size W w2) [hs : Ho.Steps w0 W] : Aside0 (KeepBut w w2 g none) := ⟨KeepBut.trans (Ho.kS h.out) (KeepBut.of_below hb g none) (.inl rfl)⟩
theorem hU (h : Aside0 (KeepBut w w0 g none)) (hk : KeepBut W w2 g none) [hs : Ho.Steps w0 W] : Aside0 (KeepBut w w2 g none) := ⟨KeepBut.trans (Ho.kS h.out) hk (.inl rfl)⟩
theorem hD (h : Aside0 (KeepBut w w0 g none)) : Aside0 (KeepBut w w0.drew g none) := ⟨keep_drew h.out⟩
theorem hG (h : Aside0 (KeepBut w w0 g none)) (hg : g1 = W.heap.size) [hs : Ho.Steps w0 W] : Aside0 (w.heap.size ≤ g1) := ⟨by rw [hg]; exact keep_size (w := w) (g := g) (row := none) (Ho.kS h.out)⟩
theorem lw {α : Type} {d : Kd α} {e : Nat} {ok : Nat → Prop} {v : Value} {xs : List α} (h : Aside0 (Below w.heap.size w w0)) (ho : d.R e w2 W.heap.size ok v xs) [hs : Ho.Steps w0 W] : Aside0 (d.R e w2 w.heap.size ok v xs) := ⟨Kd.R_lower ho (below_size (eS h.out))⟩
theorem el {α β : Type} {d : Kd α} {d' : Kd β} {e e' base : Nat} {ok ok' : Nat → Prop} {v u : Value} {xs : List α} {ys : List β} (h : Aside0 (d.R e w0 base ok v xs)) (ho : d'.R e' w2 W.heap.size ok' u ys) (hb : Below W.heap.size W w2) [hs : Ho.Steps w0 W] : Aside0 (d.R e w2 base (fun k => ok k ∧ some k ≠ u.ownBlock) v xs) := ⟨Kd.R_elder' (RS h.out) (Kd.R_base ho) hb⟩
end
theorem Ak {p : Prop} (h : p) : Aside0 p := ⟨h⟩
theorem bc {w : World} {g t : Nat} {cs : Array Value} (h : Aside0 (w.heap[g]? = some (.cells cs t (0, 0)))) (i : Nat) {v : Value} (e : cs[i]? = some v := by rfl) : w.cell? ⟨g, i, none⟩ = some v := (blk_cell h.out i).trans e
theorem cf1 {w : World} {g : Nat} {q : Addr} {x : Option Value} {i0 : Nat} {u0 : Value} (hn : q.block ≠ g) (h : w.cell? q = x) : (w.setCell ⟨g, i0, none⟩ u0).cell? q = x := (cell_far hn u0).trans (h)
theorem rF3 {α : Type} {d : Kd α} {e base g : Nat} {ok : Nat → Prop} {w : World} {v : Value} {xs : List α} {i0 : Nat} {i1 : Nat} {i2 : Nat} {u0 u1 u2 : Value} (h : d.R e w base ok v xs) (hok : ∀ k, ok k → k ≠ g) : d.R e (((w.setCell ⟨g, i0, none⟩ u0).setCell ⟨g, i1, none⟩ u1).setCell ⟨g, i2, none⟩ u2) base ok v xs := (Kd.R_far (p := ⟨g, i2, none⟩) (Kd.R_far (p := ⟨g, i1, none⟩) (Kd.R_far (p := ⟨g, i0, none⟩) h hok u0) hok u1) hok u2)
theorem rY3 {α : Type} {d : Kd α} {e base g t : Nat} {cs : Array Value} {ok ok' : Nat → Prop} {w : World} {v : Value} {xs : List α} {i0 : Nat} {i1 : Nat} {i2 : Nat} {u0 u1 u2 : Value} (h : Aside0 (d.R e w base ok v xs)) (hb : Aside0 (w.heap[g]? = some (.cells cs t (0, 0)))) (hok : ∀ k, ok k ∧ k ≠ g → ok' k) (ht : ∀ q, q ∈ e :: d.E → q ≠ t := by decide) : d.R e (((w.setCell ⟨g, i0, none⟩ u0).setCell ⟨g, i1, none⟩ u1).setCell ⟨g, i2, none⟩ u2) base ok' v xs := Kd.R_mono (rF3 (Kd.R_types h.out hb.out ht) (fun _ hk => hk.2)) hok
theorem cf3 {w : World} {g : Nat} {q : Addr} {x : Option Value} {i0 : Nat} {i1 : Nat} {i2 : Nat} {u0 u1 u2 : Value} (hn : q.block ≠ g) (h : w.cell? q = x) : (((w.setCell ⟨g, i0, none⟩ u0).setCell ⟨g, i1, none⟩ u1).setCell ⟨g, i2, none⟩ u2).cell? q = x := (cell_far hn u2).trans ((cell_far hn u1).trans ((cell_far hn u0).trans (h)))
theorem rF5 {α : Type} {d : Kd α} {e base g : Nat} {ok : Nat → Prop} {w : World} {v : Value} {xs : List α} {i0 : Nat} {i1 : Nat} {i2 : Nat} {i3 : Nat} {i4 : Nat} {u0 u1 u2 u3 u4 : Value} (h : d.R e w base ok v xs) (hok : ∀ k, ok k → k ≠ g) : d.R e (((((w.setCell ⟨g, i0, none⟩ u0).setCell ⟨g, i1, none⟩ u1).setCell ⟨g, i2, none⟩ u2).setCell ⟨g, i3, none⟩ u3).setCell ⟨g, i4, none⟩ u4) base ok v xs := (Kd.R_far (p := ⟨g, i4, none⟩) (Kd.R_far (p := ⟨g, i3, none⟩) (Kd.R_far (p := ⟨g, i2, none⟩) (Kd.R_far (p := ⟨g, i1, none⟩) (Kd.R_far (p := ⟨g, i0, none⟩) h hok u0) hok u1) hok u2) hok u3) hok u4)
theorem rY5 {α : Type} {d : Kd α} {e base g t : Nat} {cs : Array Value} {ok ok' : Nat → Prop} {w : World} {v : Value} {xs : List α} {i0 : Nat} {i1 : Nat} {i2 : Nat} {i3 : Nat} {i4 : Nat} {u0 u1 u2 u3 u4 : Value} (h : Aside0 (d.R e w base ok v xs)) (hb : Aside0 (w.heap[g]? = some (.cells cs t (0, 0)))) (hok : ∀ k, ok k ∧ k ≠ g → ok' k) (ht : ∀ q, q ∈ e :: d.E → q ≠ t := by decide) : d.R e (((((w.setCell ⟨g, i0, none⟩ u0).setCell ⟨g, i1, none⟩ u1).setCell ⟨g, i2, none⟩ u2).setCell ⟨g, i3, none⟩ u3).setCell ⟨g, i4, none⟩ u4) base ok' v xs := Kd.R_mono (rF5 (Kd.R_types h.out hb.out ht) (fun _ hk => hk.2)) hok
theorem cf5 {w : World} {g : Nat} {q : Addr} {x : Option Value} {i0 : Nat} {i1 : Nat} {i2 : Nat} {i3 : Nat} {i4 : Nat} {u0 u1 u2 u3 u4 : Value} (hn : q.block ≠ g) (h : w.cell? q = x) : (((((w.setCell ⟨g, i0, none⟩ u0).setCell ⟨g, i1, none⟩ u1).setCell ⟨g, i2, none⟩ u2).setCell ⟨g, i3, none⟩ u3).setCell ⟨g, i4, none⟩ u4).cell? q = x := (cell_far hn u4).trans ((cell_far hn u3).trans ((cell_far hn u2).trans ((cell_far hn u1).trans ((cell_far hn u0).trans (h)))))
structure Ch (g : Nat) (w0 w1 : World) : Prop where
  os : w1.os = w0.os
  tape : w1.tape = w0.tape
  output : w1.output = w0.output
  size : w0.heap.size = w1.heap.size
  block : ∀ i, i ≠ g → w1.heap[i]? = w0.heap[i]?
theorem Ch.refl (g : Nat) (w : World) : Ch g w w := ⟨rfl, rfl, rfl, rfl, fun _ _ => rfl⟩
theorem Ch.set {g i : Nat} {u : Value} {w0 w1 : World} (h : Ch g w0 w1) : Ch g w0 (w1.setCell ⟨g, i, none⟩ u) :=
  ⟨h.os, h.tape, h.output, h.size.trans (by simp [World.setCell]), fun j hj => (Below.heap_setCell w1 ⟨g, i, none⟩ u j hj).trans (h.block j hj)⟩
section
variable {w w0 w1 : World} {g g1 : Nat} {o : Obj}
theorem cB_ (h : Aside0 (Below w.heap.size w w0)) (hK : Ch g w0 w1) (hg : Aside0 (w.heap.size ≤ g)) : Aside0 (Below w.heap.size w w1) :=
  ⟨⟨hK.os.trans h.out.os, hK.tape.trans h.out.tape, hK.output.trans h.out.output, by rw [← hK.size]; exact h.out.size, fun i hi => (hK.block i (by have := hg.out; omega)).trans (h.out.block i hi)⟩⟩
theorem cK (h : Aside0 (w0.heap[g1]? = some o)) (hK : Ch g w0 w1) (hn : Aside0 (g1 ≠ g)) : Aside0 (w1.heap[g1]? = some o) := ⟨(hK.block g1 hn.out).trans h.out⟩
theorem cR {α : Type} {d : Kd α} {e base t : Nat} {cs : Array Value} {ok ok' : Nat → Prop} {v : Value} {xs : List α} (h : Aside0 (d.R e w0 base ok v xs)) (hb : Aside0 (w0.heap[g]? = some (.cells cs t (0, 0)))) (hK : Ch g w0 w1) (hok : ∀ k, ok k ∧ k ≠ g → ok' k) (ht : ∀ q, q ∈ e :: d.E → q ≠ t := by decide) : Aside0 (d.R e w1 base ok' v xs) :=
  ⟨Kd.R_mono (Kd.R_step (Kd.R_types h.out hb.out ht) (fun k hk _ => hK.block k hk.2)) hok⟩
theorem cr {α : Type} {d : Kd α} {e base t : Nat} {cs : Array Value} {ok : Nat → Prop} {v : Value} {xs : List α} (h : Aside0 (d.R e w0 base ok v xs)) (hb : Aside0 (w0.heap[g]? = some (.cells cs t (0, 0)))) (hK : Ch g w0 w1) (ht : ∀ q, q ∈ e :: d.E → q ≠ t := by decide) : Aside0 (d.R e w1 base ok v xs) := cR h hb hK (fun _ h => h.1) ht
theorem cQ {α : Type} {d : Kd α} {e base : Nat} {ok okm ok' : Nat → Prop} {v : Value} {xs : List α} (h : Aside0 (d.R e w0 base ok v xs)) (h0 : ∀ k, ok k → okm k ∧ k ≠ g) (hK : Ch g w0 w1) (hok : ∀ k, okm k ∧ k ≠ g → ok' k) : Aside0 (d.R e w1 base ok' v xs) :=
  ⟨Kd.R_mono (Kd.R_step h.out (fun k hk _ => hK.block k (h0 k hk).2)) (fun k hk => hok k (h0 k hk))⟩
end
theorem gn {P : Program} {Q : Exit → Act → World → Prop} {c : Code} {a : Act} {W : World} (g : Nat) (w0 : World) (o : Obj) (h : W.heap[g]? = some o) (k : ∀ w1, Ch g w0 w1 → Aside0 (w1.heap[g]? = some o) → c.wp P Q a w1)
    (hK : Ch g w0 W := by (repeat refine Ch.set ?_); exact Ch.refl _ _) : c.wp P Q a W := k W hK ⟨h⟩
theorem gl {P : Program} {ops : Array Oper} {rest : List Oper} {Q : Exit → Act → World → Prop} {a : Act} {W : World} (g : Nat) (w0 : World) (o : Obj) (h : W.heap[g]? = some o) (k : ∀ w1, Ch g w0 w1 → Aside0 (w1.heap[g]? = some o) → wpList P ops Q rest a w1)
    (hK : Ch g w0 W := by (repeat refine Ch.set ?_); exact Ch.refl _ _) : wpList P ops Q rest a W := k W hK ⟨h⟩
def Bt (n m : Nat) : Array Bool := ((List.range n).map fun i => m.testBit i).toArray
theorem Ey {p : Prop} (h : p := by first | rfl | (simp; done) | (simp [*]; done)) : p := h
theorem fr3 {w W : World} {g : Nat} {a : Addr} {v : Value} (hB : Aside0 (Below w.heap.size w W)) (hG : Aside0 (w.heap.size ≤ g)) (hc : w.cell? a = some v) : W.cell? a = some v ∧ (∀ (i0 i1 i2 : Nat) (u0 u1 u2 : Value), (((W.setCell ⟨g, i0, none⟩ u0).setCell ⟨g, i1, none⟩ u1).setCell ⟨g, i2, none⟩ u2).cell? a = some v) ∧ ∀ (n i0 i1 i2 : Nat) (u0 u1 u2 : Value), ((((W.drewN n).setCell ⟨g, i0, none⟩ u0).setCell ⟨g, i1, none⟩ u1).setCell ⟨g, i2, none⟩ u2).cell? a = some v :=
  have hn : a.block ≠ g := Nat.ne_of_lt (Nat.lt_of_lt_of_le (World.block_lt_of_cell? w a hc) hG.out)
  have h := Go.Proofs.YtiomfignokichaaGreatDoor.X.Sq.cB hB.out hc
  ⟨h, fun _ _ _ _ _ _ => cf3 hn h, fun n _ _ _ _ _ _ => cf3 hn (show (W.drewN n).cell? a = some v from h)⟩
section
variable {P : Program} {ops : Array Oper} {Q : Exit → Act → World → Prop} {md : Region.Mode} {S : World → Prop} {ds : List Nat} {T : Bool × List (List Nat × List Nat)} {B : List Nat}
theorem Pu (i : Nat) {N n m : Nat} {fuel : Nat} {a : Act} {w : World} {oi : Oper} {v : Value} {a' : Act} (h : wpAnyLast P md ops Q S ds fuel (Bt n (m + 2 ^ i)) a' w)
    (HT : Aside0 (rtab md ops = T) := by exact HT_) (hi : ops[i]? = some oi := by rfl) (hN : oi.dst = some N := by rfl) (hc : anyT T (Bt n m).toList (Bt n (m + 2 ^ i)).toList i = true := by kernel_rfl)
    (hQ : ∀ c a w, Q (.panic c) (a.put oi.dst v) w → Q (.panic c) a w := by exact fun _ _ _ h => h)
    (hy : Yields P ops oi v a := by exact Or.inl ⟨by rfl, by intro w'; go_simp; with_reducible rfl⟩)
    (ha : a.put (some N) v = a' := by simp only [Z]; rfl) : wpAnyLast P md ops Q S ds (fuel + 1) (Bt n m) a w := pure_ _ hi hN (any_of HT.out hc) hQ hy ha h
theorem Pn (i : Nat) {N n m : Nat} {fuel : Nat} {a : Act} {w : World} {oi : Oper} {a' : Act} (h : wpAnyLast P md ops Q S ds fuel (Bt n (m + 2 ^ i)) a' w)
    (HT : Aside0 (rtab md ops = T) := by exact HT_) (hi : ops[i]? = some oi := by rfl) (hN : oi.dst = some N := by rfl) (hc : anyT T (Bt n m).toList (Bt n (m + 2 ^ i)).toList i = true := by kernel_rfl)
    (hQ : ∀ c a w, Q (.panic c) (a.put oi.dst undef) w → Q (.panic c) a w := by exact fun _ _ _ h => h)
    (hy : Yields P ops oi undef a := by exact Or.inr ⟨by rfl, rfl⟩)
    (ha : a.put (some N) undef = a' := by simp only [Z]; rfl) : wpAnyLast P md ops Q S ds (fuel + 1) (Bt n m) a w := pure_ _ hi hN (any_of HT.out hc) hQ hy ha h
theorem Ta {w : World} (i : Nat) {N n m : Nat} {fuel : Nat} {a : Act} {oi : Oper} {v : Value} {a' : Act} (h : wpAnyLast P md ops Q S ds fuel (Bt n (m + 2 ^ i)) a' w)
    (HT : Aside0 (rtab md ops = T) := by exact HT_) (HW : Aside0 (waitsOk T.2 B = true) := by exact HW_) (hS : S w := by exact hHeld) (hi : ops[i]? = some oi := by rfl) (hN : oi.dst = some N := by rfl) (hc : takeW T B ds (Bt n m).toList (Bt n (m + 2 ^ i)).toList i = true := by kernel_rfl)
    (hQ : ∀ c a w, Q (.panic c) (a.put oi.dst v) w → Q (.panic c) a w := by exact fun _ _ _ h => h)
    (hy : YieldsIf P ops S oi v a := by exact Or.inl ⟨by rfl, by rintro w' ⟨s0, s1⟩; go_simp; with_reducible rfl⟩)
    (ha : a.put (some N) v = a' := by simp only [Z]; rfl) : wpAnyLast P md ops Q S ds (fuel + 1) (Bt n m) a w := take_ _ hi hN (take_ofW HT.out HW.out hc) hQ hy hS ha h
theorem oN (i : Nat) {N : Option Nat} {n m fuel : Nat} {a : Act} {w : World} {oi : Oper}
    (h : ∀ K : Act → World → Prop, Shut (∀ a' w', S w' → (S w' → wpAnyLast P md ops Q S ds fuel (Bt n (m + 2 ^ i)) a' w') → K a' w') → if Region.wanted oi (yielded ops a.tmps) = true then Oper.wp P oi a w K Q else K (a.put N undef) w)
    (HT : Aside0 (rtab md ops = T) := by exact HT_) (hi : ops[i]? = some oi := by rfl) (hN : oi.dst = N := by rfl) (hc : (readyT T.2 (Bt n m).toList == [i] && (Bt n m).toList.set i true == (Bt n (m + 2 ^ i)).toList) = true := by kernel_rfl) (hd : i ∉ ds := by decide) : wpAnyLast P md ops Q S ds (fuel + 1) (Bt n m) a w := one_ _ hi hN (one_of HT.out hc) hd h
theorem nO (N : Nat) {fuel : Nat} {l : Array Bool} {a a' : Act} {v : Value} {w : World} (h : wpAnyLast P md ops Q S ds fuel l a' w) (ha : Act.put a (some N) v = a' := by simp only [Z]; rfl) : wpAnyLast P md ops Q S ds fuel l (Act.put a (some N) v) w := norm_ ha h
theorem nQ {fuel : Nat} {l : Array Bool} {a a' : Act} {w : World} (h : wpAnyLast P md ops Q S ds fuel l a' w) (ha : a = a' := by simp only [putAll, Act.put, List.setIfInBounds_toArray, List.set_cons_zero, List.set_cons_succ]; rfl) : wpAnyLast P md ops Q S ds fuel l a w := norm_ ha h
theorem gO {oi : Oper} {N : Option Tmp} {a : Act} {w : World} {K : Act → World → Prop} {f : FuncId} {fn : Func} (hf : P.funcs[f]? = some fn) (args : Array Value) (h : Calls P f args w fun e w' => ∃ v, e = .returned v ∧ K (a.put N v) w') {xs_ : Array Operand} {ts : Array TypeId}
    (hname : (fn.name == "runtime.NumGoroutine") = false := by kernel_rfl) (hb : fn.body.isSome = true := by rfl)
    (hw : Region.wanted oi (yielded ops a.tmps) = true := by rfl) (hN : oi.dst = N := by rfl) (hop : oi.op = .call { callee := .value (.func f), args := xs_, argTypes := ts } := by rfl)
    (hargs : xs_.map a.eval = args := by (try simp only [List.map_toArray, List.map_cons, List.map_nil]); first | done | rfl | (simp only [List.length_drop, List.length_take]; rfl)) : if Region.wanted oi (yielded ops a.tmps) = true then Oper.wp P oi a w K Q else K (a.put N undef) w :=
  goes_ hf hname hb args hw hN hop hargs h
theorem sK {oi : Oper} {a : Act} {w w1 : World} {K : Act → World → Prop} (h : K a w1) (hw : Region.wanted oi (yielded ops a.tmps) = true := by rfl) (hN : oi.dst = none := by rfl) (hrun : (execOp a.eval oi).run P w = .ok .skip w1 := by go_simp; rfl) : if Region.wanted oi (yielded ops a.tmps) = true then Oper.wp P oi a w K Q else K (a.put none undef) w := skip_ hw hN hrun h
theorem bX {o : Oper} {a : Act} {W : World} {Kc : Act → World → Prop} (N : Nat) (t : TypeId) (cs : Array Value)
    (h : ∀ g, g = W.heap.size → ∀ w1, Aside0 (w1.heap[g]? = some (.cells cs t (0, 0))) → Below W.heap.size W w1 → Kc (a.put o.dst (.pointer (some ⟨g, 0, none⟩))) w1)
    (hd : o.dst = some N := by rfl) (hw : Region.wanted o (yielded ops a.tmps) = true := by rfl)
    (hrun : (execOp a.eval o).run P W = .ok (.value (.pointer (some ⟨W.heap.size, 0, none⟩))) (W.alloc (.cells cs t (0, 0))) := by first | (go_simp; done) | (go_simp; rfl)) : if Region.wanted o (yielded ops a.tmps) = true then Oper.wp P o a W Kc Q else Kc (a.put o.dst undef) W := box_step hw hd hrun (fun g hg w1 hb => h g hg w1 ⟨hb⟩)
theorem sT {id : Nat} {a : Act} {w : World} (n : Nat) (S : World → Prop) (ds : List Nat) (hT : rtab .any ops = T) (hB : waitsOk T.2 B = true) (hS : S w.drew)
    (h : S w.drew → Aside0 (rtab .any ops = T) → Aside0 (waitsOk T.2 B = true) → wpAnyLast P .any ops Q S ds n (Bt n 0) a w.drew)
    (hm : P.follows .mixedOrders = true := by kernel_rfl) (hn : ops.size = n := by rfl) (hl : Array.replicate n false = Bt n 0 := by rfl) : (Code.region id ops true).wp P Q a w := start_ _ hm hn hl hS (fun hh => h hh ⟨hT⟩ ⟨hB⟩)
theorem dO {l : Array Bool} {a : Act} {w : World} {n : Nat} (h : Q .normal a w) (HT : Aside0 (rtab md ops = T) := by exact HT_) (hc : (readyT T.2 l.toList == []) = true := by kernel_rfl) : wpAnyLast P md ops Q S ds n l a w := done_ (done_of HT.out hc) h
theorem tw (i j : Nat) {Ni Nj : Option Nat} {n m fuel : Nat} {a : Act} {w : World} {oi oj : Oper}
    (h1 : ∀ K : Act → World → Prop, Shut (∀ a' w', S w' → (S w' → wpAnyLast P md ops Q S ds fuel (Bt n (m + 2 ^ i)) a' w') → K a' w') → if Region.wanted oi (yielded ops a.tmps) = true then Oper.wp P oi a w K Q else K (a.put Ni undef) w)
    (h2 : ∀ K : Act → World → Prop, Shut (∀ a' w', S w' → (S w' → wpAnyLast P md ops Q S ds fuel (Bt n (m + 2 ^ j)) a' w') → K a' w') → if Region.wanted oj (yielded ops a.tmps) = true then Oper.wp P oj a w K Q else K (a.put Nj undef) w)
    (HT : Aside0 (rtab md ops = T) := by exact HT_) (hi : ops[i]? = some oi := by rfl) (hj : ops[j]? = some oj := by rfl) (hNi : oi.dst = Ni := by rfl) (hNj : oj.dst = Nj := by rfl)
    (hc : (readyT T.2 (Bt n m).toList == [i, j] && (Bt n m).toList.set i true == (Bt n (m + 2 ^ i)).toList && (Bt n m).toList.set j true == (Bt n (m + 2 ^ j)).toList) = true := by kernel_rfl) (hdi : i ∉ ds := by decide) (hdj : j ∉ ds := by decide) : wpAnyLast P md ops Q S ds (fuel + 1) (Bt n m) a w := two_ _ _ hi hj hNi hNj (two_of HT.out hc) hdi hdj h1 h2
theorem th (i j k : Nat) {Ni Nj Nk : Option Nat} {n m fuel : Nat} {a : Act} {w : World} {oi oj ok : Oper}
    (h1 : ∀ K : Act → World → Prop, Shut (∀ a' w', S w' → (S w' → wpAnyLast P md ops Q S ds fuel (Bt n (m + 2 ^ i)) a' w') → K a' w') → if Region.wanted oi (yielded ops a.tmps) = true then Oper.wp P oi a w K Q else K (a.put Ni undef) w)
    (h2 : ∀ K : Act → World → Prop, Shut (∀ a' w', S w' → (S w' → wpAnyLast P md ops Q S ds fuel (Bt n (m + 2 ^ j)) a' w') → K a' w') → if Region.wanted oj (yielded ops a.tmps) = true then Oper.wp P oj a w K Q else K (a.put Nj undef) w)
    (h3 : ∀ K : Act → World → Prop, Shut (∀ a' w', S w' → (S w' → wpAnyLast P md ops Q S ds fuel (Bt n (m + 2 ^ k)) a' w') → K a' w') → if Region.wanted ok (yielded ops a.tmps) = true then Oper.wp P ok a w K Q else K (a.put Nk undef) w)
    (HT : Aside0 (rtab md ops = T) := by exact HT_) (hi : ops[i]? = some oi := by rfl) (hj : ops[j]? = some oj := by rfl) (hk : ops[k]? = some ok := by rfl) (hNi : oi.dst = Ni := by rfl) (hNj : oj.dst = Nj := by rfl) (hNk : ok.dst = Nk := by rfl)
    (hc : (readyT T.2 (Bt n m).toList == [i, j, k] && (Bt n m).toList.set i true == (Bt n (m + 2 ^ i)).toList && (Bt n m).toList.set j true == (Bt n (m + 2 ^ j)).toList && (Bt n m).toList.set k true == (Bt n (m + 2 ^ k)).toList) = true := by kernel_rfl) (hdi : i ∉ ds := by decide) (hdj : j ∉ ds := by decide) (hdk : k ∉ ds := by decide) : wpAnyLast P md ops Q S ds (fuel + 1) (Bt n m) a w := three_ _ _ _ hi hj hk hNi hNj hNk (three_of HT.out hc) hdi hdj hdk h1 h2 h3
end
section
variable {P : Program} {ops : Array Oper} {rest : List Oper} {o : Oper} {a : Act} {Q : Exit → Act → World → Prop}
theorem bE {W : World} (N : Nat) (t : TypeId) (cs : Array Value)
    (h : ∀ g, g = W.heap.size → ∀ w1, Aside0 (w1.heap[g]? = some (.cells cs t (0, 0))) → Below W.heap.size W w1 → wpList P ops Q rest (a.put o.dst (.pointer (some ⟨g, 0, none⟩))) w1)
    (hd : o.dst = some N := by with_reducible rfl) (hg : o.guard = none := by rfl)
    (hrun : (execOp a.eval o).run P W = .ok (.value (.pointer (some ⟨W.heap.size, 0, none⟩))) (W.alloc (.cells cs t (0, 0))) := by first | (go_simp; done) | (go_simp; rfl)) : wpList P ops Q (o :: rest) a W := box_event hg hd hrun (fun g hg w1 hb => h g hg w1 ⟨hb⟩)
theorem cE {oi : Oper} {w : World} {f : FuncId} {fn : Func} (N : Option Nat) (hf : P.funcs[f]? = some fn) (args : Array Value) (h : Calls P f args w fun e w' => ∃ v, e = .returned v ∧ wpList P ops Q rest (a.put N v) w') {xs_ : Array Operand} {ts : Array TypeId}
    (hop : oi.op = .call { callee := .value (.func f), args := xs_, argTypes := ts } := by with_reducible rfl)
    (hd : oi.dst = N := by rfl) (hg : oi.guard = none := by rfl) (hname : (fn.name == "runtime.NumGoroutine") = false := by kernel_rfl) (hb : fn.body.isSome = true := by rfl)
    (hargs : xs_.map a.eval = args := by (try simp only [List.map_toArray, List.map_cons, List.map_nil]); first | done | rfl | (simp only [List.length_drop, List.length_take]; rfl)) : wpList P ops Q (oi :: rest) a w := goesL_ N hd hg hf hname hb args hop hargs h
end
theorem Fq {p : Prop} (h : Aside0 p := by (with_reducible assumption)) : p := h.out
theorem Kz {p : Prop} (h : p := by repeat (first | (with_reducible first | refine blk_drewN ?_ _ | refine blk_drew ?_ | refine blk_alloc ?_ _ | refine blk_far ?_ Fq _) | exact bS (Aside0.out (by with_reducible assumption)))) : p := h
theorem Dz {p : Prop} [Decidable p] (h : decide p = true := by first | (with_reducible assumption) | assumption) : p := of_decide_eq_true h
theorem Rz {p : Prop} (h : p := by repeat (first | exact Reps.none _ _ | refine Reps.one (show Kd.M (Kd.int .i64) _ _ _ _ [_] from rfl) ?_)) : p := h
theorem Ny {p : Prop} (h : p := by first | (simp only [putAll, Act.put, List.setIfInBounds_toArray, List.set_cons_zero, List.set_cons_succ]; done) | (simp only [putAll, Act.put, List.setIfInBounds_toArray, List.set_cons_zero, List.set_cons_succ]; rfl)) : p := h
theorem bn {α β : Type} {x : Option α} {f : α → Option β} {b : β} (h : x.bind f = some b) : ∃ a, Aside0 (x = some a) ∧ f a = some b := let ⟨a, h1, h2⟩ := Option.bind_eq_some_iff.mp h; ⟨a, ⟨h1⟩, h2⟩
theorem Ez {p : Prop} (h : p := by first | rfl | (simp [errW_none, errW_some] <;> rfl) | (simp [*, errW_none, errW_some] <;> rfl)) : p := h
theorem Bq {p : Prop} (h : p := by repeat (first | (with_reducible first | exact HB.out | apply below_alloc | apply pw_below_drewN | apply below_drew1 | refine below_set ?_ Fq) | exact HB.out)) : p := h
theorem Nz {p : Prop} (h : p := by simp only [putAll, Act.put, List.setIfInBounds_toArray, List.set_cons_zero, List.set_cons_succ]) : p := h
abbrev H2 (g : Nat) (v0 v1 : Value) (w : World) : Prop := w.cell? ⟨g, 0, none⟩ = some v0 ∧ w.cell? ⟨g, 1, none⟩ = some v1
theorem h2 {w : World} {g t : Nat} {v0 v1 : Value} (h : Aside0 (w.heap[g]? = some (.cells #[v0, v1] t (0, 0)))) : w.cell? ⟨g, 0, none⟩ = some v0 ∧ w.cell? ⟨g, 1, none⟩ = some v1 := ⟨bc h 0, bc h 1⟩
abbrev H3 (g : Nat) (v0 v1 v2 : Value) (w : World) : Prop := w.cell? ⟨g, 0, none⟩ = some v0 ∧ w.cell? ⟨g, 1, none⟩ = some v1 ∧ w.cell? ⟨g, 2, none⟩ = some v2
theorem h3 {w : World} {g t : Nat} {v0 v1 v2 : Value} (h : Aside0 (w.heap[g]? = some (.cells #[v0, v1, v2] t (0, 0)))) : w.cell? ⟨g, 0, none⟩ = some v0 ∧ w.cell? ⟨g, 1, none⟩ = some v1 ∧ w.cell? ⟨g, 2, none⟩ = some v2 := ⟨bc h 0, bc h 1, bc h 2⟩
theorem h4 {w : World} {g t : Nat} {v0 v1 v2 v3 : Value} (h : Aside0 (w.heap[g]? = some (.cells #[v0, v1, v2, v3] t (0, 0)))) : w.cell? ⟨g, 0, none⟩ = some v0 ∧ w.cell? ⟨g, 1, none⟩ = some v1 ∧ w.cell? ⟨g, 2, none⟩ = some v2 ∧ w.cell? ⟨g, 3, none⟩ = some v3 := ⟨bc h 0, bc h 1, bc h 2, bc h 3⟩
abbrev H5 (g : Nat) (v0 v1 v2 v3 v4 : Value) (w : World) : Prop := w.cell? ⟨g, 0, none⟩ = some v0 ∧ w.cell? ⟨g, 1, none⟩ = some v1 ∧ w.cell? ⟨g, 2, none⟩ = some v2 ∧ w.cell? ⟨g, 3, none⟩ = some v3 ∧ w.cell? ⟨g, 4, none⟩ = some v4
theorem h5 {w : World} {g t : Nat} {v0 v1 v2 v3 v4 : Value} (h : Aside0 (w.heap[g]? = some (.cells #[v0, v1, v2, v3, v4] t (0, 0)))) : w.cell? ⟨g, 0, none⟩ = some v0 ∧ w.cell? ⟨g, 1, none⟩ = some v1 ∧ w.cell? ⟨g, 2, none⟩ = some v2 ∧ w.cell? ⟨g, 3, none⟩ = some v3 ∧ w.cell? ⟨g, 4, none⟩ = some v4 := ⟨bc h 0, bc h 1, bc h 2, bc h 3, bc h 4⟩
theorem h6 {w : World} {g t : Nat} {v0 v1 v2 v3 v4 v5 : Value} (h : Aside0 (w.heap[g]? = some (.cells #[v0, v1, v2, v3, v4, v5] t (0, 0)))) : w.cell? ⟨g, 0, none⟩ = some v0 ∧ w.cell? ⟨g, 1, none⟩ = some v1 ∧ w.cell? ⟨g, 2, none⟩ = some v2 ∧ w.cell? ⟨g, 3, none⟩ = some v3 ∧ w.cell? ⟨g, 4, none⟩ = some v4 ∧ w.cell? ⟨g, 5, none⟩ = some v5 := ⟨bc h 0, bc h 1, bc h 2, bc h 3, bc h 4, bc h 5⟩
theorem h7 {w : World} {g t : Nat} {v0 v1 v2 v3 v4 v5 v6 : Value} (h : Aside0 (w.heap[g]? = some (.cells #[v0, v1, v2, v3, v4, v5, v6] t (0, 0)))) : w.cell? ⟨g, 0, none⟩ = some v0 ∧ w.cell? ⟨g, 1, none⟩ = some v1 ∧ w.cell? ⟨g, 2, none⟩ = some v2 ∧ w.cell? ⟨g, 3, none⟩ = some v3 ∧ w.cell? ⟨g, 4, none⟩ = some v4 ∧ w.cell? ⟨g, 5, none⟩ = some v5 ∧ w.cell? ⟨g, 6, none⟩ = some v6 := ⟨bc h 0, bc h 1, bc h 2, bc h 3, bc h 4, bc h 5, bc h 6⟩
theorem h8 {w : World} {g t : Nat} {v0 v1 v2 v3 v4 v5 v6 v7 : Value} (h : Aside0 (w.heap[g]? = some (.cells #[v0, v1, v2, v3, v4, v5, v6, v7] t (0, 0)))) : w.cell? ⟨g, 0, none⟩ = some v0 ∧ w.cell? ⟨g, 1, none⟩ = some v1 ∧ w.cell? ⟨g, 2, none⟩ = some v2 ∧ w.cell? ⟨g, 3, none⟩ = some v3 ∧ w.cell? ⟨g, 4, none⟩ = some v4 ∧ w.cell? ⟨g, 5, none⟩ = some v5 ∧ w.cell? ⟨g, 6, none⟩ = some v6 ∧ w.cell? ⟨g, 7, none⟩ = some v7 := ⟨bc h 0, bc h 1, bc h 2, bc h 3, bc h 4, bc h 5, bc h 6, bc h 7⟩
end Go.Proofs.Mx

namespace Go.Proofs.YtiomfignokichaaGreatDoor.X
open Ho (bS eS)
open Sq (I O Z)
open Mx
open Go.RowKit Go.Proofs.YtiomfignokichaaGreatDoorW.PrintWords Go.Proofs.YtiomfignokichaaGreatDoorW.PrintLast Go.Proofs.YtiomfignokichaaGreatDoorW.PrintMore
attribute [local go_sem] max2_int min2_int max_two min_two max_three min_three max_four min_four
set_option linter.unusedVariables false
set_option linter.unusedSimpArgs false
set_option maxHeartbeats 8000000
set_option maxRecDepth 100000
def errW : Option Int → Value
  | none => .nilIface
  | some c => .iface 0 (.int .i64 c)
theorem errW_none : errW none = .nilIface := rfl
theorem errW_some (c : Int) : errW (some c) = .iface 0 (.int .i64 c) := rfl

theorem info3 : (Tryz.prog.info? 3).map (fun i => (i.zero, i.size, i.bytes)) = some (some (.int .i64 0), 1, 8) := by kernel_rfl
theorem info5 : (Tryz.prog.info? 5).map (fun i => (i.zero, i.size, i.bytes)) = some (some (.int .u8 0), 1, 1) := by kernel_rfl
theorem info9 : (Tryz.prog.info? 9).map (fun i => (i.zero, i.size, i.bytes)) = some (some (.string ⟨#[]⟩), 1, 16) := by kernel_rfl
theorem info33 : (Tryz.prog.info? 33).map (fun i => (i.zero, i.size, i.bytes)) = some (some (.agg #[(.int .i64 0), (.int .i64 0), (.int .i64 0)]), 3, 24) := by kernel_rfl
-- the values' own types
/-! #### struct type 33 -/
structure S33 where
  f0 : Int
  f1 : Int
  f2 : Int
def z33 : S33 := ⟨(0 : Int), (0 : Int), (0 : Int)⟩
def k33 : Kd S33 := Kd.iso (Kd.pair (Kd.int .i64) (Kd.pair (Kd.int .i64) (Kd.int .i64))) (fun x : S33 => (x.f0, x.f1, x.f2))
theorem k33_open {w : World} {x : S33} {cs : List Value} (h : k33.K w x cs) : cs = [.int .i64 x.f0, .int .i64 x.f1, .int .i64 x.f2] := by
  obtain ⟨_, _, rfl, rfl, ⟨_, _, rfl, rfl, rfl⟩⟩ := h
  exact rfl
theorem k33_openM {w : World} {base : Nat} {ok : Nat → Prop} {x : S33} {cs : List Value} (h : k33.M w base ok x cs) : cs = [.int .i64 x.f0, .int .i64 x.f1, .int .i64 x.f2] := by
  obtain ⟨_, _, rfl, rfl, ⟨_, _, rfl, rfl, rfl⟩⟩ := h
  exact rfl
theorem k33_mk (w : World) (x : S33)  : k33.K w x [.int .i64 x.f0, .int .i64 x.f1, .int .i64 x.f2] := ⟨[.int .i64 x.f0], [.int .i64 x.f1, .int .i64 x.f2], rfl, rfl, ⟨[.int .i64 x.f1], [.int .i64 x.f2], rfl, rfl, rfl⟩⟩
theorem k33_mkM (w : World) (base : Nat) (ok : Nat → Prop) (x : S33)  : k33.M w base ok x [.int .i64 x.f0, .int .i64 x.f1, .int .i64 x.f2] := ⟨[.int .i64 x.f0], [.int .i64 x.f1, .int .i64 x.f2], rfl, rfl, ⟨[.int .i64 x.f1], [.int .i64 x.f2], rfl, rfl, rfl⟩⟩
def rd_T33 (xs : List S33) (i : Int) : S33 := xs.getD i.toNat z33
theorem at_T33 {w : World} {A : Option Addr} {n : Nat} {xs : List S33} (h : Kd.C k33 w A n xs) (i : Int) (h0 : 0 ≤ i) (h1 : i < n) : ∃ ad , A = some ad ∧ w.cell? (ad.add (i.toNat * 3)) = some (.int .i64 (rd_T33 xs i).f0) ∧ w.cell? ⟨(ad.add (i.toNat * 3)).block, (ad.add (i.toNat * 3)).off + 1, none⟩ = some (.int .i64 (rd_T33 xs i).f1) ∧ w.cell? ⟨(ad.add (i.toNat * 3)).block, (ad.add (i.toNat * 3)).off + 2, none⟩ = some (.int .i64 (rd_T33 xs i).f2) := by
  obtain ⟨ad, c, e, _, hK, hc0⟩ := Kd.C_get h z33 i h0 h1
  have hc : ∀ j u, c[j]? = some u → w.cell? (ad.add (i.toNat * 3 + j)) = some u := hc0
  obtain rfl := k33_open hK
  exact ⟨ad, e, hc 0 _ rfl, by rw [← add_field _ _ 1 (by omega)]; exact hc 1 _ rfl, by rw [← add_field _ _ 2 (by omega)]; exact hc 2 _ rfl⟩

def rd_L4 (xs : List (List Int)) (i : Int) : (List Int) := xs.getD i.toNat ([] : List Int)
theorem at_L4 {w : World} {A : Option Addr} {n : Nat} {xs : List (List Int)} (h : Kd.C (Kd.slice 5 (Kd.int .u8)) w A n xs) (i : Int) (h0 : 0 ≤ i) (h1 : i < n) : ∃ ad A0 c0, A = some ad ∧ w.cell? (ad.add i.toNat) = some (.slice A0 (rd_L4 xs i).length c0) ∧ (rd_L4 xs i).length ≤ c0 ∧ (Kd.int .u8).C w A0 (rd_L4 xs i).length (rd_L4 xs i) := by
  obtain ⟨ad, c, e, _, hK, hc0⟩ := Kd.C_get h ([] : List Int) i h0 h1
  have hc : ∀ j u, c[j]? = some u → w.cell? (ad.add (i.toNat * 1 + j)) = some u := hc0
  obtain ⟨A0, c0, rfl, l0, g0⟩ := hK
  exact ⟨ad, A0, c0, e, by have hq := hc 0 _ rfl; rwa [Nat.mul_one, Nat.add_zero] at hq, l0, g0⟩
/-! ### ho_idx56: function 56 -/
theorem ho_idx56 (p : S33 → Option Bool) (gg : Nat) (lb : Array Value) (eg : ∀ args w, (callFunc gg args).run Tryz.prog w = .ok (.enter gg args) w) (w : World) (hp : Ho.PredO Tryz.prog gg lb (fun x_ : S33 => .agg #[.int .i64 x_.f0, .int .i64 x_.f1, .int .i64 x_.f2]) p w)
    (A0 : Option Addr) (c0 : Nat) (l0 : List S33) (r : Int) (hr0 : Kd.C k33 w A0 l0.length l0) (hc0 : l0.length ≤ c0) (h : Ho.idxO p l0 0 = some r) :
    Calls Tryz.prog 56 #[.slice A0 l0.length c0, .func (.func gg) #[] lb] w fun e w' => e = .returned (.int .i64 r) ∧ Below w.heap.size w w' := by
  have hm : l0.length ≤ 9223372036854775807 := hr0.2.1
  have HR := Aside0.mk hr0
  have HP := Aside0.mk hp
  have H := Aside0.mk h
  clear hr0 hp h
  go_enter Tryz.func56, Tryz.ntmps56
  go_wp2
  go_loopg [5, 8] l0.length (fun gk _ s8 wr => ∃ x : Int, s8 = .int .i64 x ∧ Aside0 (0 ≤ x ∧ x ≤ l0.length ∧ l0.length - x.toNat ≤ gk) ∧ Aside0 (Below w.heap.size w wr) ∧ Aside0 (Ho.idxO p (l0.drop x.toNat) x = some r))
  case atStart => exact ⟨0, rfl, ⟨by omega, by omega, by simp⟩, ⟨Below.refl _ w⟩, ⟨H.out⟩⟩
  case round =>
    clear H
    obtain ⟨x, rfl, HX, BW, HI⟩ := hrel
    by_cases hlt : x < (l0.length : Int)
    · obtain ⟨b, hb, hbt, hbf⟩ := Ho.idxO_step HI.out (by have := HX.out; omega) z33
      have c1 : decide (x < (l0.length : Int)) = true := decide_eq_true hlt
      have q1 := eq_true hlt
      have p1 := eq_true HX.out.1
      have hcall : Calls Tryz.prog gg (#[.agg #[.int .i64 ((rd_T33 l0 x).f0), .int .i64 ((rd_T33 l0 x).f1), .int .i64 ((rd_T33 l0 x).f2)]] ++ lb) wr _ := HP.out.calls wr (rd_T33 l0 x) b BW.out hb
      obtain ⟨ad, hA, hcell0, hcell1, hcell2⟩ := at_T33 (Kd.C_below HR.out BW.out) x HX.out.1 hlt
      cases hA
      have HI2 := Aside0.mk hbt
      have HI3 := Aside0.mk hbf
      have HL := Aside0.mk hlt
      clear hbt hbf hb hlt
      cases b with
      | true =>
        go_wp2_with (with_reducible refine Calls.mono hcall ?_; rintro e w' ⟨rfl, hb'⟩)
        go_ret
        refine ⟨?_, below_then BW.out BW.out.size hb'⟩
        rw [HI2.out (by trivial)]
        rfl
      | false =>
        go_wp2_with (with_reducible refine Calls.mono hcall ?_; rintro e w' ⟨rfl, hb'⟩)
        have hx := HX.out
        have hl := HL.out
        have hw : wrap64 (x + 1) = x + 1 := by unfold wrap64; omega
        go_roundg (l0.length - (x.toNat + 1))
        case measure => omega
        case rel => exact ⟨x + 1, by rw [hw], ⟨by omega, by omega, by omega⟩, ⟨below_then BW.out BW.out.size hb'⟩, ⟨by have h2 := HI3.out (by trivial); rwa [show (x + 1).toNat = x.toNat + 1 by omega]⟩⟩
    · have c1 : decide (x < (l0.length : Int)) = false := decide_eq_false hlt
      have hr := Ho.idxO_end HI.out (by have := HX.out; omega)
      subst hr
      clear hlt
      go_wp2
      go_ret
      exact ⟨rfl, BW.out⟩
/-! ### ho_has64: function 64 -/
theorem ho_has64 (p : S33 → Option Bool) (gg : Nat) (lb : Array Value) (eg : ∀ args w, (callFunc gg args).run Tryz.prog w = .ok (.enter gg args) w) (w : World) (hp : Ho.PredO Tryz.prog gg lb (fun x_ : S33 => .agg #[.int .i64 x_.f0, .int .i64 x_.f1, .int .i64 x_.f2]) p w)
    (A0 : Option Addr) (c0 : Nat) (l0 : List S33) (r : Bool) (hr0 : Kd.C k33 w A0 l0.length l0) (hc0 : l0.length ≤ c0) (h : Ho.hasO p l0 = some r) :
    Calls Tryz.prog 64 #[.slice A0 l0.length c0, .func (.func gg) #[] lb] w fun e w' => e = .returned (.bool r) ∧ Below w.heap.size w w' := by
  obtain ⟨i, hi, rfl⟩ := Ho.hasO_of h
  have HC := ho_idx56 p gg lb eg w hp A0 c0 l0 i hr0 hc0 hi
  clear hp hr0 hi h
  go_enter Tryz.func64, Tryz.ntmps64
  go_wp2_with (go_at_call 56; refine HC.mono ?_; rintro e w' ⟨rfl, hb'⟩)
  go_ret
  exact ⟨rfl, hb'⟩
/-! ### ho_all45: function 45 -/
theorem ho_not65 (p : S33 → Option Bool) (gg : Nat) (lb : Array Value) (eg : ∀ args w, (callFunc gg args).run Tryz.prog w = .ok (.enter gg args) w) (w : World) (hp : Ho.PredO Tryz.prog gg lb (fun x_ : S33 => .agg #[.int .i64 x_.f0, .int .i64 x_.f1, .int .i64 x_.f2]) p w)
    (gb t : Nat) (hb : w.heap[gb]? = some (.cells #[.func (.func gg) #[] lb] t (0, 0))) :
    Ho.PredO Tryz.prog 65 #[.pointer (some ⟨gb, 0, none⟩)] (fun x_ : S33 => .agg #[.int .i64 x_.f0, .int .i64 x_.f1, .int .i64 x_.f2]) (Ho.notO p) w := by
  refine ⟨fun W x b hB hx => ?_⟩
  have hcall : Calls Tryz.prog gg (#[.agg #[.int .i64 x.f0, .int .i64 x.f1, .int .i64 x.f2]] ++ lb) (W.alloc (.cells #[.int .i64 x.f0, .int .i64 x.f1, .int .i64 x.f2] 33)) _ := hp.calls _ x (!b) (below_alloc hB _) (Ho.notO_of hx)
  have hc : W.cell? ⟨gb, 0, none⟩ = some (.func (.func gg) #[] lb) := (blk_cell (blk_below hb hB) 0).trans rfl
  have hlt : gb < W.heap.size := blk_lt (blk_below hb hB)
  have hne : ¬ gb = W.heap.size := by omega
  have HB := Aside0.mk hB
  clear hp hb hx hB
  go_enter Tryz.func65, Tryz.ntmps65
  go_wp2_with (with_reducible refine Calls.mono hcall ?_; rintro e w' ⟨rfl, hb'⟩)
  go_ret
  exact ⟨by simp, below_then (below_alloc (Below.refl _ _) _) (by simp) hb'⟩
theorem ho_all45 (p : S33 → Option Bool) (gg : Nat) (lb : Array Value) (eg : ∀ args w, (callFunc gg args).run Tryz.prog w = .ok (.enter gg args) w) (w : World) (hp : Ho.PredO Tryz.prog gg lb (fun x_ : S33 => .agg #[.int .i64 x_.f0, .int .i64 x_.f1, .int .i64 x_.f2]) p w)
    (A0 : Option Addr) (c0 : Nat) (l0 : List S33) (r : Bool) (hr0 : Kd.C k33 w A0 l0.length l0) (hc0 : l0.length ≤ c0) (h : Ho.allO p l0 = some r) :
    Calls Tryz.prog 45 #[.slice A0 l0.length c0, .func (.func gg) #[] lb] w fun e w' => e = .returned (.bool r) ∧ Below w.heap.size w w' := by
  have hh := Ho.allO_of h
  have ec : ∀ args w, (callFunc 65 args).run Tryz.prog w = .ok (.enter 65 args) w := fun args w => by kernel_rfl
  have HC : ∀ W : World, Below w.heap.size w W → W.heap[w.heap.size]? = some (.cells #[.func (.func gg) #[] lb] 48 (0, 0)) → _ := fun W hB hbx => ho_has64 (Ho.notO p) 65 #[.pointer (some ⟨w.heap.size, 0, none⟩)] ec W (ho_not65 p gg lb eg W (hp.below hB) w.heap.size 48 hbx) A0 c0 l0 (!r) (Kd.C_below hr0 hB) hc0 hh
  clear hp hr0 h hh ec
  go_enter Tryz.func45, Tryz.ntmps45
  go_wp2_with (go_at_call 64; refine (HC _ (below_alloc (Below.refl _ _) _) (blk_new _ _)).mono ?_; rintro e w' ⟨rfl, hb'⟩)
  go_ret
  exact ⟨by simp, below_then (below_alloc (Below.refl _ _) _) (by simp) hb'⟩
/-! ### Fbn: function 41 -/
def Fbn.f (a0 : Int) (a1 : Int) (a2 : Int) : Option (Bool) := if a0 ≥ a1 then (some (decide (a0 ≤ a2))) else (some false)
theorem Fbn.calls (a0 : Int) (a1 : Int) (a2 : Int) (r : Bool) (w : World) (h : Fbn.f a0 a1 a2 = some r) :
  Calls Tryz.prog 41 #[.int .i64 a0, .int .i64 a1, .int .i64 a2] w fun e w' => e = .returned (.bool r) ∧ Drawn0 w w' := by
 have H := h
 clear h
 unfold Fbn.f at H
 by_cases c4 : a0 ≥ a1
 ·rw [if_pos c4] at H
  have c4b0 := decide_eq_true c4
  clear c4
  obtain rfl := Option.some.inj H
  go_enter Tryz.func41, Tryz.ntmps41
  go_wp2
  go_ret
  exact ⟨by first | rfl | (simp; done) | (simp [*]; done), by repeat (first | exact Drawn0.refl _ | apply Drawn0.step)⟩
 ·rw [if_neg c4] at H
  have c4b0 := decide_eq_false c4
  clear c4
  obtain rfl := Option.some.inj H
  go_enter Tryz.func41, Tryz.ntmps41
  go_wp2
  go_ret
  exact ⟨by first | rfl | (simp; done) | (simp [*]; done), by repeat (first | exact Drawn0.refl _ | apply Drawn0.step)⟩
/-! ### Faw: function 18 -/
def Faw.f (a0 : Int) : Option (Bool) := (Fbn.f a0 0 5).bind fun t101 => (some t101)
theorem Faw.calls (a0 : Int) (r : Bool) (w : World) (h : Faw.f a0 = some r) :
  Calls Tryz.prog 18 #[.int .i64 a0] w fun e w' => e = .returned (.bool r) ∧ Drawn0 w w' := by
 have H := h
 clear h
 unfold Faw.f at H
 obtain ⟨t1, A2, H⟩ := bn H
 (try dsimp only at H)
 obtain rfl := Option.some.inj H
 go_enter Tryz.func18, Tryz.ntmps18
 go_wp2_with (first | (refine cE (some 4) Tryz.func41 #[.int .i64 a0, .int .i64 0, .int .i64 5] ?_; (with_reducible refine (Fbn.calls a0 0 5 t1 _ A2.out).mono ?_); rintro e w' ⟨rfl, ⟨nd, rfl⟩⟩; refine ⟨_, rfl, ?_⟩))
 go_ret
 exact ⟨by first | rfl | (simp; done) | (simp [*]; done), by repeat (first | exact Drawn0.refl _ | apply Drawn0.step)⟩
/-! ### Fbb: function 19 -/
def Fbb.f (a0 : Int) : Option (Bool) := (Fbn.f a0 1 100000).bind fun t101 => (some t101)
theorem Fbb.calls (a0 : Int) (r : Bool) (w : World) (h : Fbb.f a0 = some r) :
  Calls Tryz.prog 19 #[.int .i64 a0] w fun e w' => e = .returned (.bool r) ∧ Drawn0 w w' := by
 have H := h
 clear h
 unfold Fbb.f at H
 obtain ⟨t1, A2, H⟩ := bn H
 (try dsimp only at H)
 obtain rfl := Option.some.inj H
 go_enter Tryz.func19, Tryz.ntmps19
 go_wp2_with (first | (refine cE (some 4) Tryz.func41 #[.int .i64 a0, .int .i64 1, .int .i64 100000] ?_; (with_reducible refine (Fbn.calls a0 1 100000 t1 _ A2.out).mono ?_); rintro e w' ⟨rfl, ⟨nd, rfl⟩⟩; refine ⟨_, rfl, ?_⟩))
 go_ret
 exact ⟨by first | rfl | (simp; done) | (simp [*]; done), by repeat (first | exact Drawn0.refl _ | apply Drawn0.step)⟩
section
attribute [local go_sem ↓] Ho.isSome_setCell_
/-! ### Fbg: function 40 -/
def Fbg.f (a0_0 : Int) (a0_1 : Int) (a0_2 : Int) (l1_0 : List (S33)) (a1_1 : Int) (a1_2 : Int) (a1_3 : Int) (a1_4 : Int) : Option (Bool) := (Fbn.f a0_0 1 (wrap64 (a1_1 - 1))).bind fun t102 => (if t102 = true then ((Faw.f a0_1).bind fun t103 => (if t103 = true then ((Fbb.f a0_2).bind fun t104 => (some t104)) else (some false))) else (some false))
theorem Fbg.calls (a0_0 : Int) (a0_1 : Int) (a0_2 : Int) (g1 : Nat) (A1_0 : Option Addr) (c1_0 : Nat) (l1_0 : List (S33)) (a1_1 : Int) (a1_2 : Int) (a1_3 : Int) (a1_4 : Int) (r : Bool) (w : World) (hb1 : w.heap[g1]? = some (.cells #[.slice A1_0 l1_0.length c1_0, .int .i64 a1_1, .int .i64 a1_2, .int .i64 a1_3, .int .i64 a1_4] 26 (0, 0))) (hr1_0 : Kd.C k33 w A1_0 l1_0.length l1_0) (hc1_0 : l1_0.length ≤ c1_0) (h : Fbg.f a0_0 a0_1 a0_2 l1_0 a1_1 a1_2 a1_3 a1_4 = some r) :
  Calls Tryz.prog 40 #[.agg #[.int .i64 a0_0, .int .i64 a0_1, .int .i64 a0_2], .pointer (some ⟨g1, 0, none⟩)] w fun e w' => e = .returned (.bool r) ∧ Below w.heap.size w w' := by
 have hu33 := Tryz.underlying33
 have HR1_0 := Aside0.mk hr1_0
 have HC1_0 := Aside0.mk hc1_0
 clear hr1_0 hc1_0
 have B1 := Aside0.mk hb1
 clear hb1
 have HB := Aside0.mk (Below.refl w.heap.size w)
 have H := h
 clear h
 unfold Fbg.f at H
 obtain ⟨t2, A3, H⟩ := bn H
 (try dsimp only at H)
 by_cases c4 : t2 = true
 subst c4
 rw [if_pos rfl] at H
 obtain ⟨t3, A5, H⟩ := bn H
 (try dsimp only at H)
 by_cases c6 : t3 = true
 subst c6
 rw [if_pos rfl] at H
 obtain ⟨t4, A7, H⟩ := bn H
 (try dsimp only at H)
 obtain rfl := Option.some.inj H
 have WAY0 := True.intro
 rotate_left
 replace c6 := Bool.eq_false_iff.mpr c6
 subst c6
 rw [if_neg (show ¬ (false = true) by decide)] at H
 obtain rfl := Option.some.inj H
 have WAY1 := True.intro
 rotate_left
 replace c4 := Bool.eq_false_iff.mpr c4
 subst c4
 rw [if_neg (show ¬ (false = true) by decide)] at H
 obtain rfl := Option.some.inj H
 have WAY2 := True.intro
 rotate_left
 all_goals
  go_enter Tryz.func40, Tryz.ntmps40
  go_wp2_with (first | (refine bE 2 33 #[.int .i64 a0_0, .int .i64 a0_1, .int .i64 a0_2] ?_; intro gb101 hg w8 BK101 hb; have E1 := gW HB hg; obtain ⟨NB1_101, N1_1⟩ := nB B1 hg; replace B1 := kT B1 hb; replace HB := bT HB hb; clear hb hg; have hnb9 := nP N1_1; have hz10 := Sq.c3 BK101.out; have hz11 := Sq.c5 B1.out) | ((first | guard_hyp WAY0 : True | guard_hyp WAY1 : True); (refine cE (some 9) Tryz.func41 #[.int .i64 a0_0, .int .i64 1, .int .i64 (wrap64 (a1_1 - 1))] ?_; (with_reducible refine (Fbn.calls a0_0 1 (wrap64 (a1_1 - 1)) true _ A3.out).mono ?_); rintro e w' ⟨rfl, ⟨nd, rfl⟩⟩; refine ⟨_, rfl, ?_⟩)) | ((guard_hyp WAY0 : True); (go_at_call 18; (with_reducible refine (Faw.calls a0_1 true _ A5.out).mono ?_); rintro e w' ⟨rfl, ⟨nd, rfl⟩⟩)) | ((guard_hyp WAY0 : True); (go_at_call 19; (with_reducible refine (Fbb.calls a0_2 t4 _ A7.out).mono ?_); rintro e w' ⟨rfl, ⟨nd, rfl⟩⟩)) | ((guard_hyp WAY1 : True); (go_at_call 18; (with_reducible refine (Faw.calls a0_1 false _ A5.out).mono ?_); rintro e w' ⟨rfl, ⟨nd, rfl⟩⟩)) | ((guard_hyp WAY2 : True); (refine cE (some 9) Tryz.func41 #[.int .i64 a0_0, .int .i64 1, .int .i64 (wrap64 (a1_1 - 1))] ?_; (with_reducible refine (Fbn.calls a0_0 1 (wrap64 (a1_1 - 1)) false _ A3.out).mono ?_); rintro e w' ⟨rfl, ⟨nd, rfl⟩⟩; refine ⟨_, rfl, ?_⟩)))
  go_ret
  exact ⟨Ez, by exact eS HB.out⟩
end
/-! ### Fau: function 100001 -/
def Fau.f (l0 : List (S33)) (l1_0 : List (S33)) (a1_1 : Int) (a1_2 : Int) (a1_3 : Int) (a1_4 : Int) : Option Bool := Ho.allO (fun x_ => Fbg.f x_.f0 x_.f1 x_.f2 l1_0 a1_1 a1_2 a1_3 a1_4) l0
theorem Fau.calls (A0 : Option Addr) (c0 : Nat) (l0 : List (S33)) (g1_0 : Nat) (A1_0 : Option Addr) (c1_0 : Nat) (l1_0 : List (S33)) (a1_1 : Int) (a1_2 : Int) (a1_3 : Int) (a1_4 : Int) (r : Bool) (w : World) (hr0 : Kd.C k33 w A0 l0.length l0) (hc0 : l0.length ≤ c0) (hb1_0 : w.heap[g1_0]? = some (.cells #[.slice A1_0 l1_0.length c1_0, .int .i64 a1_1, .int .i64 a1_2, .int .i64 a1_3, .int .i64 a1_4] 26 (0, 0))) (hr1_0 : Kd.C k33 w A1_0 l1_0.length l1_0) (hc1_0 : l1_0.length ≤ c1_0) (h : Fau.f l0 l1_0 a1_1 a1_2 a1_3 a1_4 = some r) :
  Calls Tryz.prog 45 #[.slice A0 l0.length c0, .func (.func 40) #[] #[.pointer (some ⟨g1_0, 0, none⟩)]] w fun e w' => e = .returned (.bool r) ∧ Below w.heap.size w w' := by
 have ec : ∀ args w, (callFunc 40 args).run Tryz.prog w = .ok (.enter 40 args) w := fun args w => by kernel_rfl
 have hp : Ho.PredO Tryz.prog 40 #[.pointer (some ⟨g1_0, 0, none⟩)] (fun x_ : S33 => .agg #[.int .i64 x_.f0, .int .i64 x_.f1, .int .i64 x_.f2]) (fun x_ => Fbg.f x_.f0 x_.f1 x_.f2 l1_0 a1_1 a1_2 a1_3 a1_4) w := ⟨fun W x_ b_ hB_ hx_ => (Fbg.calls x_.f0 x_.f1 x_.f2 _ _ _ l1_0 a1_1 a1_2 a1_3 a1_4 b_ W (blk_below hb1_0 hB_) (Kd.C_below hr1_0 hB_) hc1_0 hx_).mono fun _ _ h_ => ⟨h_.1, h_.2⟩⟩
 exact ho_all45 _ 40 _ ec w hp _ _ _ _ hr0 hc0 h
section
attribute [local go_sem ↓] Ho.isSome_setCell_
/-! ### Fat: function 43 -/
def Fat.f (a0_0 : Int) (a0_1 : Int) (a0_2 : Int) : Option (Int) := some a0_0
theorem Fat.calls (a0_0 : Int) (a0_1 : Int) (a0_2 : Int) (r : Int) (w : World) (h : Fat.f a0_0 a0_1 a0_2 = some r) :
  Calls Tryz.prog 43 #[.agg #[.int .i64 a0_0, .int .i64 a0_1, .int .i64 a0_2]] w fun e w' => e = .returned (.int .i64 r) ∧ Below w.heap.size w w' := by
 have hu33 := Tryz.underlying33
 have HB := Aside0.mk (Below.refl w.heap.size w)
 have H := h
 clear h
 unfold Fat.f at H
 obtain rfl := Option.some.inj H
 go_enter Tryz.func43, Tryz.ntmps43
 go_wp2_with (first | (refine bE 1 33 #[.int .i64 a0_0, .int .i64 a0_1, .int .i64 a0_2] ?_; intro g1 hg w2 B1 hb; have E1 := gW HB hg; replace HB := bT HB hb; clear hb hg; have hz3 := Sq.c3 B1.out))
 go_ret
 exact ⟨Ez, by exact eS HB.out⟩
end
/-! ### Fg: function 100000 -/
def Fg.l0 : Nat → List (S33) → Int → Option (Bool)
  | 0, _, _ => none
  | k + 1, x0, x5 => if x5 < (x0.length : Int) then (if 0 ≤ (wrap64 (x5 - 1)) then (if (wrap64 (x5 - 1)) < (x0.length : Int) then ((Fat.f ((rd_T33 x0 (wrap64 (x5 - 1))).f0) ((rd_T33 x0 (wrap64 (x5 - 1))).f1) ((rd_T33 x0 (wrap64 (x5 - 1))).f2)).bind fun t102 => (if 0 ≤ x5 then ((Fat.f ((rd_T33 x0 x5).f0) ((rd_T33 x0 x5).f1) ((rd_T33 x0 x5).f2)).bind fun t104 => (if t102 ≥ t104 then (some false) else (Fg.l0 k x0 (wrap64 (x5 + 1))))) else (none))) else (none)) else (none)) else (some true)
def Fg.f (k : Nat) (l0 : List (S33))  : Option (Bool) := Fg.l0 k l0 1
theorem Fg.mono_l : ∀ k, (∀ y0 y1, LeO (Fg.l0 k y0 y1) (Fg.l0 (k + 1) y0 y1))
  | 0 => fun _ _ r h => by simp [Fg.l0] at h
  | k + 1 => by
    have ih0 := Fg.mono_l k
    · intro y0 y1
      unfold Fg.l0
      repeat' (with_reducible first | exact ih0 _ _ | exact LeO.refl _ | exact LeO.none _ | refine LeO.ite ?_ ?_ | refine LeO.bind ?_ (fun _ => ?_))
theorem Fg.mono : ∀ a0 k, LeO (Fg.f k a0) (Fg.f (k + 1) a0) := by
  intro a0 k
  have ih0 := Fg.mono_l k
  unfold Fg.f
  repeat' (with_reducible first | exact ih0 _ _ | exact LeO.refl _ | exact LeO.none _ | refine LeO.ite ?_ ?_ | refine LeO.bind ?_ (fun _ => ?_))
def Fg.T4 : Bool × List (List Nat × List Nat) := (true, [([], []), ([], []), ([], []), ([2], [2]), ([1, 3], [1, 3]), ([4], [4]), ([0, 5], [0, 5]), ([], []), ([], []), ([], []), ([8, 9], [8, 9]), ([10], [10]), ([7, 11, 6], [7, 11]), ([6, 12], [6, 12])])
def Fg.B4 : List Nat := [0, 0, 0, 4, 14, 30, 63, 0, 0, 0, 768, 1792, 4095, 8191]
theorem Fg.tab4 : rtab .any (opsOf Tryz.f42 4) = Fg.T4 := by kernel_rfl
theorem Fg.bits4 : waitsOk Fg.T4.2 Fg.B4 = true := by kernel_rfl
theorem Fg.calls (k : Nat) (A0 : Option Addr) (c0 : Nat) (l0 : List (S33))  (r : Bool) (w : World) (hr0 : Kd.C k33 w A0 l0.length l0) (hc0 : l0.length ≤ c0) (h : Fg.f k l0 = some r) :
  Calls Tryz.prog 42 #[.slice A0 l0.length c0, .func (.func 43) #[] #[]] w fun e w' => e = .returned (.bool r) ∧ Below w.heap.size w w' := by
 have hu33 := Tryz.underlying33
 have HR0 := Aside0.mk hr0
 have HC0 := Aside0.mk hc0
 clear hr0 hc0
 have HB := Aside0.mk (Below.refl w.heap.size w)
 have H := h
 clear h
 unfold Fg.f at H
 have H' := Aside0.mk H
 clear H
 go_enter Tryz.func42, Tryz.ntmps42
 go_wp2
 go_loopg [5] k (fun kq v5 w' => ∃ (x5_1 : Int), v5 = .int .i64 x5_1 ∧ Aside0 (Fg.l0 kq l0 x5_1 = some r) ∧ Aside0 (kq ≤ k) ∧ Aside0 (Below w.heap.size w w'))
 case atStart => exact ⟨(1), Ey, H', ⟨Nat.le_refl _⟩, ⟨es HB⟩⟩
 case round =>
  clear H'
  try clear p2
  obtain ⟨x5_1, rfl, HA, HK1, HB⟩ := hrel
  cases gk with
  | zero => exact absurd HA.out (by simp [Fg.l0])
  | succ k1 =>
   have H := HA.out
   clear HA
   simp only [Fg.l0] at H
   by_cases c3 : x5_1 < (l0.length : Int)
   rotate_left
   ·rw [if_neg c3] at H
    have c3b0 := decide_eq_false c3
    clear c3
    obtain rfl := Option.some.inj H
    go_wp2
    go_ret
    exact ⟨Ez, by exact eS HB.out⟩
   rw [if_pos c3] at H
   have c3b0 := decide_eq_true c3
   clear c3
   obtain ⟨ji4, hji4⟩ : ∃ j_ : Int, (wrap64 (x5_1 - 1)) = j_ := ⟨_, rfl⟩
   replace H : (if 0 ≤ (ji4) then (if (ji4) < (l0.length : Int) then ((Fat.f ((rd_T33 l0 (ji4)).f0) ((rd_T33 l0 (ji4)).f1) ((rd_T33 l0 (ji4)).f2)).bind fun t2 => (if 0 ≤ x5_1 then ((Fat.f ((rd_T33 l0 x5_1).f0) ((rd_T33 l0 x5_1).f1) ((rd_T33 l0 x5_1).f2)).bind fun t4 => (if t2 ≥ t4 then (some false) else (Fg.l0 k1 l0 (wrap64 (x5_1 + 1))))) else (none))) else (none)) else (none)) = some r := by first | (rw [hji4] at H; exact H) | (simp only [hji4] at H ⊢; exact H)
   have hji4w : (IntKind.i64.wrap (x5_1 - 1)) = ji4 := (i64_w _).trans hji4
   by_cases c5 : 0 ≤ (ji4)
   rotate_left
   ·rw [if_neg c5] at H
    exact absurd H (by simp)
   rw [if_pos c5] at H
   have c5b0 := decide_eq_true c5
   clear c5
   by_cases c6 : (ji4) < (l0.length : Int)
   rotate_left
   ·rw [if_neg c6] at H
    exact absurd H (by simp)
   rw [if_pos c6] at H
   have c6b0 := decide_eq_true c6
   clear c6
   obtain ⟨t2, A7, H⟩ := bn H
   (try dsimp only at H)
   by_cases c8 : 0 ≤ x5_1
   rotate_left
   ·rw [if_neg c8] at H
    exact absurd H (by simp)
   rw [if_pos c8] at H
   have c8b0 := decide_eq_true c8
   clear c8
   obtain ⟨t4, A9, H⟩ := bn H
   (try dsimp only at H)
   by_cases c10 : t2 ≥ t4
   ·rw [if_pos c10] at H
    have c10b0 := decide_eq_true c10
    clear c10
    obtain rfl := Option.some.inj H
    try go_wp2
    replace HB := bD HB
    have p101 : 0 ≤ ((ji4) : Int) := Dz
    have q1 : (ji4) < (l0.length : Int) := Dz
    obtain ⟨ad1, e1, hx1_0, hx1_1, hx1_2⟩ := at_T33 HR0.out (ji4) p101 q1
    have hw101_2 := hx1_2
    have hw101_1 := hx1_1
    have hw101_0 := hx1_0
    cases e1
    replace hx1_0 := Sq.cB HB.out hx1_0
    replace hx1_1 := Sq.cB HB.out hx1_1
    replace hx1_2 := Sq.cB HB.out hx1_2
    replace p101 := eq_true p101
    replace q1 := eq_true q1
    have p103 : 0 ≤ (x5_1 : Int) := Dz
    have q3 : x5_1 < (l0.length : Int) := Dz
    obtain ⟨ad3, e3, hx3_0, hx3_1, hx3_2⟩ := at_T33 HR0.out x5_1 p103 q3
    have hw103_2 := hx3_2
    have hw103_1 := hx3_1
    have hw103_0 := hx3_0
    obtain rfl : ad1 = ad3 := (by injection e3)
    replace hx3_0 := Sq.cB HB.out hx3_0
    replace hx3_1 := Sq.cB HB.out hx3_1
    replace hx3_2 := Sq.cB HB.out hx3_2
    replace p103 := eq_true p103
    replace q3 := eq_true q3
    refine sT 14 (fun w' => w'.cell? (ad1.add (((ji4)).toNat * 3)) = some (.int .i64 ((rd_T33 l0 (ji4)).f0)) ∧ w'.cell? ⟨(ad1.add (((ji4)).toNat * 3)).block, (ad1.add (((ji4)).toNat * 3)).off + 1, none⟩ = some (.int .i64 ((rd_T33 l0 (ji4)).f1)) ∧ w'.cell? ⟨(ad1.add (((ji4)).toNat * 3)).block, (ad1.add (((ji4)).toNat * 3)).off + 2, none⟩ = some (.int .i64 ((rd_T33 l0 (ji4)).f2)) ∧ w'.cell? (ad1.add ((x5_1).toNat * 3)) = some (.int .i64 ((rd_T33 l0 x5_1).f0)) ∧ w'.cell? ⟨(ad1.add ((x5_1).toNat * 3)).block, (ad1.add ((x5_1).toNat * 3)).off + 1, none⟩ = some (.int .i64 ((rd_T33 l0 x5_1).f1)) ∧ w'.cell? ⟨(ad1.add ((x5_1).toNat * 3)).block, (ad1.add ((x5_1).toNat * 3)).off + 2, none⟩ = some (.int .i64 ((rd_T33 l0 x5_1).f2))) [] Fg.tab4 Fg.bits4 ⟨(cb HB hw101_0), (cb HB hw101_1), (cb HB hw101_2), (cb HB hw103_0), (cb HB hw103_1), (cb HB hw103_2)⟩ fun hHeld HT_ HW_ => ?_
    generalize wr.drew = w11 at HB hx1_0 hx1_1 hx1_2 hx3_0 hx3_1 hx3_2 hHeld ⊢
    refine Pu 0 ?_
    refine Pu 1 ?_
    refine Pu 2 ?_
    refine Pu 3 ?_
    refine Pu 4 ?_
    refine Pu 7 ?_
    refine Pu 8 ?_
    refine Pu 9 ?_
    refine Pu 10 ?_
    refine Ta 5 ?_
    refine Ta 11 ?_
    refine oN 6 fun K hK => ?_
    refine Ho.goesv_ Tryz.func43 (by kernel_rfl) rfl _ _ #[.agg #[.int .i64 ((rd_T33 l0 (ji4)).f0), .int .i64 ((rd_T33 l0 (ji4)).f1), .int .i64 ((rd_T33 l0 (ji4)).f2)]] (by rfl) rfl rfl (by rfl) (by (try simp only [List.map_toArray, List.map_cons, List.map_nil]); first | done | (simp only [hji4]; rfl) | rfl | (simp only [List.length_drop, List.length_take]; rfl)) ?_
    with_reducible refine (Fat.calls ((rd_T33 l0 (ji4)).f0) ((rd_T33 l0 (ji4)).f1) ((rd_T33 l0 (ji4)).f2) t2 _ A7.out).mono ?_
    rintro e w12 ⟨rfl, hb⟩
    refine ⟨_, rfl, ?_⟩
    replace HB := bT HB hb
    clear hb
    refine hK.out _ _ ⟨(cb HB hw101_0), (cb HB hw101_1), (cb HB hw101_2), (cb HB hw103_0), (cb HB hw103_1), (cb HB hw103_2)⟩ (fun hHeld => ?_)
    clear hK K
    refine nO 18 ?_
    refine oN 12 fun K hK => ?_
    refine Ho.goesv_ Tryz.func43 (by kernel_rfl) rfl _ _ #[.agg #[.int .i64 ((rd_T33 l0 x5_1).f0), .int .i64 ((rd_T33 l0 x5_1).f1), .int .i64 ((rd_T33 l0 x5_1).f2)]] (by rfl) rfl rfl (by rfl) (by (try simp only [List.map_toArray, List.map_cons, List.map_nil]); first | done | rfl | (simp only [List.length_drop, List.length_take]; rfl)) ?_
    with_reducible refine (Fat.calls ((rd_T33 l0 x5_1).f0) ((rd_T33 l0 x5_1).f1) ((rd_T33 l0 x5_1).f2) t4 _ A9.out).mono ?_
    rintro e w13 ⟨rfl, hb⟩
    refine ⟨_, rfl, ?_⟩
    replace HB := bT HB hb
    clear hb
    refine hK.out _ _ ⟨(cb HB hw101_0), (cb HB hw101_1), (cb HB hw101_2), (cb HB hw103_0), (cb HB hw103_1), (cb HB hw103_2)⟩ (fun hHeld => ?_)
    clear hK K
    refine nO 24 ?_
    refine Pu 13 ?_
    refine dO ?_
    try go_wp2
    go_ret
    exact ⟨by first | rfl | (simp [errW_none, errW_some] <;> rfl) | (simp only [← hji4]; first | rfl | (simp [errW_none, errW_some] <;> rfl)) | (simp [*, errW_none, errW_some] <;> rfl), by exact eS HB.out⟩
   rw [if_neg c10] at H
   have c10b0 := decide_eq_false c10
   clear c10
   have H' := Aside0.mk H
   clear H
   try go_wp2
   replace HB := bD HB
   have p101 : 0 ≤ ((ji4) : Int) := Dz
   have q1 : (ji4) < (l0.length : Int) := Dz
   obtain ⟨ad1, e1, hx1_0, hx1_1, hx1_2⟩ := at_T33 HR0.out (ji4) p101 q1
   have hw101_2 := hx1_2
   have hw101_1 := hx1_1
   have hw101_0 := hx1_0
   cases e1
   replace hx1_0 := Sq.cB HB.out hx1_0
   replace hx1_1 := Sq.cB HB.out hx1_1
   replace hx1_2 := Sq.cB HB.out hx1_2
   replace p101 := eq_true p101
   replace q1 := eq_true q1
   have p103 : 0 ≤ (x5_1 : Int) := Dz
   have q3 : x5_1 < (l0.length : Int) := Dz
   obtain ⟨ad3, e3, hx3_0, hx3_1, hx3_2⟩ := at_T33 HR0.out x5_1 p103 q3
   have hw103_2 := hx3_2
   have hw103_1 := hx3_1
   have hw103_0 := hx3_0
   obtain rfl : ad1 = ad3 := (by injection e3)
   replace hx3_0 := Sq.cB HB.out hx3_0
   replace hx3_1 := Sq.cB HB.out hx3_1
   replace hx3_2 := Sq.cB HB.out hx3_2
   replace p103 := eq_true p103
   replace q3 := eq_true q3
   refine sT 14 (fun w' => w'.cell? (ad1.add (((ji4)).toNat * 3)) = some (.int .i64 ((rd_T33 l0 (ji4)).f0)) ∧ w'.cell? ⟨(ad1.add (((ji4)).toNat * 3)).block, (ad1.add (((ji4)).toNat * 3)).off + 1, none⟩ = some (.int .i64 ((rd_T33 l0 (ji4)).f1)) ∧ w'.cell? ⟨(ad1.add (((ji4)).toNat * 3)).block, (ad1.add (((ji4)).toNat * 3)).off + 2, none⟩ = some (.int .i64 ((rd_T33 l0 (ji4)).f2)) ∧ w'.cell? (ad1.add ((x5_1).toNat * 3)) = some (.int .i64 ((rd_T33 l0 x5_1).f0)) ∧ w'.cell? ⟨(ad1.add ((x5_1).toNat * 3)).block, (ad1.add ((x5_1).toNat * 3)).off + 1, none⟩ = some (.int .i64 ((rd_T33 l0 x5_1).f1)) ∧ w'.cell? ⟨(ad1.add ((x5_1).toNat * 3)).block, (ad1.add ((x5_1).toNat * 3)).off + 2, none⟩ = some (.int .i64 ((rd_T33 l0 x5_1).f2))) [] Fg.tab4 Fg.bits4 ⟨(cb HB hw101_0), (cb HB hw101_1), (cb HB hw101_2), (cb HB hw103_0), (cb HB hw103_1), (cb HB hw103_2)⟩ fun hHeld HT_ HW_ => ?_
   generalize wr.drew = w14 at HB hx1_0 hx1_1 hx1_2 hx3_0 hx3_1 hx3_2 hHeld ⊢
   refine Pu 0 ?_
   refine Pu 1 ?_
   refine Pu 2 ?_
   refine Pu 3 ?_
   refine Pu 4 ?_
   refine Pu 7 ?_
   refine Pu 8 ?_
   refine Pu 9 ?_
   refine Pu 10 ?_
   refine Ta 5 ?_
   refine Ta 11 ?_
   refine oN 6 fun K hK => ?_
   refine Ho.goesv_ Tryz.func43 (by kernel_rfl) rfl _ _ #[.agg #[.int .i64 ((rd_T33 l0 (ji4)).f0), .int .i64 ((rd_T33 l0 (ji4)).f1), .int .i64 ((rd_T33 l0 (ji4)).f2)]] (by rfl) rfl rfl (by rfl) (by (try simp only [List.map_toArray, List.map_cons, List.map_nil]); first | done | (simp only [hji4]; rfl) | rfl | (simp only [List.length_drop, List.length_take]; rfl)) ?_
   with_reducible refine (Fat.calls ((rd_T33 l0 (ji4)).f0) ((rd_T33 l0 (ji4)).f1) ((rd_T33 l0 (ji4)).f2) t2 _ A7.out).mono ?_
   rintro e w15 ⟨rfl, hb⟩
   refine ⟨_, rfl, ?_⟩
   replace HB := bT HB hb
   clear hb
   refine hK.out _ _ ⟨(cb HB hw101_0), (cb HB hw101_1), (cb HB hw101_2), (cb HB hw103_0), (cb HB hw103_1), (cb HB hw103_2)⟩ (fun hHeld => ?_)
   clear hK K
   refine nO 18 ?_
   refine oN 12 fun K hK => ?_
   refine Ho.goesv_ Tryz.func43 (by kernel_rfl) rfl _ _ #[.agg #[.int .i64 ((rd_T33 l0 x5_1).f0), .int .i64 ((rd_T33 l0 x5_1).f1), .int .i64 ((rd_T33 l0 x5_1).f2)]] (by rfl) rfl rfl (by rfl) (by (try simp only [List.map_toArray, List.map_cons, List.map_nil]); first | done | rfl | (simp only [List.length_drop, List.length_take]; rfl)) ?_
   with_reducible refine (Fat.calls ((rd_T33 l0 x5_1).f0) ((rd_T33 l0 x5_1).f1) ((rd_T33 l0 x5_1).f2) t4 _ A9.out).mono ?_
   rintro e w16 ⟨rfl, hb⟩
   refine ⟨_, rfl, ?_⟩
   replace HB := bT HB hb
   clear hb
   refine hK.out _ _ ⟨(cb HB hw101_0), (cb HB hw101_1), (cb HB hw101_2), (cb HB hw103_0), (cb HB hw103_1), (cb HB hw103_2)⟩ (fun hHeld => ?_)
   clear hK K
   refine nO 24 ?_
   refine Pu 13 ?_
   refine dO ?_
   try go_wp2
   go_roundg k1
   case measure => have := HK1.out; omega
   case rel => exact ⟨(wrap64 (x5_1 + 1)), Ey, H', ⟨by have := HK1.out; omega⟩, ⟨es HB⟩⟩
section
attribute [local go_sem ↓] Ho.isSome_setCell_
/-! ### Fv: function 32 -/
def Fv.l0 : Nat → Int → List (S33) → Int → Int → Option (Int)
  | 0, _, _, _, _ => none
  | k + 1, x3, x7, x8, x9 => if x9 < x8 then (if 0 ≤ x9 then (if x9 < (x7.length : Int) then (Fv.l0 k (wrap64 (x3 + ((rd_T33 x7 x9).f2))) x7 x8 (wrap64 (x9 + 1))) else (none)) else (none)) else (some x3)
def Fv.f (k : Nat) (l0_0 : List (S33)) (a0_1 : Int) (a0_2 : Int) (a0_3 : Int) (a0_4 : Int) : Option (Int) := Fv.l0 k 0 l0_0 (l0_0.length : Int) 0
theorem Fv.mono_l : ∀ k, (∀ y0 y1 y2 y3, LeO (Fv.l0 k y0 y1 y2 y3) (Fv.l0 (k + 1) y0 y1 y2 y3))
  | 0 => fun _ _ _ _ r h => by simp [Fv.l0] at h
  | k + 1 => by
    have ih0 := Fv.mono_l k
    · intro y0 y1 y2 y3
      unfold Fv.l0
      repeat' (with_reducible first | exact ih0 _ _ _ _ | exact LeO.refl _ | exact LeO.none _ | refine LeO.ite ?_ ?_ | refine LeO.bind ?_ (fun _ => ?_))
theorem Fv.mono : ∀ a0 a1 a2 a3 a4 k, LeO (Fv.f k a0 a1 a2 a3 a4) (Fv.f (k + 1) a0 a1 a2 a3 a4) := by
  intro a0 a1 a2 a3 a4 k
  have ih0 := Fv.mono_l k
  unfold Fv.f
  repeat' (with_reducible first | exact ih0 _ _ _ _ | exact LeO.refl _ | exact LeO.none _ | refine LeO.ite ?_ ?_ | refine LeO.bind ?_ (fun _ => ?_))
theorem Fv.calls (k : Nat) (A0_0 : Option Addr) (c0_0 : Nat) (l0_0 : List (S33)) (a0_1 : Int) (a0_2 : Int) (a0_3 : Int) (a0_4 : Int) (r : Int) (w : World) (hr0_0 : Kd.C k33 w A0_0 l0_0.length l0_0) (hc0_0 : l0_0.length ≤ c0_0) (h : Fv.f k l0_0 a0_1 a0_2 a0_3 a0_4 = some r) :
  Calls Tryz.prog 32 #[.agg #[.slice A0_0 l0_0.length c0_0, .int .i64 a0_1, .int .i64 a0_2, .int .i64 a0_3, .int .i64 a0_4]] w fun e w' => e = .returned (.int .i64 r) ∧ Below w.heap.size w w' := by
 have hu26 := Tryz.underlying26
 have hu33 := Tryz.underlying33
 have HR0_0 := Aside0.mk hr0_0
 have HC0_0 := Aside0.mk hc0_0
 clear hr0_0 hc0_0
 have HB := Aside0.mk (Below.refl w.heap.size w)
 have H := h
 clear h
 unfold Fv.f at H
 have H' := Aside0.mk H
 clear H
 go_enter Tryz.func32, Tryz.ntmps32
 go_wp2_with (first | (refine bE 1 26 #[.slice A0_0 l0_0.length c0_0, .int .i64 a0_1, .int .i64 a0_2, .int .i64 a0_3, .int .i64 a0_4] ?_; intro g1 hg w2 B1 hb; have E1 := gW HB hg; replace HB := bT HB hb; clear hb hg; have hz3 := Sq.c5 B1.out))
 go_loopg [3, 9] k (fun kq v3 v9 w' => ∃ (x3_1 : Int) (x9_1 : Int), v3 = .int .i64 x3_1 ∧ v9 = .int .i64 x9_1 ∧ Aside0 (Fv.l0 kq x3_1 l0_0 (l0_0.length : Int) x9_1 = some r) ∧ Aside0 (kq ≤ k) ∧ Aside0 (w'.heap[g1]? = some (.cells #[(.slice A0_0 l0_0.length c0_0), .int .i64 a0_1, .int .i64 a0_2, .int .i64 a0_3, .int .i64 a0_4] 26 (0, 0))) ∧ Aside0 (Below w.heap.size w w'))
 case atStart => exact ⟨(0), (0), Ey, Ey, H', ⟨Nat.le_refl _⟩, ⟨ks B1⟩, ⟨es HB⟩⟩
 case round =>
  clear H'
  try clear p2
  try clear c3
  (try clear hz3)
  obtain ⟨x3_1, x9_1, rfl, rfl, HA, HK1, B1, HB⟩ := hrel
  cases gk with
  | zero => exact absurd HA.out (by simp [Fv.l0])
  | succ k1 =>
   have H := HA.out
   clear HA
   simp only [Fv.l0] at H
   by_cases c4 : x9_1 < (l0_0.length : Int)
   rotate_left
   ·rw [if_neg c4] at H
    have c4b0 := decide_eq_false c4
    clear c4
    obtain rfl := Option.some.inj H
    go_wp2
    go_ret
    exact ⟨Ez, by exact eS HB.out⟩
   rw [if_pos c4] at H
   have c4b0 := decide_eq_true c4
   clear c4
   by_cases c5 : 0 ≤ x9_1
   rotate_left
   ·rw [if_neg c5] at H
    exact absurd H (by simp)
   rw [if_pos c5] at H
   have c5b0 := decide_eq_true c5
   clear c5
   by_cases c6 : x9_1 < (l0_0.length : Int)
   rotate_left
   ·rw [if_neg c6] at H
    exact absurd H (by simp)
   rw [if_pos c6] at H
   have c6b0 := decide_eq_true c6
   clear c6
   have H' := Aside0.mk H
   clear H
   have p102 : 0 ≤ (x9_1 : Int) := Dz
   have q2 : x9_1 < (l0_0.length : Int) := Dz
   obtain ⟨ad2, e2, hx2_0, hx2_1, hx2_2⟩ := at_T33 HR0_0.out x9_1 p102 q2
   cases e2
   replace hx2_0 := Sq.cB HB.out hx2_0
   replace hx2_1 := Sq.cB HB.out hx2_1
   replace hx2_2 := Sq.cB HB.out hx2_2
   replace p102 := eq_true p102
   replace q2 := eq_true q2
   go_wp2_with (first | (refine bE 5 33 #[.int .i64 0, .int .i64 0, .int .i64 0] ?_; intro g3 hg w7 B3 hb; have E3 := gW HB hg; obtain ⟨N1_3, N3_1⟩ := nB B1 hg; replace B1 := kT B1 hb; replace HB := bT HB hb; clear hb hg; have hnb8 := nP N3_1; have hz9 := Sq.c3 B3.out))
   go_roundg k1
   case measure => have := HK1.out; omega
   case rel => exact ⟨(wrap64 (x3_1 + ((rd_T33 l0_0 x9_1).f2))), (wrap64 (x9_1 + 1)), Ey, Ey, H', ⟨by have := HK1.out; omega⟩, ⟨Kz⟩, ⟨Bq⟩⟩
end
/-! ### Fbi: function 44 -/
def Fbi.f (a0 : Int) : Option (Bool) := (Fbn.f a0 1 999).bind fun t101 => (some t101)
theorem Fbi.calls (a0 : Int) (r : Bool) (w : World) (h : Fbi.f a0 = some r) :
  Calls Tryz.prog 44 #[.int .i64 a0] w fun e w' => e = .returned (.bool r) ∧ Drawn0 w w' := by
 have H := h
 clear h
 unfold Fbi.f at H
 obtain ⟨t1, A2, H⟩ := bn H
 (try dsimp only at H)
 obtain rfl := Option.some.inj H
 go_enter Tryz.func44, Tryz.ntmps44
 go_wp2_with (first | (refine cE (some 4) Tryz.func41 #[.int .i64 a0, .int .i64 1, .int .i64 999] ?_; (with_reducible refine (Fbn.calls a0 1 999 t1 _ A2.out).mono ?_); rintro e w' ⟨rfl, ⟨nd, rfl⟩⟩; refine ⟨_, rfl, ?_⟩))
 go_ret
 exact ⟨by first | rfl | (simp; done) | (simp [*]; done), by repeat (first | exact Drawn0.refl _ | apply Drawn0.step)⟩
/-! ### Faz: function 46 -/
def Faz.f (a0 : Int) : Option (Bool) := (Fbn.f a0 0 100000).bind fun t101 => (some t101)
theorem Faz.calls (a0 : Int) (r : Bool) (w : World) (h : Faz.f a0 = some r) :
  Calls Tryz.prog 46 #[.int .i64 a0] w fun e w' => e = .returned (.bool r) ∧ Drawn0 w w' := by
 have H := h
 clear h
 unfold Faz.f at H
 obtain ⟨t1, A2, H⟩ := bn H
 (try dsimp only at H)
 obtain rfl := Option.some.inj H
 go_enter Tryz.func46, Tryz.ntmps46
 go_wp2_with (first | (refine cE (some 4) Tryz.func41 #[.int .i64 a0, .int .i64 0, .int .i64 100000] ?_; (with_reducible refine (Fbn.calls a0 0 100000 t1 _ A2.out).mono ?_); rintro e w' ⟨rfl, ⟨nd, rfl⟩⟩; refine ⟨_, rfl, ?_⟩))
 go_ret
 exact ⟨by first | rfl | (simp; done) | (simp [*]; done), by repeat (first | exact Drawn0.refl _ | apply Drawn0.step)⟩
section
attribute [local go_sem ↓] Ho.isSome_setCell_
/-! ### Fk: function 16 -/
def Fk.j0 : Nat → Bool → List (S33) → Int → Int → Int → Int → Option (Bool)
  | 0, _, _, _, _, _, _ => none
  | k + 1, x29, x106000, x106001, x106002, x106003, x106004 => if x29 = true then (some false) else ((Faz.f x106002).bind fun t109 => (if t109 = true then ((Faz.f x106003).bind fun t110 => (if t110 = true then ((Faz.f x106004).bind fun t111 => (if t111 = true then ((Fv.f k x106000 x106001 x106002 x106003 x106004).bind fun t112 => (some (x106002 == (wrap64 ((wrap64 (t112 + x106003)) + x106004))))) else (some false))) else (some false))) else (some false)))
def Fk.f (k : Nat) (l0_0 : List (S33)) (a0_1 : Int) (a0_2 : Int) (a0_3 : Int) (a0_4 : Int) : Option (Bool) := (Fg.f k l0_0).bind fun t106 => ((Fbi.f a0_1).bind fun t107 => (if t107 = true then (if (l0_0.length : Int) > 8 then (Fk.j0 k true l0_0 a0_1 a0_2 a0_3 a0_4) else ((Fau.f l0_0 l0_0 a0_1 a0_2 a0_3 a0_4).bind fun t108 => (if t108 = true then (Fk.j0 k (!t106) l0_0 a0_1 a0_2 a0_3 a0_4) else (Fk.j0 k true l0_0 a0_1 a0_2 a0_3 a0_4)))) else (Fk.j0 k true l0_0 a0_1 a0_2 a0_3 a0_4)))
theorem Fk.mono_l : ∀ k, (∀ y0 y1 y2 y3 y4 y5, LeO (Fk.j0 k y0 y1 y2 y3 y4 y5) (Fk.j0 (k + 1) y0 y1 y2 y3 y4 y5))
  | 0 => fun _ _ _ _ _ _ r h => by simp [Fk.j0] at h
  | k + 1 => by
    have ih0 := Fk.mono_l k
    · intro y0 y1 y2 y3 y4 y5
      unfold Fk.j0
      repeat' (with_reducible first | exact ih0 _ _ _ _ _ _ | apply Fg.mono | apply Fv.mono | exact LeO.refl _ | exact LeO.none _ | refine LeO.ite ?_ ?_ | refine LeO.bind ?_ (fun _ => ?_))
theorem Fk.mono : ∀ a0 a1 a2 a3 a4 k, LeO (Fk.f k a0 a1 a2 a3 a4) (Fk.f (k + 1) a0 a1 a2 a3 a4) := by
  intro a0 a1 a2 a3 a4 k
  have ih0 := Fk.mono_l k
  unfold Fk.f
  repeat' (with_reducible first | exact ih0 _ _ _ _ _ _ | apply Fg.mono | apply Fv.mono | exact LeO.refl _ | exact LeO.none _ | refine LeO.ite ?_ ?_ | refine LeO.bind ?_ (fun _ => ?_))
def Fk.T5 : Bool × List (List Nat × List Nat) := (true, [([], []), ([0], [0]), ([1], [1]), ([2, 2], [2]), ([3], [3]), ([4, 3], [3, 4]), ([5, 3, 3], [3, 5]), ([3, 6], [3, 6]), ([7, 6], [7]), ([8], [8]), ([9, 8], [8, 9]), ([10, 8, 8], [8, 10]), ([8, 11], [8, 11]), ([12, 11], [12]), ([13], [13]), ([14, 13], [13, 14]), ([13], [13]), ([16, 13, 13], [13, 16]), ([13], [13]), ([18, 13], [13, 18]), ([17, 19, 13], [13, 17, 19]), ([13], [13]), ([21, 13], [13, 21]), ([20, 22, 13], [13, 20, 22]), ([15, 23, 13], [13, 15, 23]), ([13, 24], [13, 24]), ([25, 17, 0, 1, 2, 3, 4, 5, 6, 7, 8, 9, 10, 11, 12, 13, 14, 15, 16, 17, 18, 19, 20, 21, 22, 23, 24, 25], [25])])
def Fk.B5 : List Nat := [0, 1, 3, 7, 15, 31, 63, 127, 255, 511, 1023, 2047, 4095, 8191, 16383, 32767, 16383, 81919, 16383, 278527, 999423, 16383, 2113535, 8339455, 16777215, 33554431, 67108863]
theorem Fk.tab5 : rtab .any (opsOf Tryz.f16 5) = Fk.T5 := by kernel_rfl
theorem Fk.bits5 : waitsOk Fk.T5.2 Fk.B5 = true := by kernel_rfl
theorem Fk.calls (k : Nat) (A0_0 : Option Addr) (c0_0 : Nat) (l0_0 : List (S33)) (a0_1 : Int) (a0_2 : Int) (a0_3 : Int) (a0_4 : Int) (r : Bool) (w : World) (hr0_0 : Kd.C k33 w A0_0 l0_0.length l0_0) (hc0_0 : l0_0.length ≤ c0_0) (h : Fk.f k l0_0 a0_1 a0_2 a0_3 a0_4 = some r) :
  Calls Tryz.prog 16 #[.agg #[.slice A0_0 l0_0.length c0_0, .int .i64 a0_1, .int .i64 a0_2, .int .i64 a0_3, .int .i64 a0_4]] w fun e w' => e = .returned (.bool r) ∧ Below w.heap.size w w' := by
 have hu26 := Tryz.underlying26
 have HR0_0 := Aside0.mk hr0_0
 have HC0_0 := Aside0.mk hc0_0
 clear hr0_0 hc0_0
 have HB := Aside0.mk (Below.refl w.heap.size w)
 have H := h
 clear h
 unfold Fk.f at H
 obtain ⟨t6, A2, H⟩ := bn H
 (try dsimp only at H)
 have HC3 := Aside0.mk H
 clear H
 go_enter Tryz.func16, Tryz.ntmps16
 go_upto_region 3 with (first | ((with_reducible refine gate_dst (N := 1) rfl ?_); (try (refine gate_guard (by rfl) ?_; dsimp only)); refine bE 1 26 #[.slice A0_0 l0_0.length c0_0, .int .i64 a0_1, .int .i64 a0_2, .int .i64 a0_3, .int .i64 a0_4] ?_; intro g5 hg w4 BK105 hb; have E5 := gW HB hg; replace HB := bT HB hb; clear hb hg; have hz5 := Sq.c5 BK105.out) | (refine cE (some 8) Tryz.func42 #[.slice A0_0 l0_0.length c0_0, .func (.func 43) #[] #[]] ?_; (refine (Fg.calls k _ _ l0_0  t6 _ ?side1 ?side2 A2.out).mono ?_); (case side1 => exact Cs (Kd.C_below HR0_0.out HB.out)); (case side2 => exact HC0_0.out); rintro e w6 ⟨rfl, hb⟩; refine ⟨_, rfl, ?_⟩; replace BK105 := kT BK105 hb; replace HB := bT HB hb; clear hb))
 (try simp only [Act.put, List.setIfInBounds_toArray, List.set_cons_zero, List.set_cons_succ])
 go_cut [29] (fun v29 wc => ∃ (kq : Nat) (x29_2 : Bool), v29 = .bool x29_2 ∧ Aside0 (Fk.j0 kq x29_2 l0_0 a0_1 a0_2 a0_3 a0_4 = some r) ∧ Aside0 (kq ≤ k) ∧ Aside0 (wc.heap[g5]? = some (.cells #[(.slice A0_0 l0_0.length c0_0), .int .i64 a0_1, .int .i64 a0_2, .int .i64 a0_3, .int .i64 a0_4] 26 (0, 0))) ∧ Aside0 (Below w.heap.size w wc))
 case first =>
  have H := HC3.out
  clear HC3
  obtain ⟨t7, A7, H⟩ := bn H
  (try dsimp only at H)
  by_cases c8 : t7 = true
  rotate_left
  ·replace c8 := Bool.eq_false_iff.mpr c8
   subst c8
   rw [if_neg (show ¬ (false = true) by decide)] at H
   have H' := Aside0.mk H
   clear H
   have hz17 := Sq.c5 BK105.out
   go_wp2_with (first | (refine cE (some 11) Tryz.func44 #[.int .i64 a0_1] ?_; (with_reducible refine (Fbi.calls a0_1 false _ A7.out).mono ?_); rintro e w' ⟨rfl, ⟨nd, rfl⟩⟩; refine ⟨_, rfl, ?_⟩))
   go_meet
   case rel => exact ⟨_, (true), Ey, H', ⟨by first | omega | exact Nat.le_refl _⟩, ⟨ks BK105⟩, ⟨es HB⟩⟩
  subst c8
  rw [if_pos rfl] at H
  by_cases c9 : (l0_0.length : Int) > 8
  ·rw [if_pos c9] at H
   have c9b0 := decide_eq_true c9
   have c9b1 : decide (8 < l0_0.length) = true := decide_eq_true (by omega)
   clear c9
   (first | rw [c9b0] | (simp only [i64_w, i32_w]; rw [c9b0]) | skip)
   have H' := Aside0.mk H
   clear H
   have hz10 := Sq.c5 BK105.out
   go_wp2_with (first | (refine cE (some 11) Tryz.func44 #[.int .i64 a0_1] ?_; (with_reducible refine (Fbi.calls a0_1 true _ A7.out).mono ?_); rintro e w' ⟨rfl, ⟨nd, rfl⟩⟩; refine ⟨_, rfl, ?_⟩))
   go_meet
   case rel => exact ⟨_, (true), Ey, H', ⟨by first | omega | exact Nat.le_refl _⟩, ⟨ks BK105⟩, ⟨es HB⟩⟩
  rw [if_neg c9] at H
  have c9b0 := decide_eq_false c9
  have c9b1 : decide (8 < l0_0.length) = false := decide_eq_false (by omega)
  clear c9
  (first | rw [c9b0] | (simp only [i64_w, i32_w]; rw [c9b0]) | skip)
  obtain ⟨t8, A11, H⟩ := bn H
  (try dsimp only at H)
  by_cases c12 : t8 = true
  ·subst c12
   rw [if_pos rfl] at H
   have H' := Aside0.mk H
   clear H
   have hz13 := Sq.c5 BK105.out
   go_wp2_with (first | (refine cE (some 11) Tryz.func44 #[.int .i64 a0_1] ?_; (with_reducible refine (Fbi.calls a0_1 true _ A7.out).mono ?_); rintro e w' ⟨rfl, ⟨nd, rfl⟩⟩; refine ⟨_, rfl, ?_⟩) | (go_at_call 45; (refine (Fau.calls _ _ l0_0 g5 A0_0 c0_0 l0_0 a0_1 a0_2 a0_3 a0_4 true _ ?side1 ?side2 ?side3 ?side4 ?side5 A11.out).mono ?_); (case side1 => exact Kd.C_below HR0_0.out (es HB)); (case side2 => exact HC0_0.out); (case side3 => exact bS BK105.out); (case side4 => exact Kd.C_below HR0_0.out (es HB)); (case side5 => exact HC0_0.out); rintro e w14 ⟨rfl, hb⟩; replace BK105 := kT BK105 hb; replace HB := bT HB hb; clear hb))
   go_meet
   case rel => exact ⟨_, (!t6), Ey, H', ⟨by first | omega | exact Nat.le_refl _⟩, ⟨ks BK105⟩, ⟨es HB⟩⟩
  replace c12 := Bool.eq_false_iff.mpr c12
  subst c12
  rw [if_neg (show ¬ (false = true) by decide)] at H
  have H' := Aside0.mk H
  clear H
  have hz15 := Sq.c5 BK105.out
  go_wp2_with (first | (refine cE (some 11) Tryz.func44 #[.int .i64 a0_1] ?_; (with_reducible refine (Fbi.calls a0_1 true _ A7.out).mono ?_); rintro e w' ⟨rfl, ⟨nd, rfl⟩⟩; refine ⟨_, rfl, ?_⟩) | (go_at_call 45; (refine (Fau.calls _ _ l0_0 g5 A0_0 c0_0 l0_0 a0_1 a0_2 a0_3 a0_4 false _ ?side1 ?side2 ?side3 ?side4 ?side5 A11.out).mono ?_); (case side1 => exact Kd.C_below HR0_0.out (es HB)); (case side2 => exact HC0_0.out); (case side3 => exact bS BK105.out); (case side4 => exact Kd.C_below HR0_0.out (es HB)); (case side5 => exact HC0_0.out); rintro e w16 ⟨rfl, hb⟩; replace BK105 := kT BK105 hb; replace HB := bT HB hb; clear hb))
  go_meet
  case rel => exact ⟨_, (true), Ey, H', ⟨by first | omega | exact Nat.le_refl _⟩, ⟨ks BK105⟩, ⟨es HB⟩⟩
 case rest =>
  clear HC3
  try clear c1
  try clear p2
  try clear c4
  try clear c8
  try clear c9
  try clear c9b0
  try clear c9b1
  try clear c12
  try clear c16
  (try clear hz10)
  (try clear hz13)
  (try clear hz15)
  (try clear hz17)
  (try clear hz5)
  obtain ⟨kq, x29_2, rfl, HA, HJ2, BK105, HB⟩ := hcut
  cases kq with
  | zero => exact absurd HA.out (by simp [Fk.j0])
  | succ kj2 =>
   have H := HA.out
   clear HA
   simp only [Fk.j0] at H
   by_cases c18 : x29_2 = true
   ·subst c18
    rw [if_pos rfl] at H
    obtain rfl := Option.some.inj H
    go_wp2
    go_ret
    exact ⟨Ez, by exact eS HB.out⟩
   replace c18 := Bool.eq_false_iff.mpr c18
   subst c18
   rw [if_neg (show ¬ (false = true) by decide)] at H
   obtain ⟨t9, A19, H⟩ := bn H
   (try dsimp only at H)
   by_cases c20 : t9 = true
   rotate_left
   ·replace c20 := Bool.eq_false_iff.mpr c20
    subst c20
    rw [if_neg (show ¬ (false = true) by decide)] at H
    obtain rfl := Option.some.inj H
    try go_wp2
    replace BK105 := kD BK105
    replace HB := bD HB
    refine sT 27 (H5 g5 (.slice A0_0 l0_0.length c0_0) (.int .i64 a0_1) (.int .i64 a0_2) (.int .i64 a0_3) (.int .i64 a0_4)) [] Fk.tab5 Fk.bits5 (h5 BK105) fun hHeld HT_ HW_ => ?_
    generalize wc.drew = w30 at BK105 HB hHeld ⊢
    refine Pu 0 ?_
    refine Ta 1 ?_
    refine oN 2 fun K hK => ?_
    refine gO Tryz.func46 #[.int .i64 a0_2] ?_
    with_reducible refine (Faz.calls a0_2 false _ A19.out).mono ?_
    rintro e w' ⟨rfl, ⟨nd, rfl⟩⟩
    refine ⟨_, rfl, ?_⟩
    refine hK.out _ _ (h5 BK105) (fun hHeld => ?_)
    clear hK K
    refine nO 32 ?_
    refine Pu 3 ?_
    refine Pn 4 ?_
    refine Pn 5 ?_
    refine Pn 6 ?_
    refine Pu 7 ?_
    refine Pu 8 ?_
    refine Pn 9 ?_
    refine Pn 10 ?_
    refine Pn 11 ?_
    refine Pu 12 ?_
    refine Pu 13 ?_
    refine Pn 14 ?_
    refine Pn 15 ?_
    refine Pn 16 ?_
    refine Pn 17 ?_
    refine Pn 18 ?_
    refine Pn 19 ?_
    refine Pn 20 ?_
    refine Pn 21 ?_
    refine Pn 22 ?_
    refine Pn 23 ?_
    refine Pn 24 ?_
    refine Pu 25 ?_
    refine Pu 26 ?_
    refine dO ?_
    try go_wp2
    go_ret
    exact ⟨Ez, by exact eS HB.out⟩
   subst c20
   rw [if_pos rfl] at H
   obtain ⟨t10, A21, H⟩ := bn H
   (try dsimp only at H)
   by_cases c22 : t10 = true
   rotate_left
   ·replace c22 := Bool.eq_false_iff.mpr c22
    subst c22
    rw [if_neg (show ¬ (false = true) by decide)] at H
    obtain rfl := Option.some.inj H
    try go_wp2
    replace BK105 := kD BK105
    replace HB := bD HB
    refine sT 27 (H5 g5 (.slice A0_0 l0_0.length c0_0) (.int .i64 a0_1) (.int .i64 a0_2) (.int .i64 a0_3) (.int .i64 a0_4)) [] Fk.tab5 Fk.bits5 (h5 BK105) fun hHeld HT_ HW_ => ?_
    generalize wc.drew = w29 at BK105 HB hHeld ⊢
    refine Pu 0 ?_
    refine Ta 1 ?_
    refine oN 2 fun K hK => ?_
    refine gO Tryz.func46 #[.int .i64 a0_2] ?_
    with_reducible refine (Faz.calls a0_2 true _ A19.out).mono ?_
    rintro e w' ⟨rfl, ⟨nd, rfl⟩⟩
    refine ⟨_, rfl, ?_⟩
    refine hK.out _ _ (h5 BK105) (fun hHeld => ?_)
    clear hK K
    refine nO 32 ?_
    refine Pu 3 ?_
    refine Pu 4 ?_
    refine Ta 5 ?_
    refine oN 6 fun K hK => ?_
    refine gO Tryz.func46 #[.int .i64 a0_3] ?_
    with_reducible refine (Faz.calls a0_3 false _ A21.out).mono ?_
    rintro e w' ⟨rfl, ⟨nd, rfl⟩⟩
    refine ⟨_, rfl, ?_⟩
    refine hK.out _ _ (h5 BK105) (fun hHeld => ?_)
    clear hK K
    refine nO 36 ?_
    refine Pu 7 ?_
    refine Pu 8 ?_
    refine Pn 9 ?_
    refine Pn 10 ?_
    refine Pn 11 ?_
    refine Pu 12 ?_
    refine Pu 13 ?_
    refine Pn 14 ?_
    refine Pn 15 ?_
    refine Pn 16 ?_
    refine Pn 17 ?_
    refine Pn 18 ?_
    refine Pn 19 ?_
    refine Pn 20 ?_
    refine Pn 21 ?_
    refine Pn 22 ?_
    refine Pn 23 ?_
    refine Pn 24 ?_
    refine Pu 25 ?_
    refine Pu 26 ?_
    refine dO ?_
    try go_wp2
    go_ret
    exact ⟨Ez, by exact eS HB.out⟩
   subst c22
   rw [if_pos rfl] at H
   obtain ⟨t11, A23, H⟩ := bn H
   (try dsimp only at H)
   by_cases c24 : t11 = true
   rotate_left
   ·replace c24 := Bool.eq_false_iff.mpr c24
    subst c24
    rw [if_neg (show ¬ (false = true) by decide)] at H
    obtain rfl := Option.some.inj H
    try go_wp2
    replace BK105 := kD BK105
    replace HB := bD HB
    refine sT 27 (H5 g5 (.slice A0_0 l0_0.length c0_0) (.int .i64 a0_1) (.int .i64 a0_2) (.int .i64 a0_3) (.int .i64 a0_4)) [] Fk.tab5 Fk.bits5 (h5 BK105) fun hHeld HT_ HW_ => ?_
    generalize wc.drew = w28 at BK105 HB hHeld ⊢
    refine Pu 0 ?_
    refine Ta 1 ?_
    refine oN 2 fun K hK => ?_
    refine gO Tryz.func46 #[.int .i64 a0_2] ?_
    with_reducible refine (Faz.calls a0_2 true _ A19.out).mono ?_
    rintro e w' ⟨rfl, ⟨nd, rfl⟩⟩
    refine ⟨_, rfl, ?_⟩
    refine hK.out _ _ (h5 BK105) (fun hHeld => ?_)
    clear hK K
    refine nO 32 ?_
    refine Pu 3 ?_
    refine Pu 4 ?_
    refine Ta 5 ?_
    refine oN 6 fun K hK => ?_
    refine gO Tryz.func46 #[.int .i64 a0_3] ?_
    with_reducible refine (Faz.calls a0_3 true _ A21.out).mono ?_
    rintro e w' ⟨rfl, ⟨nd, rfl⟩⟩
    refine ⟨_, rfl, ?_⟩
    refine hK.out _ _ (h5 BK105) (fun hHeld => ?_)
    clear hK K
    refine nO 36 ?_
    refine Pu 7 ?_
    refine Pu 8 ?_
    refine Pu 9 ?_
    refine Ta 10 ?_
    refine oN 11 fun K hK => ?_
    refine gO Tryz.func46 #[.int .i64 a0_4] ?_
    with_reducible refine (Faz.calls a0_4 false _ A23.out).mono ?_
    rintro e w' ⟨rfl, ⟨nd, rfl⟩⟩
    refine ⟨_, rfl, ?_⟩
    refine hK.out _ _ (h5 BK105) (fun hHeld => ?_)
    clear hK K
    refine nO 41 ?_
    refine Pu 12 ?_
    refine Pu 13 ?_
    refine Pn 14 ?_
    refine Pn 15 ?_
    refine Pn 16 ?_
    refine Pn 17 ?_
    refine Pn 18 ?_
    refine Pn 19 ?_
    refine Pn 20 ?_
    refine Pn 21 ?_
    refine Pn 22 ?_
    refine Pn 23 ?_
    refine Pn 24 ?_
    refine Pu 25 ?_
    refine Pu 26 ?_
    refine dO ?_
    try go_wp2
    go_ret
    exact ⟨Ez, by exact eS HB.out⟩
   subst c24
   rw [if_pos rfl] at H
   obtain ⟨t12, A25, H⟩ := bn H
   (try dsimp only at H)
   obtain rfl := Option.some.inj H
   try go_wp2
   replace BK105 := kD BK105
   replace HB := bD HB
   refine sT 27 (H5 g5 (.slice A0_0 l0_0.length c0_0) (.int .i64 a0_1) (.int .i64 a0_2) (.int .i64 a0_3) (.int .i64 a0_4)) [] Fk.tab5 Fk.bits5 (h5 BK105) fun hHeld HT_ HW_ => ?_
   generalize wc.drew = w26 at BK105 HB hHeld ⊢
   refine Pu 0 ?_
   refine Ta 1 ?_
   refine oN 2 fun K hK => ?_
   refine gO Tryz.func46 #[.int .i64 a0_2] ?_
   with_reducible refine (Faz.calls a0_2 true _ A19.out).mono ?_
   rintro e w' ⟨rfl, ⟨nd, rfl⟩⟩
   refine ⟨_, rfl, ?_⟩
   refine hK.out _ _ (h5 BK105) (fun hHeld => ?_)
   clear hK K
   refine nO 32 ?_
   refine Pu 3 ?_
   refine Pu 4 ?_
   refine Ta 5 ?_
   refine oN 6 fun K hK => ?_
   refine gO Tryz.func46 #[.int .i64 a0_3] ?_
   with_reducible refine (Faz.calls a0_3 true _ A21.out).mono ?_
   rintro e w' ⟨rfl, ⟨nd, rfl⟩⟩
   refine ⟨_, rfl, ?_⟩
   refine hK.out _ _ (h5 BK105) (fun hHeld => ?_)
   clear hK K
   refine nO 36 ?_
   refine Pu 7 ?_
   refine Pu 8 ?_
   refine Pu 9 ?_
   refine Ta 10 ?_
   refine oN 11 fun K hK => ?_
   refine gO Tryz.func46 #[.int .i64 a0_4] ?_
   with_reducible refine (Faz.calls a0_4 true _ A23.out).mono ?_
   rintro e w' ⟨rfl, ⟨nd, rfl⟩⟩
   refine ⟨_, rfl, ?_⟩
   refine hK.out _ _ (h5 BK105) (fun hHeld => ?_)
   clear hK K
   refine nO 41 ?_
   refine Pu 12 ?_
   refine Pu 13 ?_
   refine Pu 14 ?_
   refine Pu 18 ?_
   refine Pu 21 ?_
   refine Ta 15 ?_
   refine Ta 16 ?_
   refine Ta 19 ?_
   refine Ta 22 ?_
   refine oN 17 fun K hK => ?_
   refine gO Tryz.func32 #[.agg #[.slice A0_0 l0_0.length c0_0, .int .i64 a0_1, .int .i64 a0_2, .int .i64 a0_3, .int .i64 a0_4]] ?_
   with_reducible refine (Fv.calls kj2 _ _ l0_0 a0_1 a0_2 a0_3 a0_4 t12 _ ?side1 ?side2 A25.out).mono ?_
   (case side1 => exact Kd.C_below HR0_0.out (es HB))
   (case side2 => exact HC0_0.out)
   rintro e w27 ⟨rfl, hb⟩
   refine ⟨_, rfl, ?_⟩
   replace BK105 := kT BK105 hb
   replace HB := bT HB hb
   clear hb
   refine hK.out _ _ (h5 BK105) (fun hHeld => ?_)
   clear hK K
   refine nO 47 ?_
   refine Pu 20 ?_
   refine Pu 23 ?_
   refine Pu 24 ?_
   refine Pu 25 ?_
   refine Pu 26 ?_
   refine dO ?_
   try go_wp2
   go_ret
   exact ⟨Ez, by exact eS HB.out⟩
end
/-! ### Fbo: function 50 -/
def Fbo.f (l0 : List (S33)) : Option ((List (S33))) := (some (([] : List (S33)) : List (S33))).bind fun y101 => (if y101.length + l0.length < 5864062014805 then (some (y101 ++ l0)) else (none))
theorem Fbo.calls (A0 : Option Addr) (c0 : Nat) (l0 : List (S33)) (r : List (S33)) (w : World) (hr0 : Kd.C k33 w A0 l0.length l0) (hc0 : l0.length ≤ c0) (h : Fbo.f l0 = some r) :
  Calls Tryz.prog 50 #[.slice A0 l0.length c0] w fun e w' => ∃ v0_ : Value, e = .returned (v0_) ∧ Kd.R k33 33 w' w.heap.size (fun _ => True) v0_ r ∧ Below w.heap.size w w' := by
 have HR0 := Aside0.mk hr0
 have HC0 := Aside0.mk hc0
 clear hr0 hc0
 have HB := Aside0.mk (Below.refl w.heap.size w)
 have H := h
 clear h
 unfold Fbo.f at H
 have hnil : ∀ (w : World) (a : Option Addr) (n c n' c' : Nat), (binOp .eql 24 (.slice a n c) (.slice none n' c')).run Tryz.prog w = .ok (.bool a.isNone) w := fun w a n c n' c' => Lib.run_eql_slice_nil w _ _ a n c n' c' Tryz.underlying24
 by_cases hA0 : A0 = none
 ·subst hA0
  have hl0 : l0 = [] := by
   refine List.eq_nil_of_length_eq_zero (Nat.eq_zero_of_not_pos fun hp_ => ?_)
   obtain ⟨ad, e, _⟩ := HR0.out.2.2 hp_
   cases e
  subst hl0
  obtain rfl : r = [] := by simpa using H.symm
  clear H HR0 HC0
  go_enter Tryz.func50, Tryz.ntmps50
  go_wp2
  go_ret
  exact ⟨_, rfl, Kd.R_nil _ _ _ _ _, HB.out⟩
 have hnil0 : A0.isNone = false := by cases A0 with | none => exact absurd rfl hA0 | some a => rfl
 clear hA0
 obtain ⟨y1, hy1⟩ : ∃ y_ : List (S33), y_ = (([] : List (S33))) := ⟨_, rfl⟩
 replace H : (if y1.length + l0.length < 5864062014805 then (some (y1 ++ l0)) else (none)) = some r := by first | (rw [hy1]; with_reducible exact H) | (have H2_ := (Option.bind_some _ _).symm.trans H; rw [hy1]; with_reducible exact H2_) | (have H2_ := (Option.bind_some _ _).symm.trans H; with_reducible exact H2_) | with_reducible exact H | (rw [hy1]; exact H) | exact H
 have Ny1 := Aside0.mk hy1
 clear hy1
 by_cases c2 : y1.length + l0.length < 5864062014805
 ·rw [if_pos c2] at H
  have LMc2 := Aside0.mk c2
  clear c2
  obtain ⟨y4, hy4⟩ : ∃ y_ : List (S33), y_ = (y1 ++ l0) := ⟨_, rfl⟩
  replace H : (some y4) = some r := by first | (rw [hy4]; with_reducible exact H) | (have H2_ := (Option.bind_some _ _).symm.trans H; rw [hy4]; with_reducible exact H2_) | (have H2_ := (Option.bind_some _ _).symm.trans H; with_reducible exact H2_) | with_reducible exact H | (rw [hy4]; exact H) | exact H
  have Ny4 := Aside0.mk hy4
  clear hy4
  obtain rfl := Option.some.inj H
  go_enter Tryz.func50, Tryz.ntmps50
  go_wp2_with (first | ((with_reducible refine gate_dst (N := 5) rfl ?_); refine Kd.R_lit k33 _ 33 ?hg (N := 5) ?hd (xs := ([] : List (S33))) (inner := []) (ok := fun _ => True) (okp := fun _ => True) ?hr ?hp (fun _ hk => hk) trivial (Below.refl _ _) (Nat.le_refl _) (by simp) ?_; (case hd => rfl); (case hg => rfl); (case hr => first | (go_simp; done) | (go_simp; rfl)); (case hp => exact (Reps.none _ _)); intro v2 w3 ho4 hb hg_ hnew_; clear hg_ hnew_; (first | rw [← Ny1.out] at ho4 | (simp only [Int.reduceToNat] at ho4; rw [← Ny1.out] at ho4)); have R3 := lw HB ho4; replace HB := bT HB hb; clear hb ho4) | ((with_reducible refine gate_builtin (b := .append) (xs := #[.tmp 5, .tmp 6]) rfl ?_); at_builtin; refine Kd.R_append_rows k33 (w0 := w) w.heap.size rfl (.tmp 5) (.tmp 6) 24 33 (.agg #[(.int .i64 0), (.int .i64 0), (.int .i64 0)]) 24 rfl Tryz.underlying24 info33 rfl (by decide) (by omega) v2 y1 l0 _ _ _ (fun _ => True) (fun _ => False) rfl rfl ?aO ?aR (fun _ _ h => h) (fun _ h => h.elim) ?aF ?aB ?aS ?aL ?_; (case aR => repeat (first | exact (Kd.C_below HR0.out HB.out) | (with_reducible refine Kd.C_alloc ?_ _) | (with_reducible refine Kd.C_drewN ?_ _) | (with_reducible refine Kd.C_drew ?_))); (case aB => exact (by exact eS HB.out)); (case aF => exact (fun _ _ => trivial)); (case aO => exact (by exact Ho.RS <| R3.out)); (case aS => exact (below_size (by exact eS HB.out))); (case aL => have := LMc2.out; omega); intro v5 w5 ho hb hg hat; rw [← Ny4.out] at ho; have R6 := Ak ho; replace HB := Ak hb; clear R3; clear ho hb hg hat))
  go_ret
  exact ⟨_, Ez, by exact Ho.RS <| R6.out, by exact eS HB.out⟩
 ·rw [if_neg c2] at H
  exact absurd H (by simp)
section
attribute [local go_sem ↓] Ho.isSome_setCell_
/-! ### Fao: function 51 -/
def Fao.f (a0_0 : Int) (a0_1 : Int) (a0_2 : Int) (a1_0 : Int) : Option (Bool) := some (a0_1 != a1_0)
theorem Fao.calls (a0_0 : Int) (a0_1 : Int) (a0_2 : Int) (g1 : Nat) (a1_0 : Int) (r : Bool) (w : World) (hb1 : w.heap[g1]? = some (.cells #[.int .i64 a1_0] 3 (0, 0))) (h : Fao.f a0_0 a0_1 a0_2 a1_0 = some r) :
  Calls Tryz.prog 51 #[.agg #[.int .i64 a0_0, .int .i64 a0_1, .int .i64 a0_2], .pointer (some ⟨g1, 0, none⟩)] w fun e w' => e = .returned (.bool r) ∧ Below w.heap.size w w' := by
 have hu33 := Tryz.underlying33
 have B1 := Aside0.mk hb1
 clear hb1
 have HB := Aside0.mk (Below.refl w.heap.size w)
 have H := h
 clear h
 unfold Fao.f at H
 obtain rfl := Option.some.inj H
 go_enter Tryz.func51, Tryz.ntmps51
 go_wp2_with (first | (refine bE 2 33 #[.int .i64 a0_0, .int .i64 a0_1, .int .i64 a0_2] ?_; intro gb101 hg w3 BK101 hb; have E1 := gW HB hg; obtain ⟨NB1_101, N1_1⟩ := nB B1 hg; replace B1 := kT B1 hb; replace HB := bT HB hb; clear hb hg; have hnb4 := nP N1_1; have hz5 := Sq.c3 BK101.out; have hcz6_0 : w3.cell? ⟨g1, 0, none⟩ = some (.int .i64 a1_0) := (blk_cell B1.out 0).trans rfl; have hfz6_0 := blk_frozen B1.out 0))
 go_ret
 exact ⟨Ez, by exact eS HB.out⟩
end
/-! ### Fap: function 100003 -/
def Fap.f (l0 : List (S33)) (a1_0 : Int) : Option Int := Ho.idxO (fun x_ => Fao.f x_.f0 x_.f1 x_.f2 a1_0) l0 0
theorem Fap.calls (A0 : Option Addr) (c0 : Nat) (l0 : List (S33)) (g1_0 : Nat) (a1_0 : Int) (r : Int) (w : World) (hr0 : Kd.C k33 w A0 l0.length l0) (hc0 : l0.length ≤ c0) (hb1_0 : w.heap[g1_0]? = some (.cells #[.int .i64 a1_0] 3 (0, 0))) (h : Fap.f l0 a1_0 = some r) :
  Calls Tryz.prog 56 #[.slice A0 l0.length c0, .func (.func 51) #[] #[.pointer (some ⟨g1_0, 0, none⟩)]] w fun e w' => e = .returned (.int .i64 r) ∧ Below w.heap.size w w' := by
 have ec : ∀ args w, (callFunc 51 args).run Tryz.prog w = .ok (.enter 51 args) w := fun args w => by kernel_rfl
 have hp : Ho.PredO Tryz.prog 51 #[.pointer (some ⟨g1_0, 0, none⟩)] (fun x_ : S33 => .agg #[.int .i64 x_.f0, .int .i64 x_.f1, .int .i64 x_.f2]) (fun x_ => Fao.f x_.f0 x_.f1 x_.f2 a1_0) w := ⟨fun W x_ b_ hB_ hx_ => (Fao.calls x_.f0 x_.f1 x_.f2 _ a1_0 b_ W (blk_below hb1_0 hB_) hx_).mono fun _ _ h_ => ⟨h_.1, h_.2⟩⟩
 exact ho_idx56 _ 51 _ ec w hp _ _ _ _ hr0 hc0 h
end Go.Proofs.YtiomfignokichaaGreatDoor.X

/-! clear(s[k:]) at a row of the call's own -/
namespace Go.Proofs.YtiomfignokichaaGreatDoor.X.Cl
open Go.RowKit Go.Proofs.YtiomfignokichaaGreatDoorW.PrintWords Go.Proofs.YtiomfignokichaaGreatDoorW.PrintLast Go.Proofs.YtiomfignokichaaGreatDoorW.PrintMore
/-- a row whose elements from k on are zero -/
def clr {α : Type} (l : List α) (k : Nat) (z : α) : List α := l.take k ++ List.replicate (l.length - k) z
theorem length_clr {α : Type} (l : List α) (k : Nat) (z : α) (h : k ≤ l.length) : (clr l k z).length = l.length := by
  unfold clr; rw [List.length_append, List.length_take, List.length_replicate]; omega
theorem zero_info {P : Program} {t : TypeId} {z : Value} {s b : Nat} (h : (P.info? t).map (fun i => (i.zero, i.size, i.bytes)) = some (some z, s, b)) : ∀ w, (zeroValue t).run P w = .ok z w := by
  obtain ⟨i, hi, hz⟩ := Option.map_eq_some_iff.1 h
  simp only [Prod.mk.injEq] at hz
  intro w
  simp [zeroValue, typeInfo, hi, hz.1]
section
variable {P : Program} {α : Type}
theorem R_clear_run (d : Kd α) {W : World} (base : Nat) (t ty e : TypeId) (z : Value) (bytes : Nat) (ht : P.underlying t = some (.slice e)) (hinfo : (P.info? e).map (fun i => (i.zero, i.size, i.bytes)) = some (some z, d.sz, bytes)) (hz : z.cells.size = d.sz) (hs0 : 0 < d.sz)
    (z0 : α) (hzero : d.M W base (fun _ => False) z0 z.cells.toList) {A0 : Option Addr} {n c k : Nat} {xs : List α} {ok : Nat → Prop} (HO : d.R e W base ok (.slice A0 n c) xs) (hk : k ≤ n) {A : Option Addr} (hA : A = if c = k then A0 else A0.map (·.add (k * d.sz))) (c2 : Nat) :
    ∃ w1, (Builtin.clear_ #[t] ty #[.slice A (n - k) c2]).run P W = .ok (.tuple #[]) w1 ∧ d.R e w1 base ok (.slice A0 n c) (clr xs k z0) ∧ W.grownBy w1 (Value.slice A0 n c).ownBlock := by
  obtain ⟨hn, hnc, _⟩ := Kd.R_reads' HO
  have hv := zero_info hinfo
  by_cases hkn : k = n
  · subst hkn
    have e0 : clr xs k z0 = xs := by unfold clr; rw [List.take_of_length_le (by omega), show xs.length - k = 0 by omega]; simp
    refine ⟨W, ?_, by rw [e0]; exact HO, ⟨rfl, rfl, rfl, Nat.le_refl _, fun _ _ _ => rfl⟩⟩
    rw [Nat.sub_self]
    cases A <;> simp [Builtin.clear_, run_underlying ht]
  obtain ⟨hok, inner, hown, hr⟩ := HO
  have hin : inner.length = n * d.sz := by rw [hr.1, hn]
  rcases hown.2 with ⟨hv0, _⟩ | ⟨g, cap', cur, hv0, hb, hh, _, hcm, hcs, htake⟩
  · injection hv0 with _ h2 _
    omega
  injection hv0 with ha _ hc
  subst ha; subst hc
  rw [if_neg (by omega), Option.map_some] at hA
  subst hA
  rw [← hn] at htake
  obtain ⟨news, hnews⟩ : ∃ news, news = (Builtin.zeroCells z.cells (n - k)).toList := ⟨_, rfl⟩
  have hzr : Reps (d.M W base (fun _ => False)) d.sz (List.replicate (n - k) z0) news := by rw [hnews]; exact Kd.reps_zeros hz hs0 hzero (n - k)
  have hnl : news.length = (n - k) * d.sz := by rw [hzr.1, List.length_replicate]
  have hone : ∀ u ∈ news, u.oneCell' = true := Kd.reps_one hzr hs0 (fun _ _ hp => d.K_one (d.K_of_M hp))
  have hle : k * d.sz + (n - k) * d.sz = n * d.sz := by rw [← Nat.add_mul]; congr 1; omega
  have hnc' : n * d.sz ≤ c * d.sz := Nat.mul_le_mul_right _ hnc
  have hfit : 0 + k * d.sz + news.length ≤ cur.size := by omega
  have hst := run_storeCells_cells (P := P) g (k * d.sz) news 0 W (fun j hj => by rw [cell_of_row W g _ cur e (0, 0) hh]; simp; omega) (fun j _ => blk_frozen hh _) hone
  obtain ⟨cur', h3, h4, h5⟩ := setCells_row news (0 + k * d.sz) W cur hh hfit
  obtain ⟨s1, s2, s3, s4⟩ := setCells_same g news (0 + k * d.sz) W
  have hfar : ∀ k', k' ≠ g → (W.setCells g (0 + k * d.sz) news).heap[k']? = W.heap[k']? := fun k' hk' => setCells_far news _ k' hk'
  have hgo : some g = (Value.slice (some ⟨g, 0, none⟩) n c).ownBlock := by simp [Value.ownBlock]
  have hlen : (clr xs k z0).length = n := by rw [length_clr xs k z0 (by omega), hn]
  refine ⟨W.setCells g (0 + k * d.sz) news, ?_, ⟨hok, inner.take (k * d.sz) ++ news, ⟨?_, .inr ⟨g, c, cur', by rw [hlen], hb, h3, by rw [hlen]; omega, hcm, by rw [h4, hcs], ?_⟩⟩, ?_⟩, ⟨s1, s2, s3, by rw [s4]; exact Nat.le_refl _, fun k' _ hk' => hfar k' (fun he => hk' (by rw [he]; simp [Value.ownBlock]))⟩⟩
  · obtain ⟨m, hm⟩ : ∃ m, n - k = m + 1 := ⟨n - k - 1, by omega⟩
    rw [hm] at hnews ⊢
    have hst2 : (storeCells ((⟨g, 0, none⟩ : Addr).add (k * d.sz)) news).run P W = .ok () (W.setCells g (0 + k * d.sz) news) := by
      rw [show (⟨g, 0, none⟩ : Addr).add (k * d.sz) = ⟨g, k * d.sz, none⟩ by rw [add_at, Nat.zero_add]]
      simpa [Nat.add_comm] using hst
    simp [Builtin.clear_, run_underlying ht, hv, ← hnews, hst2]
  · rw [List.length_append, List.length_take, hnl, hlen]; omega
  · rw [hlen, h5, Nat.zero_add]
    have h7 : cur.toList.take (k * d.sz) = inner.take (k * d.sz) := by
      rw [← htake, List.take_take, Nat.min_eq_left (by omega)]
    rw [h7]
    exact List.take_left' (by rw [List.length_append, List.length_take, hnl]; omega)
  · have hmv : ∀ p q, d.M W base (fun k' => ok k' ∧ some k' ≠ (Value.slice (some ⟨g, 0, none⟩) n c).ownBlock) p q → d.M (W.setCells g (0 + k * d.sz) news) base (fun k' => ok k' ∧ some k' ≠ (Value.slice (some ⟨g, 0, none⟩) n c).ownBlock) p q := fun p q hp =>
      d.M_move (fun k' hk' => hfar k' (fun he => hk'.2 (by rw [← hgo, he]))) hp
    have hmz : ∀ p q, d.M W base (fun _ => False) p q → d.M (W.setCells g (0 + k * d.sz) news) base (fun k' => ok k' ∧ some k' ≠ (Value.slice (some ⟨g, 0, none⟩) n c).ownBlock) p q := fun p q hp =>
      d.M_mono (fun _ hk' => hk'.elim) (d.M_move (fun k' hk' => hk'.elim) hp)
    unfold clr
    rw [show xs.length - k = n - k by omega]
    exact Kd.reps_append ((Kd.reps_take hr (by omega)).imp_ hmv) (hzr.imp_ hmz)
end
section
variable {P : Program} {o : Oper} {a : Act} {next : Act → World → Prop} {Q : Exit → Act → World → Prop} {α : Type}
theorem R_clear (d : Kd α) {w0 W : World} (base : Nat) (t ty e : TypeId)
    (z : Value) (bytes : Nat) (ht : P.underlying t = some (.slice e)) (hinfo : (P.info? e).map (fun i => (i.zero, i.size, i.bytes)) = some (some z, d.sz, bytes)) (hz : z.cells.size = d.sz) (hs0 : 0 < d.sz)
    (z0 : α) (hzero : d.M W base (fun _ => False) z0 z.cells.toList) {A0 : Option Addr} {n c k m c2 : Nat} {A : Option Addr} {xs : List α} {ok : Nat → Prop}
    (hd : o.dst = none) (hA : A = if c = k then A0 else A0.map (·.add (k * d.sz))) (hm : m = n - k)
    (HO : d.R e W base ok (.slice A0 n c) xs) (hk : k ≤ n) (HB : Below base w0 W) (hbase : base ≤ W.heap.size)
    (h : ∀ w1, d.R e w1 base ok (.slice A0 n c) (clr xs k z0) → Below base w0 w1 → W.grownBy w1 (Value.slice A0 n c).ownBlock → next a w1) :
    Oper.upon P o a next Q ((Sem.run P (Builtin.clear_ #[t] ty #[.slice A m c2]) W).andThen fun v w' => Result.ok (Next.value v) w') := by
  subst hm
  obtain ⟨w1, hr, h1, h2⟩ := R_clear_run (P := P) d base t ty e z bytes ht hinfo hz hs0 z0 hzero HO hk hA c2
  rw [hr]
  show next (a.put o.dst (.tuple #[])) w1
  rw [hd]
  exact h w1 h1 (HB.grown h2 hbase (Kd.R_base HO)) h2
end
/-! a view of a row's end, read while the row's front is written -/
theorem view_cell {w : World} {ad : Addr} {A1 : Option Addr} {x y : List Int} {n c k0 : Nat} (hC : Kd.C (Kd.int .i64) w (some ad) n x) (hA : A1 = if c = k0 then some ad else (some ad).map (·.add (k0 * 1))) (hc : n ≤ c) (hk : k0 + y.length ≤ n) (i : Int) (h0 : 0 ≤ i) (h1 : i < y.length) (hv : x.getD (k0 + i.toNat) 0 = y.getD i.toNat 0) : ∃ a, A1 = some a ∧ w.cell? (a.add i.toNat) = some (.int .i64 (rd y i)) := by
  obtain ⟨ad', e, hx⟩ := Kd.at_int hC ((k0 : Int) + i) (by omega) (by omega)
  cases e
  rw [if_neg (by omega)] at hA
  refine ⟨ad.add (k0 * 1), hA, ?_⟩
  have e2 : (ad.add (k0 * 1)).add i.toNat = ad.add ((k0 : Int) + i).toNat := by
    rw [show ((k0 : Int) + i).toNat = k0 + i.toNat by omega, Nat.mul_one]
    unfold Addr.add
    by_cases g : k0 = 0
    · subst g; simp
    · by_cases g2 : i.toNat = 0
      · simp [g, g2]
      · simp [g, g2, Nat.add_assoc]
  have e3 : rd x ((k0 : Int) + i) = rd y i := by
    show x.getD ((k0 : Int) + i).toNat 0 = y.getD i.toNat 0
    rw [show ((k0 : Int) + i).toNat = k0 + i.toNat by omega]; exact hv
  rw [e2, hx, e3]
/-- what is still to be read of the view is what it was; what was written lies ahead of it -/
def VJ (k0 : Int) (y x : List Int) (o i : Int) : Prop := 0 ≤ k0 ∧ 1 ≤ i ∧ 0 ≤ o ∧ o + 1 ≤ k0 + i ∧ ∀ j : Nat, i ≤ (j : Int) + 1 → j < y.length → x.getD (k0.toNat + j) 0 = y.getD j 0
theorem VJ_start {k0 : Int} {x y : List Int} (h0 : 0 ≤ k0) (hy : y = x.drop k0.toNat) : VJ k0 y x k0 1 := by
  refine ⟨h0, by omega, h0, by omega, fun j _ _ => ?_⟩
  rw [hy, List.getD_eq_getElem?_getD, List.getD_eq_getElem?_getD, List.getElem?_drop]
theorem VJ_next {k0 o i : Int} {x y : List Int} (h : VJ k0 y x o i) (hN : k0.toNat + y.length ≤ 9223372036854775807) (hi : i < y.length) : VJ k0 y x o (wrap64 (i + 1)) := by
  obtain ⟨h0, h1, h2, h3, h4⟩ := h
  have e : wrap64 (i + 1) = i + 1 := by unfold wrap64; omega
  rw [e]
  exact ⟨h0, by omega, h2, by omega, fun j a b => h4 j (by omega) b⟩
theorem VJ_put {k0 o i v : Int} {x y : List Int} (h : VJ k0 y x o i) (hN : k0.toNat + y.length ≤ 9223372036854775807) (hi : i < y.length) : VJ k0 y (x.set o.toNat v) (wrap64 (o + 1)) (wrap64 (i + 1)) := by
  obtain ⟨h0, h1, h2, h3, h4⟩ := h
  have e : wrap64 (i + 1) = i + 1 := by unfold wrap64; omega
  have e2 : wrap64 (o + 1) = o + 1 := by unfold wrap64; omega
  rw [e, e2]
  refine ⟨h0, by omega, by omega, by omega, fun j a b => ?_⟩
  rw [← h4 j (by omega) b, List.getD_eq_getElem?_getD, List.getD_eq_getElem?_getD, List.getElem?_set_ne (by omega)]
end Go.Proofs.YtiomfignokichaaGreatDoor.X.Cl

namespace Go.Proofs.YtiomfignokichaaGreatDoor.X
open Ho (bS eS)
open Sq (I O Z)
open Mx
open Go.RowKit Go.Proofs.YtiomfignokichaaGreatDoorW.PrintWords Go.Proofs.YtiomfignokichaaGreatDoorW.PrintLast Go.Proofs.YtiomfignokichaaGreatDoorW.PrintMore
attribute [local go_sem] max2_int min2_int max_two min_two max_three min_three max_four min_four
set_option linter.unusedVariables false
set_option linter.unusedSimpArgs false
set_option maxHeartbeats 8000000
set_option maxRecDepth 100000
section
attribute [local go_sem ↓] Ho.isSome_setCell_
/-! ### Fd: function 100002 -/
def Fd.l0 : Nat → List (S33) → Int → Int → Int → Option ((List (S33)))
  | 0, _, _, _, _ => none
  | k + 1, x0, x5, x6, x61000 => if x6 < (x0.length : Int) then (if 0 ≤ x6 then ((Fao.f ((rd_T33 x0 x6).f0) ((rd_T33 x0 x6).f1) ((rd_T33 x0 x6).f2) x61000).bind fun t104 => (if t104 = true then (Fd.l0 k x0 x5 (wrap64 (x6 + 1)) x61000) else (if 0 ≤ x5 then (if x5 < (x0.length : Int) then (Fd.l0 k (x0.set (x5 : Int).toNat (⟨(rd_T33 x0 x6).f0, (rd_T33 x0 x6).f1, (rd_T33 x0 x6).f2⟩ : S33)) (wrap64 (x5 + 1)) (wrap64 (x6 + 1)) x61000) else (none)) else (none)))) else (none)) else (if 0 ≤ x5 then (if x5 ≤ (x0.length : Int) then (some ((Cl.clr x0 ((x5 : Int).toNat) z33).take (x5 : Int).toNat)) else (none)) else (none))
def Fd.f (k : Nat) (l0 : List (S33)) (a1_0 : Int) : Option ((List (S33))) := (Fap.f l0 a1_0).bind fun t101 => (if t101 = (-1) then (some l0) else (Fd.l0 k l0 t101 (wrap64 (t101 + 1)) a1_0))
theorem Fd.mono_l : ∀ k, (∀ y0 y1 y2 y3, LeO (Fd.l0 k y0 y1 y2 y3) (Fd.l0 (k + 1) y0 y1 y2 y3))
  | 0 => fun _ _ _ _ r h => by simp [Fd.l0] at h
  | k + 1 => by
    have ih0 := Fd.mono_l k
    · intro y0 y1 y2 y3
      unfold Fd.l0
      repeat' (with_reducible first | exact ih0 _ _ _ _ | exact LeO.refl _ | exact LeO.none _ | refine LeO.ite ?_ ?_ | refine LeO.bind ?_ (fun _ => ?_))
theorem Fd.mono : ∀ a0 a1 k, LeO (Fd.f k a0 a1) (Fd.f (k + 1) a0 a1) := by
  intro a0 a1 k
  have ih0 := Fd.mono_l k
  unfold Fd.f
  repeat' (with_reducible first | exact ih0 _ _ _ _ | exact LeO.refl _ | exact LeO.none _ | refine LeO.ite ?_ ?_ | refine LeO.bind ?_ (fun _ => ?_))
theorem Fd.calls (k : Nat) (P0_ : Nat → Prop) (u9000_ : Value) (l0 : List (S33)) (g1_0 : Nat) (a1_0 : Int) (r : List (S33)) (w0 w : World) (hB : Below w0.heap.size w0 w) (ho0 : Kd.R k33 33 w w0.heap.size P0_ u9000_ l0) (hb1_0 : w.heap[g1_0]? = some (.cells #[.int .i64 a1_0] 3 (0, 0))) (h : Fd.f k l0 a1_0 = some r) :
  Calls Tryz.prog 28 #[u9000_, .func (.func 51) #[] #[.pointer (some ⟨g1_0, 0, none⟩)]] w fun e w' => ∃ v0_ : Value, e = .returned (v0_) ∧ Kd.R k33 33 w' w0.heap.size (fun k_ => (P0_ k_ ∨ w.heap.size ≤ k_)) v0_ r ∧ Below w0.heap.size w0 w' ∧ Kept w w' (fun k_ => P0_ k_) := by
 have hu33 := Tryz.underlying33
 have R0 := Aside0.mk (show Kd.R k33 33 w w0.heap.size (fun k_ => (P0_ k_ ∨ w.heap.size ≤ k_)) u9000_ l0 from Kd.R_mono ho0 (fun k_ hk => (.inl hk)))
 have HK := Aside0.mk (Kept.refl w (fun k_ => P0_ k_))
 have B60 := Aside0.mk hb1_0
 clear hb1_0
 have HW0 := Aside0.mk hB.size
 have HB := Aside0.mk hB
 clear hB
 have H := h
 clear h
 unfold Fd.f at H
 obtain ⟨t1, A3, H⟩ := bn H
 (try dsimp only at H)
 by_cases c4 : t1 = (-1)
 ·rw [if_pos c4] at H
  have c4b0 := beq_iff_eq.mpr c4
  have c4b1 := bne_eq_false_iff_eq.mpr c4
  clear c4
  obtain rfl := Option.some.inj H
  obtain ⟨Ao5, co5, eo5⟩ := Kd.R_slice R0.out
  subst eo5
  go_enter Tryz.func28, Tryz.ntmps28
  go_wp2_with (first | (refine cE (some 10) Tryz.func56 #[.slice Ao5 l0.length co5, .func (.func 51) #[] #[.pointer (some ⟨g1_0, 0, none⟩)]] ?_; (refine (Fap.calls _ _ l0 g1_0 a1_0 t1 _ ?side1 ?side2 ?side3 A3.out).mono ?_); (case side1 => exact Cs (Kd.R_reads' R0.out).2.2); (case side2 => exact (Kd.R_reads' R0.out).2.1); (case side3 => exact bS B60.out); rintro e w6 ⟨rfl, hb⟩; refine ⟨_, rfl, ?_⟩; replace R0 := rT R0 hb; replace B60 := kT B60 hb; replace HK := Ak (Kept.below (S := (fun k_ => P0_ k_)) (by exact Ho.KS HK.out) hb); replace HB := bT HB hb; clear hb))
  go_ret
  exact ⟨_, Ez, by exact Ho.RS <| R0.out, by exact eS HB.out, by exact Ho.KS HK.out⟩
 rw [if_neg c4] at H
 have c4b0 := beq_eq_false_iff_ne.mpr c4
 have c4b1 := bne_iff_ne.mpr c4
 have H' := Aside0.mk H
 clear H
 obtain ⟨Ao7, co7, eo7⟩ := Kd.R_slice R0.out
 subst eo7
 go_enter Tryz.func28, Tryz.ntmps28
 go_wp2_with (first | (refine cE (some 10) Tryz.func56 #[.slice Ao7 l0.length co7, .func (.func 51) #[] #[.pointer (some ⟨g1_0, 0, none⟩)]] ?_; (refine (Fap.calls _ _ l0 g1_0 a1_0 t1 _ ?side1 ?side2 ?side3 A3.out).mono ?_); (case side1 => exact Cs (Kd.R_reads' R0.out).2.2); (case side2 => exact (Kd.R_reads' R0.out).2.1); (case side3 => exact bS B60.out); rintro e w8 ⟨rfl, hb⟩; refine ⟨_, rfl, ?_⟩; replace R0 := rT R0 hb; replace B60 := kT B60 hb; replace HK := Ak (Kept.below (S := (fun k_ => P0_ k_)) (by exact Ho.KS HK.out) hb); replace HB := bT HB hb; clear hb))
 go_loopg [5, 6] k (fun kq v5 v6 w' => ∃ (x0_1 : List (S33)) (x5_1 : Int) (x6_1 : Int), v5 = .int .i64 x5_1 ∧ v6 = .int .i64 x6_1 ∧ Aside0 (Fd.l0 kq x0_1 x5_1 x6_1 a1_0 = some r) ∧ Aside0 (kq ≤ k) ∧ Aside0 (Kd.R k33 33 w' w0.heap.size (fun k_ => (P0_ k_ ∨ w.heap.size ≤ k_)) (.slice Ao7 l0.length co7) x0_1) ∧ Aside0 (w'.heap[g1_0]? = some (.cells #[.int .i64 a1_0] 3 (0, 0))) ∧ Aside0 (Kept w w' (fun k_ => P0_ k_)) ∧ Aside0 (Below w0.heap.size w0 w'))
 case atStart => exact ⟨(l0), (t1), (wrap64 (t1 + 1)), Ey, Ey, H', ⟨Nat.le_refl _⟩, ⟨rs R0⟩, ⟨ks B60⟩, ⟨by exact Ho.KS HK.out⟩, ⟨es HB⟩⟩
 case round =>
  clear H'
  try clear c2
  try clear p2
  try clear c4
  try clear c4b0
  try clear c4b1
  try clear c5
  try clear p6
  obtain ⟨x0_1, x5_1, x6_1, rfl, rfl, HA, HK1, R_0, B60, HK, HB⟩ := hrel
  have hl0_1 := (Kd.R_reads' R_0.out).1
  rw [hl0_1] at R_0
  (try simp only [hl0_1])
  (try simp only [hl0_1] at B60)
  cases gk with
  | zero => exact absurd HA.out (by simp [Fd.l0])
  | succ k1 =>
   have H := HA.out
   clear HA
   simp only [Fd.l0] at H
   by_cases c9 : x6_1 < (x0_1.length : Int)
   rotate_left
   ·rw [if_neg c9] at H
    have c9b0 := decide_eq_false c9
    clear c9
    by_cases c27 : 0 ≤ x5_1
    rotate_left
    ·rw [if_neg c27] at H
     exact absurd H (by simp)
    rw [if_pos c27] at H
    have c27b0 := eq_true c27
    have c27b1 := decide_eq_true c27
    clear c27
    by_cases c28 : x5_1 ≤ (x0_1.length : Int)
    rotate_left
    ·rw [if_neg c28] at H
     exact absurd H (by simp)
    rw [if_pos c28] at H
    have c28b0 := eq_true c28
    have c28b1 := decide_eq_true c28
    clear c28
    obtain ⟨y6, hy6⟩ : ∃ y_ : List (S33), y_ = (x0_1.drop (x5_1 : Int).toNat) := ⟨_, rfl⟩
    replace H : (some ((Cl.clr x0_1 ((x5_1 : Int).toNat) z33).take (x5_1 : Int).toNat)) = some r := by first | (rw [hy6]; with_reducible exact H) | (have H2_ := (Option.bind_some _ _).symm.trans H; rw [hy6]; with_reducible exact H2_) | (have H2_ := (Option.bind_some _ _).symm.trans H; with_reducible exact H2_) | with_reducible exact H | (rw [hy6]; exact H) | exact H
    have Ny6 := Aside0.mk hy6
    clear hy6
    obtain ⟨y10, hy10⟩ : ∃ y_ : List (S33), y_ = (Cl.clr x0_1 ((x5_1 : Int).toNat) z33) := ⟨_, rfl⟩
    replace H : (some (y10.take (x5_1 : Int).toNat)) = some r := by first | (rw [hy10]; with_reducible exact H) | (have H2_ := (Option.bind_some _ _).symm.trans H; rw [hy10]; with_reducible exact H2_) | (have H2_ := (Option.bind_some _ _).symm.trans H; with_reducible exact H2_) | with_reducible exact H | (rw [hy10]; exact H) | exact H
    have Ny10 := Aside0.mk hy10
    clear hy10
    have c29b0 := eq_true (Dz : x5_1 ≤ (x0_1.length : Int))
    obtain ⟨y11, hy11⟩ : ∃ y_ : List (S33), y_ = (y10.take (x5_1 : Int).toNat) := ⟨_, rfl⟩
    replace H : (some y11) = some r := by first | (rw [hy11]; with_reducible exact H) | (have H2_ := (Option.bind_some _ _).symm.trans H; rw [hy11]; with_reducible exact H2_) | (have H2_ := (Option.bind_some _ _).symm.trans H; with_reducible exact H2_) | with_reducible exact H | (rw [hy11]; exact H) | exact H
    have Ny11 := Aside0.mk hy11
    clear hy11
    obtain rfl := Option.some.inj H
    have q30 : (x5_1 : Int) ≤ ((x0_1.length : Int) : Int) := Dz
    obtain ⟨i030, hi030, _, hsz30, _⟩ := info_parts info33
    have hroom30 : x0_1.length ≤ co7 := (Kd.R_reads' R_0.out).2.1
    have hC30 : Kd.C k33 _ Ao7 x0_1.length x0_1 := (Kd.R_reads' R_0.out).2.2
    have q030 : (0 : Int) ≤ (x5_1 : Int) := Dz
    have hcut30 := cut_from (P := Tryz.prog) 24 33 .i64 Tryz.underlying24 hi030 3 hsz30 Ao7 x0_1.length co7 x5_1 q030 q30
    have hr30 := Kd.C_drop (m := (x5_1 : Int).toNat) (c := co7) hC30 (by omega) hroom30
    obtain ⟨A30, hA30⟩ : ∃ A1, A1 = (if co7 = (x5_1 : Int).toNat then Ao7 else (Ao7 : Option Addr).map (·.add ((x5_1 : Int).toNat * 3))) := ⟨_, rfl⟩
    obtain ⟨c30, hc30⟩ : ∃ c1, c1 = co7 - (x5_1 : Int).toNat := ⟨_, rfl⟩
    have hy30 : y6.length = x0_1.length - (x5_1 : Int).toNat := (by rw [Ny6.out, List.length_drop] <;> omega)
    rw [show (x0_1).drop (x5_1 : Int).toNat = y6 from Ny6.out.symm] at hr30
    replace hr30 : Kd.C k33 _ A30 y6.length y6 := (by rw [hA30]; exact hr30)
    rw [← hy30, ← hA30, ← hc30] at hcut30
    have HR109 := Aside0.mk hr30
    have HC109 := Aside0.mk (show y6.length ≤ c30 from by rw [hy30, hc30]; exact Nat.sub_le_sub_right hroom30 _)
    clear hr30 hC30 hroom30 hi030 hsz30 hc30
    have KY30 := Aside0.mk hy30
    have KA30 := Aside0.mk hA30
    clear hy30 hA30
    have KL30 := Aside0.mk (show (x5_1 : Int).toNat ≤ x0_1.length from by omega)
    replace q30 := eq_true q30
    go_wp2_with (first | (have hj_ : 0 ≤ (x5_1 : Int) := Dz; have hl_ : (x5_1 : Int) ≤ (x0_1.length : Int) := Dz; refine Cl.R_clear k33 (w0 := w0) w0.heap.size 24 _ 33 (.agg #[(.int .i64 0), (.int .i64 0), (.int .i64 0)]) 24 Tryz.underlying24 info33 rfl (by decide) z33 (show (k33).M _ _ _ z33 _ from k33_mkM _ _ _ z33) (A0 := Ao7) (n := x0_1.length) (c := co7) (k := (x5_1 : Int).toNat) rfl KA30.out KY30.out (by exact Ho.RS <| R_0.out) (by omega) (by exact eS HB.out) (below_size (by exact eS HB.out)) ?_; intro w31 ho hb hg; clear hj_ hl_; rw [← Ny10.out] at ho; have hlqy110_ := Nat.le_of_eq (Kd.R_reads' ho).1; have hlpy110_ := Nat.le_of_eq (Kd.R_reads' ho).1.symm; have n0_ := Aside0.mk (ho); have n1_ := Aside0.mk (blk_grown (bS B60.out) hg (Kd.R_ne R_0.out B60.out (by decide))); have n2_ := Aside0.mk (hb); have n3_ := Aside0.mk (Kept.of_grown (S := (fun k_ => P0_ k_)) hg (by exact Ho.KS HK.out) (fun k_ e_ => (R_0.out.1 k_ e_))); clear R_0; clear B60; clear HB; clear HK; have R_0 := n0_; have B60 := n1_; have HB := n2_; have HK := n3_; clear n0_ n1_ n2_ n3_; clear ho hb hg; have q32 : (x5_1 : Int) ≤ ((x0_1.length : Int) : Int) := Dz; obtain ⟨i032, hi032, _, hsz32, _⟩ := info_parts info33; have hcut32 := cut_to (P := Tryz.prog) 24 33 .i64 Tryz.underlying24 hi032 Ao7 x0_1.length co7 x5_1 (Dz) q32 (Kd.R_reads' R_0.out).2.1; have hr32 := Kd.R_take (m := (x5_1 : Int).toNat) R_0.out (by omega); have hy32 : y11.length = (x5_1 : Int).toNat := (by rw [Ny11.out, List.length_take]; omega); rw [← Ny11.out] at hr32; rw [← hy32] at hr32 hcut32; clear hy32 hi032 hsz32 R_0; have R13 := Aside0.mk hr32; clear hr32; replace q32 := eq_true q32))
    go_ret
    exact ⟨_, Ez, by exact Ho.RS <| R13.out, by exact eS HB.out, by exact Ho.KS HK.out⟩
   rw [if_pos c9] at H
   have c9b0 := decide_eq_true c9
   clear c9
   by_cases c10 : 0 ≤ x6_1
   rotate_left
   ·rw [if_neg c10] at H
    exact absurd H (by simp)
   rw [if_pos c10] at H
   have c10b0 := decide_eq_true c10
   clear c10
   obtain ⟨t4, A11, H⟩ := bn H
   (try dsimp only at H)
   by_cases c12 : t4 = true
   ·subst c12
    rw [if_pos rfl] at H
    have H' := Aside0.mk H
    clear H
    have p102 : 0 ≤ (x6_1 : Int) := Dz
    have q2 : x6_1 < (x0_1.length : Int) := Dz
    obtain ⟨ad2, e2, hx2_0, hx2_1, hx2_2⟩ := at_T33 (Kd.R_reads' R_0.out).2.2 x6_1 p102 q2
    cases e2
    replace p102 := eq_true p102
    replace q2 := eq_true q2
    go_wp2_with (first | (refine bE 7 33 #[.int .i64 0, .int .i64 0, .int .i64 0] ?_; intro g3 hg w13 B3 hb; have G3 := Ak ((by rw [hg]; exact (by first | exact HK.out.1 | exact (show Kept w _ (fun k_ => P0_ k_) from by exact Ho.KS HK.out).1) : w.heap.size ≤ g3)); have E3 := Ak ((by rw [hg]; exact (below_size (by exact eS HB.out)) : w0.heap.size ≤ g3)); obtain ⟨N60_3, N3_60⟩ := nB B60 hg; replace R_0 := rE R_0 hg hb; replace B60 := kT B60 hb; replace HK := Ak (Kept.below (S := (fun k_ => P0_ k_)) (by exact Ho.KS HK.out) hb); replace HB := bT HB hb; clear hb hg; have hnb14 := nP N3_60; have hz15 := Sq.c3 B3.out) | (go_at_call 51; (with_reducible refine (Fao.calls ((rd_T33 x0_1 x6_1).f0) ((rd_T33 x0_1 x6_1).f1) ((rd_T33 x0_1 x6_1).f2) g1_0 a1_0 true _ ?side1 A11.out).mono ?_); (case side1 => (with_reducible repeat (first | refine blk_drewN ?_ _ | refine blk_drew ?_ | refine blk_alloc ?_ _)); refine blk_far ?_ N60_3.out _; (with_reducible repeat (first | refine blk_drewN ?_ _ | refine blk_drew ?_ | refine blk_alloc ?_ _)); refine blk_far ?_ N60_3.out _; (with_reducible repeat (first | refine blk_drewN ?_ _ | refine blk_drew ?_ | refine blk_alloc ?_ _)); refine blk_far ?_ N60_3.out _; exact bS B60.out); rintro e w16 ⟨rfl, hb⟩; replace R_0 := Ak (Kd.R_below (by exact Ho.RS <| (Kd.R_mono (Kd.R_far (p := ⟨g3, 2, none⟩) (Kd.R_far (p := ⟨g3, 1, none⟩) (Kd.R_far (p := ⟨g3, 0, none⟩) (Kd.R_mono R_0.out (fun k_ hk => (⟨hk, hk.2⟩ : _ ∧ k_ ≠ g3))) (fun _ hk => hk.2) (.int .i64 ((rd_T33 x0_1 x6_1).f0))) (fun _ hk => hk.2) (.int .i64 ((rd_T33 x0_1 x6_1).f1))) (fun _ hk => hk.2) (.int .i64 ((rd_T33 x0_1 x6_1).f2))) (fun _ h_ => h_.1))) hb); replace B60 := Ak (blk_below (g := g1_0) (o := .cells #[.int .i64 a1_0] 3 (0, 0)) (Kz) hb); replace B3 := Ak (blk_below (g := g3) (o := .cells #[.int .i64 ((rd_T33 x0_1 x6_1).f0), .int .i64 ((rd_T33 x0_1 x6_1).f1), .int .i64 ((rd_T33 x0_1 x6_1).f2)] 33 (0, 0)) (by apply Sq.put3; exact bS B3.out) hb); replace HK := Ak (Kept.below (S := (fun k_ => P0_ k_)) (by repeat (first | (with_reducible first | exact HK.out | apply Kept.alloc | apply Kept.drewN | apply Kept.drew | refine Kept.setCell ?_ (.inr G60.out) _ | refine Kept.setCell ?_ (.inr G3.out) _) | exact HK.out)) hb); replace HB := Ak (below_step (Bq) hb); clear hb))
    (try simp only [← hl0_1])
    go_roundg k1
    case measure => have := HK1.out; omega
    case rel => exact ⟨(x0_1), (x5_1), (wrap64 (x6_1 + 1)), Ey, Ey, H', ⟨by have := HK1.out; omega⟩, ⟨by (try simp only [hl0_1]); exact Ho.RS <| Kd.R_mono R_0.out (fun _ hk => hk.1)⟩, ⟨by (try simp only [hl0_1]); exact bS B60.out⟩, ⟨by exact Ho.KS HK.out⟩, ⟨es HB⟩⟩
   replace c12 := Bool.eq_false_iff.mpr c12
   subst c12
   rw [if_neg (show ¬ (false = true) by decide)] at H
   by_cases c17 : 0 ≤ x5_1
   rotate_left
   ·rw [if_neg c17] at H
    exact absurd H (by simp)
   rw [if_pos c17] at H
   have c17b0 := decide_eq_true c17
   clear c17
   by_cases c18 : x5_1 < (x0_1.length : Int)
   rotate_left
   ·rw [if_neg c18] at H
    exact absurd H (by simp)
   rw [if_pos c18] at H
   have c18b0 := decide_eq_true c18
   clear c18
   obtain ⟨y5, hy5⟩ : ∃ y_ : List (S33), y_ = (x0_1.set (x5_1 : Int).toNat (⟨(rd_T33 x0_1 x6_1).f0, (rd_T33 x0_1 x6_1).f1, (rd_T33 x0_1 x6_1).f2⟩ : S33)) := ⟨_, rfl⟩
   replace H : (Fd.l0 k1 y5 (wrap64 (x5_1 + 1)) (wrap64 (x6_1 + 1)) a1_0) = some r := by first | (rw [hy5]; with_reducible exact H) | (have H2_ := (Option.bind_some _ _).symm.trans H; rw [hy5]; with_reducible exact H2_) | (have H2_ := (Option.bind_some _ _).symm.trans H; with_reducible exact H2_) | with_reducible exact H | (rw [hy5]; exact H) | exact H
   have Ny5 := Aside0.mk hy5
   clear hy5
   have H' := Aside0.mk H
   clear H
   have p102 : 0 ≤ (x6_1 : Int) := Dz
   have q2 : x6_1 < (x0_1.length : Int) := Dz
   obtain ⟨ad2, e2, hx2_0, hx2_1, hx2_2⟩ := at_T33 (Kd.R_reads' R_0.out).2.2 x6_1 p102 q2
   cases e2
   replace p102 := eq_true p102
   replace q2 := eq_true q2
   go_wp2_with (first | (refine bE 7 33 #[.int .i64 0, .int .i64 0, .int .i64 0] ?_; intro g3 hg w20 B3 hb; have G3 := Ak ((by rw [hg]; exact (by first | exact HK.out.1 | exact (show Kept w _ (fun k_ => P0_ k_) from by exact Ho.KS HK.out).1) : w.heap.size ≤ g3)); have E3 := Ak ((by rw [hg]; exact (below_size (by exact eS HB.out)) : w0.heap.size ≤ g3)); obtain ⟨N60_3, N3_60⟩ := nB B60 hg; replace R_0 := rE R_0 hg hb; replace B60 := kT B60 hb; replace HK := Ak (Kept.below (S := (fun k_ => P0_ k_)) (by exact Ho.KS HK.out) hb); replace HB := bT HB hb; clear hb hg; have hnb21 := nP N3_60; have hz22 := Sq.c3 B3.out) | (go_at_call 51; (with_reducible refine (Fao.calls ((rd_T33 x0_1 x6_1).f0) ((rd_T33 x0_1 x6_1).f1) ((rd_T33 x0_1 x6_1).f2) g1_0 a1_0 false _ ?side1 A11.out).mono ?_); (case side1 => (with_reducible repeat (first | refine blk_drewN ?_ _ | refine blk_drew ?_ | refine blk_alloc ?_ _)); refine blk_far ?_ N60_3.out _; (with_reducible repeat (first | refine blk_drewN ?_ _ | refine blk_drew ?_ | refine blk_alloc ?_ _)); refine blk_far ?_ N60_3.out _; (with_reducible repeat (first | refine blk_drewN ?_ _ | refine blk_drew ?_ | refine blk_alloc ?_ _)); refine blk_far ?_ N60_3.out _; exact bS B60.out); rintro e w23 ⟨rfl, hb⟩; replace R_0 := Ak (Kd.R_below (by exact Ho.RS <| (Kd.R_mono (Kd.R_far (p := ⟨g3, 2, none⟩) (Kd.R_far (p := ⟨g3, 1, none⟩) (Kd.R_far (p := ⟨g3, 0, none⟩) (Kd.R_mono R_0.out (fun k_ hk => (⟨hk, hk.2⟩ : _ ∧ k_ ≠ g3))) (fun _ hk => hk.2) (.int .i64 ((rd_T33 x0_1 x6_1).f0))) (fun _ hk => hk.2) (.int .i64 ((rd_T33 x0_1 x6_1).f1))) (fun _ hk => hk.2) (.int .i64 ((rd_T33 x0_1 x6_1).f2))) (fun _ h_ => h_.1))) hb); replace B60 := Ak (blk_below (g := g1_0) (o := .cells #[.int .i64 a1_0] 3 (0, 0)) (Kz) hb); replace B3 := Ak (blk_below (g := g3) (o := .cells #[.int .i64 ((rd_T33 x0_1 x6_1).f0), .int .i64 ((rd_T33 x0_1 x6_1).f1), .int .i64 ((rd_T33 x0_1 x6_1).f2)] 33 (0, 0)) (by apply Sq.put3; exact bS B3.out) hb); replace HK := Ak (Kept.below (S := (fun k_ => P0_ k_)) (by repeat (first | (with_reducible first | exact HK.out | apply Kept.alloc | apply Kept.drewN | apply Kept.drew | refine Kept.setCell ?_ (.inr G60.out) _ | refine Kept.setCell ?_ (.inr G3.out) _) | exact HK.out)) hb); replace HB := Ak (below_step (Bq) hb); clear hb; have hz24 := Sq.c3 B3.out; have p19 : 0 ≤ (x5_1 : Int) := Dz; have q19 : (x5_1 : Int) < ((x0_1.length : Int) : Int) := Dz; obtain ⟨go19, co19, eo19, g19, gl19, cl19, HG19⟩ := Kd.R_form R_0.out (by omega); (first | cases eo19 | (injection eo19 with ea_ en_ ec_; (first | subst ea_ | (injection ea_ with ea_; subst ea_)); subst ec_; clear en_)); have K19 := Aside0.mk g19; have GG19 := Aside0.mk HG19; clear g19 gl19 HG19; have HMgo19 := Aside0.mk (show (P0_ go19 ∨ w.heap.size ≤ go19) from (R_0.out.1 _ rfl).1); (first | simp only [add_plain] at hx2_0 | skip); (first | simp only [add_plain] at hx2_1 | skip); (first | simp only [add_plain] at hx2_2 | skip); obtain ⟨ce19, hcl19, hM19, hcc19, hfr19⟩ := Kd.R_elem R_0.out z33 (x5_1 : Int) p19 q19; obtain rfl := k33_openM hM19; have hx19_0 : w23.cell? ⟨go19, (x5_1 : Int).toNat * 3, none⟩ = some (.int .i64 ((rd_T33 x0_1 x5_1).f0)) := hcc19 0 _ rfl; have hx19_1 : w23.cell? ⟨go19, (x5_1 : Int).toNat * 3 + 1, none⟩ = some (.int .i64 ((rd_T33 x0_1 x5_1).f1)) := hcc19 1 _ rfl; have hx19_2 : w23.cell? ⟨go19, (x5_1 : Int).toNat * 3 + 2, none⟩ = some (.int .i64 ((rd_T33 x0_1 x5_1).f2)) := hcc19 2 _ rfl; have hf19_0 : w23.frozen? ⟨go19, (x5_1 : Int).toNat * 3, none⟩ = false := hfr19 0; have hf19_1 : w23.frozen? ⟨go19, (x5_1 : Int).toNat * 3 + 1, none⟩ = false := hfr19 1; have hf19_2 : w23.frozen? ⟨go19, (x5_1 : Int).toNat * 3 + 2, none⟩ = false := hfr19 2; clear hcl19 hcc19 hfr19 hM19; replace p19 := eq_true p19; replace q19 := eq_true q19; have HX25 := Aside0.mk (show Kd.R k33 33 w23 w0.heap.size (fun k_ => (P0_ k_ ∨ w.heap.size ≤ k_) ∧ k_ ≠ g3) (.slice (some ⟨go19, 0, none⟩) x0_1.length co7) x0_1 from (by exact Ho.RS <| R_0.out)); obtain ⟨ce25, hcl25, hM25, hcc25, hfr25⟩ := Kd.R_elem HX25.out z33 (x5_1 : Int) (Dz) (by have h_ : (x5_1 : Int) < ((x0_1.length : Int) : Int) := Dz; first | exact h_ | (have e_ := (Kd.R_reads' R_0.out).1; omega) | simpa using h_); obtain rfl := k33_openM hM25; have HP25 := Kd.R_seg HX25.out (x5_1 : Int) (Dz) (by have h_ : (x5_1 : Int) < ((x0_1.length : Int) : Int) := Dz; first | exact h_ | (have e_ := (Kd.R_reads' R_0.out).1; omega) | simpa using h_) (seg := [.int .i64 ((rd_T33 x0_1 x6_1).f0), .int .i64 ((rd_T33 x0_1 x6_1).f1), .int .i64 ((rd_T33 x0_1 x6_1).f2)]) (j := 0) hcl25 hcc25 (show 3 ≤ 3 from by decide) (x' := (⟨(rd_T33 x0_1 x6_1).f0, (rd_T33 x0_1 x6_1).f1, (rd_T33 x0_1 x6_1).f2⟩ : S33)) (k33_mkM _ _ _ (⟨(rd_T33 x0_1 x6_1).f0, (rd_T33 x0_1 x6_1).f1, (rd_T33 x0_1 x6_1).f2⟩ : S33) ) (fun _ hk => hk); have hx25_0 := hcc25 0 _ rfl; (try simp only [show (k33).sz = 3 from rfl, Nat.mul_one, Nat.add_zero] at hx25_0); have hf25_0 := hfr25 0; (try simp only [show (k33).sz = 3 from rfl, Nat.mul_one, Nat.add_zero] at hf25_0); have hx25_1 := hcc25 1 _ rfl; (try simp only [show (k33).sz = 3 from rfl, Nat.mul_one, Nat.add_zero] at hx25_1); have hf25_1 := hfr25 1; (try simp only [show (k33).sz = 3 from rfl, Nat.mul_one, Nat.add_zero] at hf25_1); have hx25_2 := hcc25 2 _ rfl; (try simp only [show (k33).sz = 3 from rfl, Nat.mul_one, Nat.add_zero] at hx25_2); have hf25_2 := hfr25 2; (try simp only [show (k33).sz = 3 from rfl, Nat.mul_one, Nat.add_zero] at hf25_2); clear hcl25 hcc25 hfr25 hM25) | ((with_reducible refine gate_store (t := 33) (p := 33) rfl ?_); refine store_event (t := 33) (p := 33) (v := ?vo_w26) (w1 := (((w23.setCell ⟨go19, (x5_1 : Int).toNat * 3, none⟩ (.int .i64 ((rd_T33 x0_1 x6_1).f0))).setCell ⟨go19, (x5_1 : Int).toNat * 3 + 1, none⟩ (.int .i64 ((rd_T33 x0_1 x6_1).f1))).setCell ⟨go19, (x5_1 : Int).toNat * 3 + 2, none⟩ (.int .i64 ((rd_T33 x0_1 x6_1).f2)))) ?hg ?ho ?hn ?hr ?_; (case ho => rfl); (case hg => rfl); (case hn => rfl); (case hr => first | (go_simp; done) | (go_simp; rfl)); intro w26 hw; have hg : w23.grownBy w26 (some go19) := (by rw [hw]; exact HP25.2); have hp_ : Kd.R k33 33 w26 w0.heap.size (fun k_ => (P0_ k_ ∨ w.heap.size ≤ k_) ∧ k_ ≠ g3) (.slice (some ⟨go19, 0, none⟩) x0_1.length co7) y5 := (by rw [hw, Ny5.out]; exact HP25.1); clear HP25; replace B60 := Ak (blk_grown (bS B60.out) hg (Kd.R_ne R_0.out B60.out (by decide))); replace B3 := Ak (blk_grown (bS B3.out) hg (Kd.R_away R_0.out (fun _ hk => hk.2))); replace HB := Ak ((by rw [hw]; exact below_set (below_set (below_set (HB.out) K19.out) K19.out) K19.out : Below w0.heap.size w0 w26)); replace HK := Ak (Kept.of_grown (S := (fun k_ => P0_ k_)) hg (by exact Ho.KS HK.out) (fun k_ e_ => (R_0.out.1 k_ e_).1)); replace R_0 := Ak hp_; clear hg hw hp_))
   (try simp only [← hl0_1])
   go_roundg k1
   case measure => have := HK1.out; omega
   case rel => exact ⟨(y5), (wrap64 (x5_1 + 1)), (wrap64 (x6_1 + 1)), Ey, Ey, H', ⟨by have := HK1.out; omega⟩, ⟨by (try simp only [hl0_1]); exact Ho.RS <| Kd.R_mono R_0.out (fun _ hk => hk.1)⟩, ⟨by (try simp only [hl0_1]); exact bS B60.out⟩, ⟨by exact Ho.KS HK.out⟩, ⟨es HB⟩⟩
end
section
attribute [local go_sem ↓] Ho.isSome_setCell_
/-! ### Fz: function 20 -/
def Fz.f (k : Nat) (l0_0 : List (S33)) (a0_1 : Int) (a0_2 : Int) (a0_3 : Int) (a0_4 : Int) (a1 : Int) : Option ((List (S33))) := (Fbo.f l0_0).bind fun t116 => ((Fd.f k t116 a1).bind fun t119 => (some t119))
theorem Fz.mono : ∀ a0 a1 a2 a3 a4 a5 k, LeO (Fz.f k a0 a1 a2 a3 a4 a5) (Fz.f (k + 1) a0 a1 a2 a3 a4 a5) := by
  intro a0 a1 a2 a3 a4 a5 k
  unfold Fz.f
  repeat' (with_reducible first | apply Fd.mono | exact LeO.refl _ | exact LeO.none _ | refine LeO.ite ?_ ?_ | refine LeO.bind ?_ (fun _ => ?_))
theorem Fz.calls (k : Nat) (A0_0 : Option Addr) (c0_0 : Nat) (l0_0 : List (S33)) (a0_1 : Int) (a0_2 : Int) (a0_3 : Int) (a0_4 : Int) (a1 : Int) (r : List (S33)) (w : World) (hr0_0 : Kd.C k33 w A0_0 l0_0.length l0_0) (hc0_0 : l0_0.length ≤ c0_0) (h : Fz.f k l0_0 a0_1 a0_2 a0_3 a0_4 a1 = some r) :
  Calls Tryz.prog 20 #[.agg #[.slice A0_0 l0_0.length c0_0, .int .i64 a0_1, .int .i64 a0_2, .int .i64 a0_3, .int .i64 a0_4], .int .i64 a1] w fun e w' => ∃ v0_ : Value, e = .returned (v0_) ∧ Kd.R k33 33 w' w.heap.size (fun _ => True) v0_ r ∧ Below w.heap.size w w' := by
 have hu26 := Tryz.underlying26
 have HR0_0 := Aside0.mk hr0_0
 have HC0_0 := Aside0.mk hc0_0
 clear hr0_0 hc0_0
 have HB := Aside0.mk (Below.refl w.heap.size w)
 have H := h
 clear h
 unfold Fz.f at H
 obtain ⟨t16, A3, H⟩ := bn H
 (try dsimp only at H)
 obtain ⟨t19, A4, H⟩ := bn H
 (try dsimp only at H)
 obtain rfl := Option.some.inj H
 go_enter Tryz.func20, Tryz.ntmps20
 go_wp2_with (first | (refine bE 2 26 #[.slice A0_0 l0_0.length c0_0, .int .i64 a0_1, .int .i64 a0_2, .int .i64 a0_3, .int .i64 a0_4] ?_; intro g14 hg w5 B14 hb; have E14 := gW HB hg; replace HB := bT HB hb; clear hb hg) | (refine bE 3 3 #[.int .i64 a1] ?_; intro g15 hg w6 B15 hb; have E15 := gW HB hg; obtain ⟨N14_15, N15_14⟩ := nB B14 hg; replace B14 := kT B14 hb; replace HB := bT HB hb; clear hb hg; have hnb7 := nP N14_15; have hz8 := Sq.c5 B14.out) | (refine cE (some 7) Tryz.func50 #[.slice A0_0 l0_0.length c0_0] ?_; (with_reducible refine (Fbo.calls _ _ l0_0 t16 _ ?side1 ?side2 A3.out).mono ?_); (case side1 => exact Cs (Kd.C_below HR0_0.out HB.out)); (case side2 => exact HC0_0.out); rintro e w9 ⟨v17, rfl, ho0, hb⟩; refine ⟨_, rfl, ?_⟩; have R18 := lw HB ho0; replace B14 := kT B14 hb; replace B15 := kT B15 hb; replace HB := bT HB hb; clear hb; (try clear ho0); obtain ⟨Ao10, co10, eo10⟩ := Kd.R_slice R18.out; subst eo10) | (refine cE (some 9) Tryz.func28 #[.slice Ao10 t16.length co10, .func (.func 51) #[] #[.pointer (some ⟨g15, 0, none⟩)]] ?_; (refine (Fd.calls k (fun k_ => some k_ = (.slice Ao10 t16.length co10 : Value).ownBlock) (.slice Ao10 t16.length co10) t16 g15 a1 t19 w _ ?side1 ?side2 ?side3 A4.out).mono ?_); (case side1 => exact eS HB.out); (case side2 => exact Kd.R_tight rfl R18.out); (case side3 => exact bS B15.out); rintro e w11 ⟨v20, rfl, ho0, hb, hkp⟩; refine ⟨_, rfl, ?_⟩; have R21 := Ak (Kd.R_mono (ok' := fun k_ => True) ho0 (fun k_ hk_ => trivial)); replace B14 := Ak (blk_kept (by exact bS B14.out) hkp (fun hs_ => (fun e_ => (Kd.R_ne R18.out B14.out (by decide)) e_) hs_)); replace B15 := Ak (blk_kept (by exact bS B15.out) hkp (fun hs_ => (fun e_ => (Kd.R_ne R18.out B15.out (by decide)) e_) hs_)); replace HB := Ak hb; clear R18; clear hb; (try clear hkp); (try clear ho0)))
 go_ret
 exact ⟨_, Ez, by exact Ho.RS <| R21.out, by exact eS HB.out⟩
end
section
attribute [local go_sem ↓] Ho.isSome_setCell_
/-! ### Fab: function 10 -/
def Fab.j0 : Nat → Int → Bool → List (S33) → Int → Int → Int → Int → Option (Int × Bool)
  | 0, _, _, _, _, _, _, _ => none
  | k + 1, x1, x13, x102000, x102001, x102002, x102003, x102004 => if x13 = true then (some (0, false)) else ((Fz.f k x102000 x102001 x102002 x102003 x102004 x1).bind fun t104 => ((Fv.f k t104 0 0 0 0).bind fun t107 => (some (t107, true))))
def Fab.f (k : Nat) (l0_0 : List (S33)) (a0_1 : Int) (a0_2 : Int) (a0_3 : Int) (a0_4 : Int) (a1 : Int) : Option (Int × Bool) := (Fk.f k l0_0 a0_1 a0_2 a0_3 a0_4).bind fun t102 => (if t102 = true then ((Faw.f a1).bind fun t103 => (Fab.j0 k a1 (!t103) l0_0 a0_1 a0_2 a0_3 a0_4)) else (Fab.j0 k a1 true l0_0 a0_1 a0_2 a0_3 a0_4))
theorem Fab.mono_l : ∀ k, (∀ y0 y1 y2 y3 y4 y5 y6, LeO (Fab.j0 k y0 y1 y2 y3 y4 y5 y6) (Fab.j0 (k + 1) y0 y1 y2 y3 y4 y5 y6))
  | 0 => fun _ _ _ _ _ _ _ r h => by simp [Fab.j0] at h
  | k + 1 => by
    have ih0 := Fab.mono_l k
    · intro y0 y1 y2 y3 y4 y5 y6
      unfold Fab.j0
      repeat' (with_reducible first | exact ih0 _ _ _ _ _ _ _ | apply Fk.mono | apply Fz.mono | apply Fv.mono | exact LeO.refl _ | exact LeO.none _ | refine LeO.ite ?_ ?_ | refine LeO.bind ?_ (fun _ => ?_))
theorem Fab.mono : ∀ a0 a1 a2 a3 a4 a5 k, LeO (Fab.f k a0 a1 a2 a3 a4 a5) (Fab.f (k + 1) a0 a1 a2 a3 a4 a5) := by
  intro a0 a1 a2 a3 a4 a5 k
  have ih0 := Fab.mono_l k
  unfold Fab.f
  repeat' (with_reducible first | exact ih0 _ _ _ _ _ _ _ | apply Fk.mono | apply Fz.mono | apply Fv.mono | exact LeO.refl _ | exact LeO.none _ | refine LeO.ite ?_ ?_ | refine LeO.bind ?_ (fun _ => ?_))
theorem Fab.calls (k : Nat) (A0_0 : Option Addr) (c0_0 : Nat) (l0_0 : List (S33)) (a0_1 : Int) (a0_2 : Int) (a0_3 : Int) (a0_4 : Int) (a1 : Int) (r1 : Int) (r2 : Bool) (w : World) (hr0_0 : Kd.C k33 w A0_0 l0_0.length l0_0) (hc0_0 : l0_0.length ≤ c0_0) (h : Fab.f k l0_0 a0_1 a0_2 a0_3 a0_4 a1 = some (r1, r2)) :
  Calls Tryz.prog 10 #[.agg #[.slice A0_0 l0_0.length c0_0, .int .i64 a0_1, .int .i64 a0_2, .int .i64 a0_3, .int .i64 a0_4], .int .i64 a1] w fun e w' => e = .returned (.tuple #[.int .i64 r1, .bool r2]) ∧ Below w.heap.size w w' := by
 have hu26 := Tryz.underlying26
 have HR0_0 := Aside0.mk hr0_0
 have HC0_0 := Aside0.mk hc0_0
 clear hr0_0 hc0_0
 have HB := Aside0.mk (Below.refl w.heap.size w)
 have H := h
 clear h
 unfold Fab.f at H
 have HC3 := Aside0.mk H
 clear H
 go_enter Tryz.func10, Tryz.ntmps10
 go_upto_region 1 with (first | (refine bE 2 26 #[.slice A0_0 l0_0.length c0_0, .int .i64 a0_1, .int .i64 a0_2, .int .i64 a0_3, .int .i64 a0_4] ?_; intro g1 hg w4 B1 hb; have E1 := gW HB hg; replace HB := bT HB hb; clear hb hg))
 (try simp only [Act.put, List.setIfInBounds_toArray, List.set_cons_zero, List.set_cons_succ])
 go_cut [13] (fun v13 wc => ∃ (kq : Nat) (x13_2 : Bool), v13 = .bool x13_2 ∧ Aside0 (Fab.j0 kq a1 x13_2 l0_0 a0_1 a0_2 a0_3 a0_4 = some (r1, r2)) ∧ Aside0 (kq ≤ k) ∧ Aside0 (wc.heap[g1]? = some (.cells #[(.slice A0_0 l0_0.length c0_0), .int .i64 a0_1, .int .i64 a0_2, .int .i64 a0_3, .int .i64 a0_4] 26 (0, 0))) ∧ Aside0 (Below w.heap.size w wc))
 case first =>
  have H := HC3.out
  clear HC3
  obtain ⟨t2, A5, H⟩ := bn H
  (try dsimp only at H)
  by_cases c6 : t2 = true
  rotate_left
  ·replace c6 := Bool.eq_false_iff.mpr c6
   subst c6
   rw [if_neg (show ¬ (false = true) by decide)] at H
   have H' := Aside0.mk H
   clear H
   have hz10 := Sq.c5 B1.out
   go_wp2_with (first | (refine cE (some 7) Tryz.func16 #[.agg #[.slice A0_0 l0_0.length c0_0, .int .i64 a0_1, .int .i64 a0_2, .int .i64 a0_3, .int .i64 a0_4]] ?_; (with_reducible refine (Fk.calls k _ _ l0_0 a0_1 a0_2 a0_3 a0_4 false _ ?side1 ?side2 A5.out).mono ?_); (case side1 => exact Cs (Kd.C_below HR0_0.out HB.out)); (case side2 => exact HC0_0.out); rintro e w11 ⟨rfl, hb⟩; refine ⟨_, rfl, ?_⟩; replace B1 := kT B1 hb; replace HB := bT HB hb; clear hb))
   go_meet
   case rel => exact ⟨_, (true), Ey, H', ⟨by first | omega | exact Nat.le_refl _⟩, ⟨ks B1⟩, ⟨es HB⟩⟩
  subst c6
  rw [if_pos rfl] at H
  obtain ⟨t3, A7, H⟩ := bn H
  (try dsimp only at H)
  have H' := Aside0.mk H
  clear H
  have hz8 := Sq.c5 B1.out
  go_wp2_with (first | (refine cE (some 7) Tryz.func16 #[.agg #[.slice A0_0 l0_0.length c0_0, .int .i64 a0_1, .int .i64 a0_2, .int .i64 a0_3, .int .i64 a0_4]] ?_; (with_reducible refine (Fk.calls k _ _ l0_0 a0_1 a0_2 a0_3 a0_4 true _ ?side1 ?side2 A5.out).mono ?_); (case side1 => exact Cs (Kd.C_below HR0_0.out HB.out)); (case side2 => exact HC0_0.out); rintro e w9 ⟨rfl, hb⟩; refine ⟨_, rfl, ?_⟩; replace B1 := kT B1 hb; replace HB := bT HB hb; clear hb) | (go_at_call 18; (with_reducible refine (Faw.calls a1 t3 _ A7.out).mono ?_); rintro e w' ⟨rfl, ⟨nd, rfl⟩⟩))
  go_meet
  case rel => exact ⟨_, (!t3), Ey, H', ⟨by first | omega | exact Nat.le_refl _⟩, ⟨ks B1⟩, ⟨es HB⟩⟩
 case rest =>
  clear HC3
  try clear c1
  try clear p2
  try clear c6
  try clear c10
  (try clear hz10)
  (try clear hz8)
  obtain ⟨kq, x13_2, rfl, HA, HJ2, B1, HB⟩ := hcut
  cases kq with
  | zero => exact absurd HA.out (by simp [Fab.j0])
  | succ kj2 =>
   have H := HA.out
   clear HA
   simp only [Fab.j0] at H
   by_cases c12 : x13_2 = true
   ·subst c12
    rw [if_pos rfl] at H
    simp only [Option.some.injEq, Prod.mk.injEq] at H
    obtain ⟨rfl, rfl⟩ := H
    go_wp2
    go_ret2
    exact ⟨Ez, by exact eS HB.out⟩
   replace c12 := Bool.eq_false_iff.mpr c12
   subst c12
   rw [if_neg (show ¬ (false = true) by decide)] at H
   obtain ⟨t4, A13, H⟩ := bn H
   (try dsimp only at H)
   obtain ⟨t7, A14, H⟩ := bn H
   (try dsimp only at H)
   simp only [Option.some.injEq, Prod.mk.injEq] at H
   obtain ⟨rfl, rfl⟩ := H
   have hz15 := Sq.c5 B1.out
   go_wp2_with (first | (refine cE (some 16) Tryz.func20 #[.agg #[.slice A0_0 l0_0.length c0_0, .int .i64 a0_1, .int .i64 a0_2, .int .i64 a0_3, .int .i64 a0_4], .int .i64 a1] ?_; (with_reducible refine (Fz.calls kj2 _ _ l0_0 a0_1 a0_2 a0_3 a0_4 a1 t4 _ ?side1 ?side2 A13.out).mono ?_); (case side1 => exact Cs (Kd.C_below HR0_0.out HB.out)); (case side2 => exact HC0_0.out); rintro e w16 ⟨v5, rfl, ho0, hb⟩; refine ⟨_, rfl, ?_⟩; have R6 := lw HB ho0; replace B1 := kT B1 hb; replace HB := bT HB hb; clear hb; (try clear ho0); obtain ⟨Ao17, co17, eo17⟩ := Kd.R_slice R6.out; subst eo17) | (refine cE (some 18) Tryz.func32 #[.agg #[.slice Ao17 t4.length co17, .int .i64 0, .int .i64 0, .int .i64 0, .int .i64 0]] ?_; (with_reducible refine (Fv.calls kj2 _ _ t4 0 0 0 0 t7 _ ?side1 ?side2 A14.out).mono ?_); (case side1 => exact Cs (Kd.R_reads' R6.out).2.2); (case side2 => exact (Kd.R_reads' R6.out).2.1); rintro e w18 ⟨rfl, hb⟩; refine ⟨_, rfl, ?_⟩; replace R6 := rT R6 hb; replace B1 := kT B1 hb; replace HB := bT HB hb; clear hb))
   go_ret2
   exact ⟨Ez, by exact eS HB.out⟩
end
section
attribute [local go_sem ↓] Ho.isSome_setCell_
/-! ### Fay: function 29 -/
def Fay.f (a0_0 : Int) (a0_1 : Int) (a0_2 : Int) (a1_0 : Int) : Option (Bool) := some (decide (a0_2 < a1_0))
theorem Fay.calls (a0_0 : Int) (a0_1 : Int) (a0_2 : Int) (g1 : Nat) (a1_0 : Int) (r : Bool) (w : World) (hb1 : w.heap[g1]? = some (.cells #[.int .i64 a1_0] 3 (0, 0))) (h : Fay.f a0_0 a0_1 a0_2 a1_0 = some r) :
  Calls Tryz.prog 29 #[.agg #[.int .i64 a0_0, .int .i64 a0_1, .int .i64 a0_2], .pointer (some ⟨g1, 0, none⟩)] w fun e w' => e = .returned (.bool r) ∧ Below w.heap.size w w' := by
 have hu33 := Tryz.underlying33
 have B1 := Aside0.mk hb1
 clear hb1
 have HB := Aside0.mk (Below.refl w.heap.size w)
 have H := h
 clear h
 unfold Fay.f at H
 obtain rfl := Option.some.inj H
 go_enter Tryz.func29, Tryz.ntmps29
 go_wp2_with (first | (refine bE 2 33 #[.int .i64 a0_0, .int .i64 a0_1, .int .i64 a0_2] ?_; intro gb101 hg w3 BK101 hb; have E1 := gW HB hg; obtain ⟨NB1_101, N1_1⟩ := nB B1 hg; replace B1 := kT B1 hb; replace HB := bT HB hb; clear hb hg; have hnb4 := nP N1_1; have hz5 := Sq.c3 BK101.out; have hcz6_0 : w3.cell? ⟨g1, 0, none⟩ = some (.int .i64 a1_0) := (blk_cell B1.out 0).trans rfl; have hfz6_0 := blk_frozen B1.out 0))
 go_ret
 exact ⟨Ez, by exact eS HB.out⟩
end
/-! ### Fav: function 100008 -/
def Fav.f (l0 : List (S33)) (a1_0 : Int) : Option Int := Ho.idxO (fun x_ => Fay.f x_.f0 x_.f1 x_.f2 a1_0) l0 0
theorem Fav.calls (A0 : Option Addr) (c0 : Nat) (l0 : List (S33)) (g1_0 : Nat) (a1_0 : Int) (r : Int) (w : World) (hr0 : Kd.C k33 w A0 l0.length l0) (hc0 : l0.length ≤ c0) (hb1_0 : w.heap[g1_0]? = some (.cells #[.int .i64 a1_0] 3 (0, 0))) (h : Fav.f l0 a1_0 = some r) :
  Calls Tryz.prog 56 #[.slice A0 l0.length c0, .func (.func 29) #[] #[.pointer (some ⟨g1_0, 0, none⟩)]] w fun e w' => e = .returned (.int .i64 r) ∧ Below w.heap.size w w' := by
 have ec : ∀ args w, (callFunc 29 args).run Tryz.prog w = .ok (.enter 29 args) w := fun args w => by kernel_rfl
 have hp : Ho.PredO Tryz.prog 29 #[.pointer (some ⟨g1_0, 0, none⟩)] (fun x_ : S33 => .agg #[.int .i64 x_.f0, .int .i64 x_.f1, .int .i64 x_.f2]) (fun x_ => Fay.f x_.f0 x_.f1 x_.f2 a1_0) w := ⟨fun W x_ b_ hB_ hx_ => (Fay.calls x_.f0 x_.f1 x_.f2 _ a1_0 b_ W (blk_below hb1_0 hB_) hx_).mono fun _ _ h_ => ⟨h_.1, h_.2⟩⟩
 exact ho_idx56 _ 29 _ ec w hp _ _ _ _ hr0 hc0 h
section
attribute [local go_sem ↓] Ho.isSome_setCell_
/-! ### Fe: function 100007 -/
def Fe.l0 : Nat → List (S33) → Int → Int → Int → Option ((List (S33)))
  | 0, _, _, _, _ => none
  | k + 1, x0, x5, x6, x61000 => if x6 < (x0.length : Int) then (if 0 ≤ x6 then ((Fay.f ((rd_T33 x0 x6).f0) ((rd_T33 x0 x6).f1) ((rd_T33 x0 x6).f2) x61000).bind fun t104 => (if t104 = true then (Fe.l0 k x0 x5 (wrap64 (x6 + 1)) x61000) else (if 0 ≤ x5 then (if x5 < (x0.length : Int) then (Fe.l0 k (x0.set (x5 : Int).toNat (⟨(rd_T33 x0 x6).f0, (rd_T33 x0 x6).f1, (rd_T33 x0 x6).f2⟩ : S33)) (wrap64 (x5 + 1)) (wrap64 (x6 + 1)) x61000) else (none)) else (none)))) else (none)) else (if 0 ≤ x5 then (if x5 ≤ (x0.length : Int) then (some ((Cl.clr x0 ((x5 : Int).toNat) z33).take (x5 : Int).toNat)) else (none)) else (none))
def Fe.f (k : Nat) (l0 : List (S33)) (a1_0 : Int) : Option ((List (S33))) := (Fav.f l0 a1_0).bind fun t101 => (if t101 = (-1) then (some l0) else (Fe.l0 k l0 t101 (wrap64 (t101 + 1)) a1_0))
theorem Fe.mono_l : ∀ k, (∀ y0 y1 y2 y3, LeO (Fe.l0 k y0 y1 y2 y3) (Fe.l0 (k + 1) y0 y1 y2 y3))
  | 0 => fun _ _ _ _ r h => by simp [Fe.l0] at h
  | k + 1 => by
    have ih0 := Fe.mono_l k
    · intro y0 y1 y2 y3
      unfold Fe.l0
      repeat' (with_reducible first | exact ih0 _ _ _ _ | exact LeO.refl _ | exact LeO.none _ | refine LeO.ite ?_ ?_ | refine LeO.bind ?_ (fun _ => ?_))
theorem Fe.mono : ∀ a0 a1 k, LeO (Fe.f k a0 a1) (Fe.f (k + 1) a0 a1) := by
  intro a0 a1 k
  have ih0 := Fe.mono_l k
  unfold Fe.f
  repeat' (with_reducible first | exact ih0 _ _ _ _ | exact LeO.refl _ | exact LeO.none _ | refine LeO.ite ?_ ?_ | refine LeO.bind ?_ (fun _ => ?_))
theorem Fe.calls (k : Nat) (P0_ : Nat → Prop) (u9000_ : Value) (l0 : List (S33)) (g1_0 : Nat) (a1_0 : Int) (r : List (S33)) (w0 w : World) (hB : Below w0.heap.size w0 w) (ho0 : Kd.R k33 33 w w0.heap.size P0_ u9000_ l0) (hb1_0 : w.heap[g1_0]? = some (.cells #[.int .i64 a1_0] 3 (0, 0))) (h : Fe.f k l0 a1_0 = some r) :
  Calls Tryz.prog 28 #[u9000_, .func (.func 29) #[] #[.pointer (some ⟨g1_0, 0, none⟩)]] w fun e w' => ∃ v0_ : Value, e = .returned (v0_) ∧ Kd.R k33 33 w' w0.heap.size (fun k_ => (P0_ k_ ∨ w.heap.size ≤ k_)) v0_ r ∧ Below w0.heap.size w0 w' ∧ Kept w w' (fun k_ => P0_ k_) := by
 have hu33 := Tryz.underlying33
 have R0 := Aside0.mk (show Kd.R k33 33 w w0.heap.size (fun k_ => (P0_ k_ ∨ w.heap.size ≤ k_)) u9000_ l0 from Kd.R_mono ho0 (fun k_ hk => (.inl hk)))
 have HK := Aside0.mk (Kept.refl w (fun k_ => P0_ k_))
 have B60 := Aside0.mk hb1_0
 clear hb1_0
 have HW0 := Aside0.mk hB.size
 have HB := Aside0.mk hB
 clear hB
 have H := h
 clear h
 unfold Fe.f at H
 obtain ⟨t1, A3, H⟩ := bn H
 (try dsimp only at H)
 by_cases c4 : t1 = (-1)
 ·rw [if_pos c4] at H
  have c4b0 := beq_iff_eq.mpr c4
  have c4b1 := bne_eq_false_iff_eq.mpr c4
  clear c4
  obtain rfl := Option.some.inj H
  obtain ⟨Ao5, co5, eo5⟩ := Kd.R_slice R0.out
  subst eo5
  go_enter Tryz.func28, Tryz.ntmps28
  go_wp2_with (first | (refine cE (some 10) Tryz.func56 #[.slice Ao5 l0.length co5, .func (.func 29) #[] #[.pointer (some ⟨g1_0, 0, none⟩)]] ?_; (refine (Fav.calls _ _ l0 g1_0 a1_0 t1 _ ?side1 ?side2 ?side3 A3.out).mono ?_); (case side1 => exact Cs (Kd.R_reads' R0.out).2.2); (case side2 => exact (Kd.R_reads' R0.out).2.1); (case side3 => exact bS B60.out); rintro e w6 ⟨rfl, hb⟩; refine ⟨_, rfl, ?_⟩; replace R0 := rT R0 hb; replace B60 := kT B60 hb; replace HK := Ak (Kept.below (S := (fun k_ => P0_ k_)) (by exact Ho.KS HK.out) hb); replace HB := bT HB hb; clear hb))
  go_ret
  exact ⟨_, Ez, by exact Ho.RS <| R0.out, by exact eS HB.out, by exact Ho.KS HK.out⟩
 rw [if_neg c4] at H
 have c4b0 := beq_eq_false_iff_ne.mpr c4
 have c4b1 := bne_iff_ne.mpr c4
 have H' := Aside0.mk H
 clear H
 obtain ⟨Ao7, co7, eo7⟩ := Kd.R_slice R0.out
 subst eo7
 go_enter Tryz.func28, Tryz.ntmps28
 go_wp2_with (first | (refine cE (some 10) Tryz.func56 #[.slice Ao7 l0.length co7, .func (.func 29) #[] #[.pointer (some ⟨g1_0, 0, none⟩)]] ?_; (refine (Fav.calls _ _ l0 g1_0 a1_0 t1 _ ?side1 ?side2 ?side3 A3.out).mono ?_); (case side1 => exact Cs (Kd.R_reads' R0.out).2.2); (case side2 => exact (Kd.R_reads' R0.out).2.1); (case side3 => exact bS B60.out); rintro e w8 ⟨rfl, hb⟩; refine ⟨_, rfl, ?_⟩; replace R0 := rT R0 hb; replace B60 := kT B60 hb; replace HK := Ak (Kept.below (S := (fun k_ => P0_ k_)) (by exact Ho.KS HK.out) hb); replace HB := bT HB hb; clear hb))
 go_loopg [5, 6] k (fun kq v5 v6 w' => ∃ (x0_1 : List (S33)) (x5_1 : Int) (x6_1 : Int), v5 = .int .i64 x5_1 ∧ v6 = .int .i64 x6_1 ∧ Aside0 (Fe.l0 kq x0_1 x5_1 x6_1 a1_0 = some r) ∧ Aside0 (kq ≤ k) ∧ Aside0 (Kd.R k33 33 w' w0.heap.size (fun k_ => (P0_ k_ ∨ w.heap.size ≤ k_)) (.slice Ao7 l0.length co7) x0_1) ∧ Aside0 (w'.heap[g1_0]? = some (.cells #[.int .i64 a1_0] 3 (0, 0))) ∧ Aside0 (Kept w w' (fun k_ => P0_ k_)) ∧ Aside0 (Below w0.heap.size w0 w'))
 case atStart => exact ⟨(l0), (t1), (wrap64 (t1 + 1)), Ey, Ey, H', ⟨Nat.le_refl _⟩, ⟨rs R0⟩, ⟨ks B60⟩, ⟨by exact Ho.KS HK.out⟩, ⟨es HB⟩⟩
 case round =>
  clear H'
  try clear c2
  try clear p2
  try clear c4
  try clear c4b0
  try clear c4b1
  try clear c5
  try clear p6
  obtain ⟨x0_1, x5_1, x6_1, rfl, rfl, HA, HK1, R_0, B60, HK, HB⟩ := hrel
  have hl0_1 := (Kd.R_reads' R_0.out).1
  rw [hl0_1] at R_0
  (try simp only [hl0_1])
  (try simp only [hl0_1] at B60)
  cases gk with
  | zero => exact absurd HA.out (by simp [Fe.l0])
  | succ k1 =>
   have H := HA.out
   clear HA
   simp only [Fe.l0] at H
   by_cases c9 : x6_1 < (x0_1.length : Int)
   rotate_left
   ·rw [if_neg c9] at H
    have c9b0 := decide_eq_false c9
    clear c9
    by_cases c27 : 0 ≤ x5_1
    rotate_left
    ·rw [if_neg c27] at H
     exact absurd H (by simp)
    rw [if_pos c27] at H
    have c27b0 := eq_true c27
    have c27b1 := decide_eq_true c27
    clear c27
    by_cases c28 : x5_1 ≤ (x0_1.length : Int)
    rotate_left
    ·rw [if_neg c28] at H
     exact absurd H (by simp)
    rw [if_pos c28] at H
    have c28b0 := eq_true c28
    have c28b1 := decide_eq_true c28
    clear c28
    obtain ⟨y6, hy6⟩ : ∃ y_ : List (S33), y_ = (x0_1.drop (x5_1 : Int).toNat) := ⟨_, rfl⟩
    replace H : (some ((Cl.clr x0_1 ((x5_1 : Int).toNat) z33).take (x5_1 : Int).toNat)) = some r := by first | (rw [hy6]; with_reducible exact H) | (have H2_ := (Option.bind_some _ _).symm.trans H; rw [hy6]; with_reducible exact H2_) | (have H2_ := (Option.bind_some _ _).symm.trans H; with_reducible exact H2_) | with_reducible exact H | (rw [hy6]; exact H) | exact H
    have Ny6 := Aside0.mk hy6
    clear hy6
    obtain ⟨y10, hy10⟩ : ∃ y_ : List (S33), y_ = (Cl.clr x0_1 ((x5_1 : Int).toNat) z33) := ⟨_, rfl⟩
    replace H : (some (y10.take (x5_1 : Int).toNat)) = some r := by first | (rw [hy10]; with_reducible exact H) | (have H2_ := (Option.bind_some _ _).symm.trans H; rw [hy10]; with_reducible exact H2_) | (have H2_ := (Option.bind_some _ _).symm.trans H; with_reducible exact H2_) | with_reducible exact H | (rw [hy10]; exact H) | exact H
    have Ny10 := Aside0.mk hy10
    clear hy10
    have c29b0 := eq_true (Dz : x5_1 ≤ (x0_1.length : Int))
    obtain ⟨y11, hy11⟩ : ∃ y_ : List (S33), y_ = (y10.take (x5_1 : Int).toNat) := ⟨_, rfl⟩
    replace H : (some y11) = some r := by first | (rw [hy11]; with_reducible exact H) | (have H2_ := (Option.bind_some _ _).symm.trans H; rw [hy11]; with_reducible exact H2_) | (have H2_ := (Option.bind_some _ _).symm.trans H; with_reducible exact H2_) | with_reducible exact H | (rw [hy11]; exact H) | exact H
    have Ny11 := Aside0.mk hy11
    clear hy11
    obtain rfl := Option.some.inj H
    have q30 : (x5_1 : Int) ≤ ((x0_1.length : Int) : Int) := Dz
    obtain ⟨i030, hi030, _, hsz30, _⟩ := info_parts info33
    have hroom30 : x0_1.length ≤ co7 := (Kd.R_reads' R_0.out).2.1
    have hC30 : Kd.C k33 _ Ao7 x0_1.length x0_1 := (Kd.R_reads' R_0.out).2.2
    have q030 : (0 : Int) ≤ (x5_1 : Int) := Dz
    have hcut30 := cut_from (P := Tryz.prog) 24 33 .i64 Tryz.underlying24 hi030 3 hsz30 Ao7 x0_1.length co7 x5_1 q030 q30
    have hr30 := Kd.C_drop (m := (x5_1 : Int).toNat) (c := co7) hC30 (by omega) hroom30
    obtain ⟨A30, hA30⟩ : ∃ A1, A1 = (if co7 = (x5_1 : Int).toNat then Ao7 else (Ao7 : Option Addr).map (·.add ((x5_1 : Int).toNat * 3))) := ⟨_, rfl⟩
    obtain ⟨c30, hc30⟩ : ∃ c1, c1 = co7 - (x5_1 : Int).toNat := ⟨_, rfl⟩
    have hy30 : y6.length = x0_1.length - (x5_1 : Int).toNat := (by rw [Ny6.out, List.length_drop] <;> omega)
    rw [show (x0_1).drop (x5_1 : Int).toNat = y6 from Ny6.out.symm] at hr30
    replace hr30 : Kd.C k33 _ A30 y6.length y6 := (by rw [hA30]; exact hr30)
    rw [← hy30, ← hA30, ← hc30] at hcut30
    have HR109 := Aside0.mk hr30
    have HC109 := Aside0.mk (show y6.length ≤ c30 from by rw [hy30, hc30]; exact Nat.sub_le_sub_right hroom30 _)
    clear hr30 hC30 hroom30 hi030 hsz30 hc30
    have KY30 := Aside0.mk hy30
    have KA30 := Aside0.mk hA30
    clear hy30 hA30
    have KL30 := Aside0.mk (show (x5_1 : Int).toNat ≤ x0_1.length from by omega)
    replace q30 := eq_true q30
    go_wp2_with (first | (have hj_ : 0 ≤ (x5_1 : Int) := Dz; have hl_ : (x5_1 : Int) ≤ (x0_1.length : Int) := Dz; refine Cl.R_clear k33 (w0 := w0) w0.heap.size 24 _ 33 (.agg #[(.int .i64 0), (.int .i64 0), (.int .i64 0)]) 24 Tryz.underlying24 info33 rfl (by decide) z33 (show (k33).M _ _ _ z33 _ from k33_mkM _ _ _ z33) (A0 := Ao7) (n := x0_1.length) (c := co7) (k := (x5_1 : Int).toNat) rfl KA30.out KY30.out (by exact Ho.RS <| R_0.out) (by omega) (by exact eS HB.out) (below_size (by exact eS HB.out)) ?_; intro w31 ho hb hg; clear hj_ hl_; rw [← Ny10.out] at ho; have hlqy110_ := Nat.le_of_eq (Kd.R_reads' ho).1; have hlpy110_ := Nat.le_of_eq (Kd.R_reads' ho).1.symm; have n0_ := Aside0.mk (ho); have n1_ := Aside0.mk (blk_grown (bS B60.out) hg (Kd.R_ne R_0.out B60.out (by decide))); have n2_ := Aside0.mk (hb); have n3_ := Aside0.mk (Kept.of_grown (S := (fun k_ => P0_ k_)) hg (by exact Ho.KS HK.out) (fun k_ e_ => (R_0.out.1 k_ e_))); clear R_0; clear B60; clear HB; clear HK; have R_0 := n0_; have B60 := n1_; have HB := n2_; have HK := n3_; clear n0_ n1_ n2_ n3_; clear ho hb hg; have q32 : (x5_1 : Int) ≤ ((x0_1.length : Int) : Int) := Dz; obtain ⟨i032, hi032, _, hsz32, _⟩ := info_parts info33; have hcut32 := cut_to (P := Tryz.prog) 24 33 .i64 Tryz.underlying24 hi032 Ao7 x0_1.length co7 x5_1 (Dz) q32 (Kd.R_reads' R_0.out).2.1; have hr32 := Kd.R_take (m := (x5_1 : Int).toNat) R_0.out (by omega); have hy32 : y11.length = (x5_1 : Int).toNat := (by rw [Ny11.out, List.length_take]; omega); rw [← Ny11.out] at hr32; rw [← hy32] at hr32 hcut32; clear hy32 hi032 hsz32 R_0; have R13 := Aside0.mk hr32; clear hr32; replace q32 := eq_true q32))
    go_ret
    exact ⟨_, Ez, by exact Ho.RS <| R13.out, by exact eS HB.out, by exact Ho.KS HK.out⟩
   rw [if_pos c9] at H
   have c9b0 := decide_eq_true c9
   clear c9
   by_cases c10 : 0 ≤ x6_1
   rotate_left
   ·rw [if_neg c10] at H
    exact absurd H (by simp)
   rw [if_pos c10] at H
   have c10b0 := decide_eq_true c10
   clear c10
   obtain ⟨t4, A11, H⟩ := bn H
   (try dsimp only at H)
   by_cases c12 : t4 = true
   ·subst c12
    rw [if_pos rfl] at H
    have H' := Aside0.mk H
    clear H
    have p102 : 0 ≤ (x6_1 : Int) := Dz
    have q2 : x6_1 < (x0_1.length : Int) := Dz
    obtain ⟨ad2, e2, hx2_0, hx2_1, hx2_2⟩ := at_T33 (Kd.R_reads' R_0.out).2.2 x6_1 p102 q2
    cases e2
    replace p102 := eq_true p102
    replace q2 := eq_true q2
    go_wp2_with (first | (refine bE 7 33 #[.int .i64 0, .int .i64 0, .int .i64 0] ?_; intro g3 hg w13 B3 hb; have G3 := Ak ((by rw [hg]; exact (by first | exact HK.out.1 | exact (show Kept w _ (fun k_ => P0_ k_) from by exact Ho.KS HK.out).1) : w.heap.size ≤ g3)); have E3 := Ak ((by rw [hg]; exact (below_size (by exact eS HB.out)) : w0.heap.size ≤ g3)); obtain ⟨N60_3, N3_60⟩ := nB B60 hg; replace R_0 := rE R_0 hg hb; replace B60 := kT B60 hb; replace HK := Ak (Kept.below (S := (fun k_ => P0_ k_)) (by exact Ho.KS HK.out) hb); replace HB := bT HB hb; clear hb hg; have hnb14 := nP N3_60; have hz15 := Sq.c3 B3.out) | (go_at_call 29; (with_reducible refine (Fay.calls ((rd_T33 x0_1 x6_1).f0) ((rd_T33 x0_1 x6_1).f1) ((rd_T33 x0_1 x6_1).f2) g1_0 a1_0 true _ ?side1 A11.out).mono ?_); (case side1 => (with_reducible repeat (first | refine blk_drewN ?_ _ | refine blk_drew ?_ | refine blk_alloc ?_ _)); refine blk_far ?_ N60_3.out _; (with_reducible repeat (first | refine blk_drewN ?_ _ | refine blk_drew ?_ | refine blk_alloc ?_ _)); refine blk_far ?_ N60_3.out _; (with_reducible repeat (first | refine blk_drewN ?_ _ | refine blk_drew ?_ | refine blk_alloc ?_ _)); refine blk_far ?_ N60_3.out _; exact bS B60.out); rintro e w16 ⟨rfl, hb⟩; replace R_0 := Ak (Kd.R_below (by exact Ho.RS <| (Kd.R_mono (Kd.R_far (p := ⟨g3, 2, none⟩) (Kd.R_far (p := ⟨g3, 1, none⟩) (Kd.R_far (p := ⟨g3, 0, none⟩) (Kd.R_mono R_0.out (fun k_ hk => (⟨hk, hk.2⟩ : _ ∧ k_ ≠ g3))) (fun _ hk => hk.2) (.int .i64 ((rd_T33 x0_1 x6_1).f0))) (fun _ hk => hk.2) (.int .i64 ((rd_T33 x0_1 x6_1).f1))) (fun _ hk => hk.2) (.int .i64 ((rd_T33 x0_1 x6_1).f2))) (fun _ h_ => h_.1))) hb); replace B60 := Ak (blk_below (g := g1_0) (o := .cells #[.int .i64 a1_0] 3 (0, 0)) (Kz) hb); replace B3 := Ak (blk_below (g := g3) (o := .cells #[.int .i64 ((rd_T33 x0_1 x6_1).f0), .int .i64 ((rd_T33 x0_1 x6_1).f1), .int .i64 ((rd_T33 x0_1 x6_1).f2)] 33 (0, 0)) (by apply Sq.put3; exact bS B3.out) hb); replace HK := Ak (Kept.below (S := (fun k_ => P0_ k_)) (by repeat (first | (with_reducible first | exact HK.out | apply Kept.alloc | apply Kept.drewN | apply Kept.drew | refine Kept.setCell ?_ (.inr G60.out) _ | refine Kept.setCell ?_ (.inr G3.out) _) | exact HK.out)) hb); replace HB := Ak (below_step (Bq) hb); clear hb))
    (try simp only [← hl0_1])
    go_roundg k1
    case measure => have := HK1.out; omega
    case rel => exact ⟨(x0_1), (x5_1), (wrap64 (x6_1 + 1)), Ey, Ey, H', ⟨by have := HK1.out; omega⟩, ⟨by (try simp only [hl0_1]); exact Ho.RS <| Kd.R_mono R_0.out (fun _ hk => hk.1)⟩, ⟨by (try simp only [hl0_1]); exact bS B60.out⟩, ⟨by exact Ho.KS HK.out⟩, ⟨es HB⟩⟩
   replace c12 := Bool.eq_false_iff.mpr c12
   subst c12
   rw [if_neg (show ¬ (false = true) by decide)] at H
   by_cases c17 : 0 ≤ x5_1
   rotate_left
   ·rw [if_neg c17] at H
    exact absurd H (by simp)
   rw [if_pos c17] at H
   have c17b0 := decide_eq_true c17
   clear c17
   by_cases c18 : x5_1 < (x0_1.length : Int)
   rotate_left
   ·rw [if_neg c18] at H
    exact absurd H (by simp)
   rw [if_pos c18] at H
   have c18b0 := decide_eq_true c18
   clear c18
   obtain ⟨y5, hy5⟩ : ∃ y_ : List (S33), y_ = (x0_1.set (x5_1 : Int).toNat (⟨(rd_T33 x0_1 x6_1).f0, (rd_T33 x0_1 x6_1).f1, (rd_T33 x0_1 x6_1).f2⟩ : S33)) := ⟨_, rfl⟩
   replace H : (Fe.l0 k1 y5 (wrap64 (x5_1 + 1)) (wrap64 (x6_1 + 1)) a1_0) = some r := by first | (rw [hy5]; with_reducible exact H) | (have H2_ := (Option.bind_some _ _).symm.trans H; rw [hy5]; with_reducible exact H2_) | (have H2_ := (Option.bind_some _ _).symm.trans H; with_reducible exact H2_) | with_reducible exact H | (rw [hy5]; exact H) | exact H
   have Ny5 := Aside0.mk hy5
   clear hy5
   have H' := Aside0.mk H
   clear H
   have p102 : 0 ≤ (x6_1 : Int) := Dz
   have q2 : x6_1 < (x0_1.length : Int) := Dz
   obtain ⟨ad2, e2, hx2_0, hx2_1, hx2_2⟩ := at_T33 (Kd.R_reads' R_0.out).2.2 x6_1 p102 q2
   cases e2
   replace p102 := eq_true p102
   replace q2 := eq_true q2
   go_wp2_with (first | (refine bE 7 33 #[.int .i64 0, .int .i64 0, .int .i64 0] ?_; intro g3 hg w20 B3 hb; have G3 := Ak ((by rw [hg]; exact (by first | exact HK.out.1 | exact (show Kept w _ (fun k_ => P0_ k_) from by exact Ho.KS HK.out).1) : w.heap.size ≤ g3)); have E3 := Ak ((by rw [hg]; exact (below_size (by exact eS HB.out)) : w0.heap.size ≤ g3)); obtain ⟨N60_3, N3_60⟩ := nB B60 hg; replace R_0 := rE R_0 hg hb; replace B60 := kT B60 hb; replace HK := Ak (Kept.below (S := (fun k_ => P0_ k_)) (by exact Ho.KS HK.out) hb); replace HB := bT HB hb; clear hb hg; have hnb21 := nP N3_60; have hz22 := Sq.c3 B3.out) | (go_at_call 29; (with_reducible refine (Fay.calls ((rd_T33 x0_1 x6_1).f0) ((rd_T33 x0_1 x6_1).f1) ((rd_T33 x0_1 x6_1).f2) g1_0 a1_0 false _ ?side1 A11.out).mono ?_); (case side1 => (with_reducible repeat (first | refine blk_drewN ?_ _ | refine blk_drew ?_ | refine blk_alloc ?_ _)); refine blk_far ?_ N60_3.out _; (with_reducible repeat (first | refine blk_drewN ?_ _ | refine blk_drew ?_ | refine blk_alloc ?_ _)); refine blk_far ?_ N60_3.out _; (with_reducible repeat (first | refine blk_drewN ?_ _ | refine blk_drew ?_ | refine blk_alloc ?_ _)); refine blk_far ?_ N60_3.out _; exact bS B60.out); rintro e w23 ⟨rfl, hb⟩; replace R_0 := Ak (Kd.R_below (by exact Ho.RS <| (Kd.R_mono (Kd.R_far (p := ⟨g3, 2, none⟩) (Kd.R_far (p := ⟨g3, 1, none⟩) (Kd.R_far (p := ⟨g3, 0, none⟩) (Kd.R_mono R_0.out (fun k_ hk => (⟨hk, hk.2⟩ : _ ∧ k_ ≠ g3))) (fun _ hk => hk.2) (.int .i64 ((rd_T33 x0_1 x6_1).f0))) (fun _ hk => hk.2) (.int .i64 ((rd_T33 x0_1 x6_1).f1))) (fun _ hk => hk.2) (.int .i64 ((rd_T33 x0_1 x6_1).f2))) (fun _ h_ => h_.1))) hb); replace B60 := Ak (blk_below (g := g1_0) (o := .cells #[.int .i64 a1_0] 3 (0, 0)) (Kz) hb); replace B3 := Ak (blk_below (g := g3) (o := .cells #[.int .i64 ((rd_T33 x0_1 x6_1).f0), .int .i64 ((rd_T33 x0_1 x6_1).f1), .int .i64 ((rd_T33 x0_1 x6_1).f2)] 33 (0, 0)) (by apply Sq.put3; exact bS B3.out) hb); replace HK := Ak (Kept.below (S := (fun k_ => P0_ k_)) (by repeat (first | (with_reducible first | exact HK.out | apply Kept.alloc | apply Kept.drewN | apply Kept.drew | refine Kept.setCell ?_ (.inr G60.out) _ | refine Kept.setCell ?_ (.inr G3.out) _) | exact HK.out)) hb); replace HB := Ak (below_step (Bq) hb); clear hb; have hz24 := Sq.c3 B3.out; have p19 : 0 ≤ (x5_1 : Int) := Dz; have q19 : (x5_1 : Int) < ((x0_1.length : Int) : Int) := Dz; obtain ⟨go19, co19, eo19, g19, gl19, cl19, HG19⟩ := Kd.R_form R_0.out (by omega); (first | cases eo19 | (injection eo19 with ea_ en_ ec_; (first | subst ea_ | (injection ea_ with ea_; subst ea_)); subst ec_; clear en_)); have K19 := Aside0.mk g19; have GG19 := Aside0.mk HG19; clear g19 gl19 HG19; have HMgo19 := Aside0.mk (show (P0_ go19 ∨ w.heap.size ≤ go19) from (R_0.out.1 _ rfl).1); (first | simp only [add_plain] at hx2_0 | skip); (first | simp only [add_plain] at hx2_1 | skip); (first | simp only [add_plain] at hx2_2 | skip); obtain ⟨ce19, hcl19, hM19, hcc19, hfr19⟩ := Kd.R_elem R_0.out z33 (x5_1 : Int) p19 q19; obtain rfl := k33_openM hM19; have hx19_0 : w23.cell? ⟨go19, (x5_1 : Int).toNat * 3, none⟩ = some (.int .i64 ((rd_T33 x0_1 x5_1).f0)) := hcc19 0 _ rfl; have hx19_1 : w23.cell? ⟨go19, (x5_1 : Int).toNat * 3 + 1, none⟩ = some (.int .i64 ((rd_T33 x0_1 x5_1).f1)) := hcc19 1 _ rfl; have hx19_2 : w23.cell? ⟨go19, (x5_1 : Int).toNat * 3 + 2, none⟩ = some (.int .i64 ((rd_T33 x0_1 x5_1).f2)) := hcc19 2 _ rfl; have hf19_0 : w23.frozen? ⟨go19, (x5_1 : Int).toNat * 3, none⟩ = false := hfr19 0; have hf19_1 : w23.frozen? ⟨go19, (x5_1 : Int).toNat * 3 + 1, none⟩ = false := hfr19 1; have hf19_2 : w23.frozen? ⟨go19, (x5_1 : Int).toNat * 3 + 2, none⟩ = false := hfr19 2; clear hcl19 hcc19 hfr19 hM19; replace p19 := eq_true p19; replace q19 := eq_true q19; have HX25 := Aside0.mk (show Kd.R k33 33 w23 w0.heap.size (fun k_ => (P0_ k_ ∨ w.heap.size ≤ k_) ∧ k_ ≠ g3) (.slice (some ⟨go19, 0, none⟩) x0_1.length co7) x0_1 from (by exact Ho.RS <| R_0.out)); obtain ⟨ce25, hcl25, hM25, hcc25, hfr25⟩ := Kd.R_elem HX25.out z33 (x5_1 : Int) (Dz) (by have h_ : (x5_1 : Int) < ((x0_1.length : Int) : Int) := Dz; first | exact h_ | (have e_ := (Kd.R_reads' R_0.out).1; omega) | simpa using h_); obtain rfl := k33_openM hM25; have HP25 := Kd.R_seg HX25.out (x5_1 : Int) (Dz) (by have h_ : (x5_1 : Int) < ((x0_1.length : Int) : Int) := Dz; first | exact h_ | (have e_ := (Kd.R_reads' R_0.out).1; omega) | simpa using h_) (seg := [.int .i64 ((rd_T33 x0_1 x6_1).f0), .int .i64 ((rd_T33 x0_1 x6_1).f1), .int .i64 ((rd_T33 x0_1 x6_1).f2)]) (j := 0) hcl25 hcc25 (show 3 ≤ 3 from by decide) (x' := (⟨(rd_T33 x0_1 x6_1).f0, (rd_T33 x0_1 x6_1).f1, (rd_T33 x0_1 x6_1).f2⟩ : S33)) (k33_mkM _ _ _ (⟨(rd_T33 x0_1 x6_1).f0, (rd_T33 x0_1 x6_1).f1, (rd_T33 x0_1 x6_1).f2⟩ : S33) ) (fun _ hk => hk); have hx25_0 := hcc25 0 _ rfl; (try simp only [show (k33).sz = 3 from rfl, Nat.mul_one, Nat.add_zero] at hx25_0); have hf25_0 := hfr25 0; (try simp only [show (k33).sz = 3 from rfl, Nat.mul_one, Nat.add_zero] at hf25_0); have hx25_1 := hcc25 1 _ rfl; (try simp only [show (k33).sz = 3 from rfl, Nat.mul_one, Nat.add_zero] at hx25_1); have hf25_1 := hfr25 1; (try simp only [show (k33).sz = 3 from rfl, Nat.mul_one, Nat.add_zero] at hf25_1); have hx25_2 := hcc25 2 _ rfl; (try simp only [show (k33).sz = 3 from rfl, Nat.mul_one, Nat.add_zero] at hx25_2); have hf25_2 := hfr25 2; (try simp only [show (k33).sz = 3 from rfl, Nat.mul_one, Nat.add_zero] at hf25_2); clear hcl25 hcc25 hfr25 hM25) | ((with_reducible refine gate_store (t := 33) (p := 33) rfl ?_); refine store_event (t := 33) (p := 33) (v := ?vo_w26) (w1 := (((w23.setCell ⟨go19, (x5_1 : Int).toNat * 3, none⟩ (.int .i64 ((rd_T33 x0_1 x6_1).f0))).setCell ⟨go19, (x5_1 : Int).toNat * 3 + 1, none⟩ (.int .i64 ((rd_T33 x0_1 x6_1).f1))).setCell ⟨go19, (x5_1 : Int).toNat * 3 + 2, none⟩ (.int .i64 ((rd_T33 x0_1 x6_1).f2)))) ?hg ?ho ?hn ?hr ?_; (case ho => rfl); (case hg => rfl); (case hn => rfl); (case hr => first | (go_simp; done) | (go_simp; rfl)); intro w26 hw; have hg : w23.grownBy w26 (some go19) := (by rw [hw]; exact HP25.2); have hp_ : Kd.R k33 33 w26 w0.heap.size (fun k_ => (P0_ k_ ∨ w.heap.size ≤ k_) ∧ k_ ≠ g3) (.slice (some ⟨go19, 0, none⟩) x0_1.length co7) y5 := (by rw [hw, Ny5.out]; exact HP25.1); clear HP25; replace B60 := Ak (blk_grown (bS B60.out) hg (Kd.R_ne R_0.out B60.out (by decide))); replace B3 := Ak (blk_grown (bS B3.out) hg (Kd.R_away R_0.out (fun _ hk => hk.2))); replace HB := Ak ((by rw [hw]; exact below_set (below_set (below_set (HB.out) K19.out) K19.out) K19.out : Below w0.heap.size w0 w26)); replace HK := Ak (Kept.of_grown (S := (fun k_ => P0_ k_)) hg (by exact Ho.KS HK.out) (fun k_ e_ => (R_0.out.1 k_ e_).1)); replace R_0 := Ak hp_; clear hg hw hp_))
   (try simp only [← hl0_1])
   go_roundg k1
   case measure => have := HK1.out; omega
   case rel => exact ⟨(y5), (wrap64 (x5_1 + 1)), (wrap64 (x6_1 + 1)), Ey, Ey, H', ⟨by have := HK1.out; omega⟩, ⟨by (try simp only [hl0_1]); exact Ho.RS <| Kd.R_mono R_0.out (fun _ hk => hk.1)⟩, ⟨by (try simp only [hl0_1]); exact bS B60.out⟩, ⟨by exact Ho.KS HK.out⟩, ⟨es HB⟩⟩
end
/-! ### Fbj: function 54 -/
def Fbj.f (a0 : Int) : Option (Bool) := some (a0 != a0)
theorem Fbj.calls (a0 : Int) (r : Bool) (w : World) (h : Fbj.f a0 = some r) :
  Calls Tryz.prog 54 #[.int .i64 a0] w fun e w' => e = .returned (.bool r) ∧ Drawn0 w w' := by
 have H := h
 clear h
 unfold Fbj.f at H
 obtain rfl := Option.some.inj H
 go_enter Tryz.func54, Tryz.ntmps54
 go_wp2
 go_ret
 exact ⟨by first | rfl | (simp; done) | (simp [*]; done), by repeat (first | exact Drawn0.refl _ | apply Drawn0.step)⟩
/-! ### Fbf: function 23 -/
def Fbf.f (a0 : Int) (a1 : Int) : Option (Int) := (Fbj.f a0).bind fun t101 => ((Fbj.f a1).bind fun t102 => (if t101 = true then (if t102 = true then (some 0) else (some (-1))) else (if t102 = true then (some 1) else (if a0 < a1 then (some (-1)) else (if a0 > a1 then (some 1) else (some 0))))))
theorem Fbf.calls (a0 : Int) (a1 : Int) (r : Int) (w : World) (h : Fbf.f a0 a1 = some r) :
  Calls Tryz.prog 23 #[.int .i64 a0, .int .i64 a1] w fun e w' => e = .returned (.int .i64 r) ∧ Drawn0 w w' := by
 have H := h
 clear h
 unfold Fbf.f at H
 obtain ⟨t1, A3, H⟩ := bn H
 (try dsimp only at H)
 obtain ⟨t2, A4, H⟩ := bn H
 (try dsimp only at H)
 by_cases c5 : t1 = true
 subst c5
 rw [if_pos rfl] at H
 by_cases c6 : t2 = true
 subst c6
 rw [if_pos rfl] at H
 obtain rfl := Option.some.inj H
 have WAY0 := True.intro
 rotate_left
 replace c6 := Bool.eq_false_iff.mpr c6
 subst c6
 rw [if_neg (show ¬ (false = true) by decide)] at H
 obtain rfl := Option.some.inj H
 have WAY1 := True.intro
 rotate_left
 replace c5 := Bool.eq_false_iff.mpr c5
 subst c5
 rw [if_neg (show ¬ (false = true) by decide)] at H
 by_cases c7 : t2 = true
 subst c7
 rw [if_pos rfl] at H
 obtain rfl := Option.some.inj H
 have WAY2 := True.intro
 rotate_left
 replace c7 := Bool.eq_false_iff.mpr c7
 subst c7
 rw [if_neg (show ¬ (false = true) by decide)] at H
 by_cases c8 : a0 < a1
 rw [if_pos c8] at H
 have c8b0 := decide_eq_true c8
 clear c8
 obtain rfl := Option.some.inj H
 have WAY3 := True.intro
 rotate_left
 rw [if_neg c8] at H
 have c8b0 := decide_eq_false c8
 clear c8
 by_cases c9 : a0 > a1
 rw [if_pos c9] at H
 have c9b0 := decide_eq_true c9
 clear c9
 obtain rfl := Option.some.inj H
 have WAY4 := True.intro
 rotate_left
 rw [if_neg c9] at H
 have c9b0 := decide_eq_false c9
 clear c9
 obtain rfl := Option.some.inj H
 have WAY5 := True.intro
 rotate_left
 all_goals
  go_enter Tryz.func23, Tryz.ntmps23
  go_wp2_with (first | ((first | guard_hyp WAY0 : True | guard_hyp WAY1 : True); (refine cE (some 8) Tryz.func54 #[.int .i64 a0] ?_; (with_reducible refine (Fbj.calls a0 true _ A3.out).mono ?_); rintro e w' ⟨rfl, ⟨nd, rfl⟩⟩; refine ⟨_, rfl, ?_⟩)) | ((first | guard_hyp WAY0 : True | guard_hyp WAY2 : True); (refine cE (some 10) Tryz.func54 #[.int .i64 a1] ?_; (with_reducible refine (Fbj.calls a1 true _ A4.out).mono ?_); rintro e w' ⟨rfl, ⟨nd, rfl⟩⟩; refine ⟨_, rfl, ?_⟩)) | ((first | guard_hyp WAY1 : True | guard_hyp WAY3 : True | guard_hyp WAY4 : True | guard_hyp WAY5 : True); (refine cE (some 10) Tryz.func54 #[.int .i64 a1] ?_; (with_reducible refine (Fbj.calls a1 false _ A4.out).mono ?_); rintro e w' ⟨rfl, ⟨nd, rfl⟩⟩; refine ⟨_, rfl, ?_⟩)) | ((first | guard_hyp WAY2 : True | guard_hyp WAY3 : True | guard_hyp WAY4 : True | guard_hyp WAY5 : True); (refine cE (some 8) Tryz.func54 #[.int .i64 a0] ?_; (with_reducible refine (Fbj.calls a0 false _ A3.out).mono ?_); rintro e w' ⟨rfl, ⟨nd, rfl⟩⟩; refine ⟨_, rfl, ?_⟩)))
  go_ret
  exact ⟨by first | rfl | (simp; done) | (simp [*]; done), by repeat (first | exact Drawn0.refl _ | apply Drawn0.step)⟩
section
attribute [local go_sem ↓] Ho.isSome_setCell_
/-! ### Fbh: function 31 -/
def Fbh.f (a0_0 : Int) (a0_1 : Int) (a0_2 : Int) (a1_0 : Int) (a1_1 : Int) (a1_2 : Int) : Option (Int) := (Fbf.f a0_2 a1_2).bind fun t103 => (some t103)
theorem Fbh.calls (a0_0 : Int) (a0_1 : Int) (a0_2 : Int) (a1_0 : Int) (a1_1 : Int) (a1_2 : Int) (r : Int) (w : World) (h : Fbh.f a0_0 a0_1 a0_2 a1_0 a1_1 a1_2 = some r) :
  Calls Tryz.prog 31 #[.agg #[.int .i64 a0_0, .int .i64 a0_1, .int .i64 a0_2], .agg #[.int .i64 a1_0, .int .i64 a1_1, .int .i64 a1_2]] w fun e w' => e = .returned (.int .i64 r) ∧ Below w.heap.size w w' := by
 have hu33 := Tryz.underlying33
 have HB := Aside0.mk (Below.refl w.heap.size w)
 have H := h
 clear h
 unfold Fbh.f at H
 obtain ⟨t3, A3, H⟩ := bn H
 (try dsimp only at H)
 obtain rfl := Option.some.inj H
 go_enter Tryz.func31, Tryz.ntmps31
 go_wp2_with (first | (refine bE 2 33 #[.int .i64 a0_0, .int .i64 a0_1, .int .i64 a0_2] ?_; intro g1 hg w4 B1 hb; have E1 := gW HB hg; replace HB := bT HB hb; clear hb hg) | (refine bE 3 33 #[.int .i64 a1_0, .int .i64 a1_1, .int .i64 a1_2] ?_; intro g2 hg w5 B2 hb; have E2 := gW HB hg; obtain ⟨N1_2, N2_1⟩ := nB B1 hg; replace B1 := kT B1 hb; replace HB := bT HB hb; clear hb hg; have hnb6 := nP N1_2; have hz7 := Sq.c3 B1.out; have hz8 := Sq.c3 B2.out) | (refine cE (some 9) Tryz.func23 #[.int .i64 a0_2, .int .i64 a1_2] ?_; (with_reducible refine (Fbf.calls a0_2 a1_2 t3 _ A3.out).mono ?_); rintro e w' ⟨rfl, ⟨nd, rfl⟩⟩; refine ⟨_, rfl, ?_⟩))
 go_ret
 exact ⟨Ez, by exact eS HB.out⟩
end
section
attribute [local go_sem ↓] Ho.isSome_setCell_
/-! ### Fc: function 100009 -/
def Fc.l0 : Nat → List (S33) → Int → Int → Int → Int → Option (Int × Int × Int)
  | 0, _, _, _, _, _ => none
  | k + 1, x0, x6, x104000, x104001, x104002 => if x6 < (x0.length : Int) then (if 0 ≤ x6 then ((Fbh.f ((rd_T33 x0 x6).f0) ((rd_T33 x0 x6).f1) ((rd_T33 x0 x6).f2) x104000 x104001 x104002).bind fun t105 => (if t105 < 0 then (Fc.l0 k x0 (wrap64 (x6 + 1)) ((rd_T33 x0 x6).f0) ((rd_T33 x0 x6).f1) ((rd_T33 x0 x6).f2)) else (Fc.l0 k x0 (wrap64 (x6 + 1)) x104000 x104001 x104002))) else (none)) else (some (x104000, x104001, x104002))
def Fc.f (k : Nat) (l0 : List (S33))  : Option (Int × Int × Int) := if (l0.length : Int) < 1 then (none) else (if 0 < (l0.length : Int) then (Fc.l0 k l0 1 ((rd_T33 l0 0).f0) ((rd_T33 l0 0).f1) ((rd_T33 l0 0).f2)) else (none))
theorem Fc.mono_l : ∀ k, (∀ y0 y1 y2 y3 y4, LeO (Fc.l0 k y0 y1 y2 y3 y4) (Fc.l0 (k + 1) y0 y1 y2 y3 y4))
  | 0 => fun _ _ _ _ _ r h => by simp [Fc.l0] at h
  | k + 1 => by
    have ih0 := Fc.mono_l k
    · intro y0 y1 y2 y3 y4
      unfold Fc.l0
      repeat' (with_reducible first | exact ih0 _ _ _ _ _ | exact LeO.refl _ | exact LeO.none _ | refine LeO.ite ?_ ?_ | refine LeO.bind ?_ (fun _ => ?_))
theorem Fc.mono : ∀ a0 k, LeO (Fc.f k a0) (Fc.f (k + 1) a0) := by
  intro a0 k
  have ih0 := Fc.mono_l k
  unfold Fc.f
  repeat' (with_reducible first | exact ih0 _ _ _ _ _ | exact LeO.refl _ | exact LeO.none _ | refine LeO.ite ?_ ?_ | refine LeO.bind ?_ (fun _ => ?_))
def Fc.T7 : Bool × List (List Nat × List Nat) := (true, [([], []), ([], []), ([], []), ([1, 2], [1, 2]), ([3], [3]), ([], []), ([0, 4, 5], [0, 4, 5]), ([6], [6])])
def Fc.B7 : List Nat := [0, 0, 0, 6, 14, 0, 63, 127]
theorem Fc.tab7 : rtab .any (opsOf Tryz.f30 7) = Fc.T7 := by kernel_rfl
theorem Fc.bits7 : waitsOk Fc.T7.2 Fc.B7 = true := by kernel_rfl
theorem Fc.calls (k : Nat) (A0 : Option Addr) (c0 : Nat) (l0 : List (S33))  (r1 : Int) (r2 : Int) (r3 : Int) (w : World) (hr0 : Kd.C k33 w A0 l0.length l0) (hc0 : l0.length ≤ c0) (h : Fc.f k l0 = some (r1, r2, r3)) :
  Calls Tryz.prog 30 #[.slice A0 l0.length c0, .func (.func 31) #[] #[]] w fun e w' => e = .returned (.agg #[.int .i64 r1, .int .i64 r2, .int .i64 r3]) ∧ Below w.heap.size w w' := by
 have hu33 := Tryz.underlying33
 have HR0 := Aside0.mk hr0
 have HC0 := Aside0.mk hc0
 clear hr0 hc0
 have HB := Aside0.mk (Below.refl w.heap.size w)
 have H := h
 clear h
 unfold Fc.f at H
 by_cases c3 : (l0.length : Int) < 1
 ·rw [if_pos c3] at H
  exact absurd H (by simp)
 rw [if_neg c3] at H
 have c3b0 := decide_eq_false c3
 have c3b1 : decide (l0.length < 1) = false := decide_eq_false (by omega)
 clear c3
 by_cases c4 : 0 < (l0.length : Int)
 rotate_left
 ·rw [if_neg c4] at H
  exact absurd H (by simp)
 rw [if_pos c4] at H
 have c4b0 := decide_eq_true c4
 have c4b1 : decide (0 < l0.length) = true := decide_eq_true (by omega)
 clear c4
 have H' := Aside0.mk H
 clear H
 go_enter Tryz.func30, Tryz.ntmps30
 go_wp2_with (first | (refine bE 4 33 #[.int .i64 0, .int .i64 0, .int .i64 0] ?_; intro g1 hg w5 B1 hb; have E1 := gW HB hg; replace HB := bT HB hb; clear hb hg; have p102 : 0 ≤ (0 : Int) := (by omega); have q2 : 0 < (l0.length : Int) := Dz; obtain ⟨ad2, e2, hx2_0, hx2_1, hx2_2⟩ := at_T33 HR0.out 0 p102 q2; cases e2; have qi102 : (0 < l0.length) = True := eq_true (by omega); (try rw [show ((0 : Int)).toNat = 0 from rfl] at hx2_0); (try rw [show 0 * 3 = 0 from rfl] at hx2_0); (try rw [Addr.add_zero'] at hx2_0); (try rw [show ((0 : Int)).toNat = 0 from rfl] at hx2_1); (try rw [show 0 * 3 = 0 from rfl] at hx2_1); (try rw [Addr.add_zero'] at hx2_1); (try rw [show ((0 : Int)).toNat = 0 from rfl] at hx2_2); (try rw [show 0 * 3 = 0 from rfl] at hx2_2); (try rw [Addr.add_zero'] at hx2_2); replace hx2_0 := Sq.cB HB.out hx2_0; replace hx2_1 := Sq.cB HB.out hx2_1; replace hx2_2 := Sq.cB HB.out hx2_2; replace p102 := eq_true p102; replace q2 := eq_true q2) | (refine bE 5 33 #[.int .i64 0, .int .i64 0, .int .i64 0] ?_; intro g3 hg w6 B3 hb; have E3 := gW HB hg; obtain ⟨N1_3, N3_1⟩ := nB B1 hg; replace B1 := kT B1 hb; replace HB := bT HB hb; clear hb hg; have hnb7 := nP N3_1; have hz8 := Sq.c3 B3.out))
 go_loopg [6] k (fun kq v6 w' => ∃ (x6_1 : Int) (x104000_1 : Int) (x104001_1 : Int) (x104002_1 : Int), v6 = .int .i64 x6_1 ∧ Aside0 (Fc.l0 kq l0 x6_1 x104000_1 x104001_1 x104002_1 = some (r1, r2, r3)) ∧ Aside0 (kq ≤ k) ∧ Aside0 (w'.heap[g1]? = some (.cells #[.int .i64 0, .int .i64 0, .int .i64 0] 33 (0, 0))) ∧ Aside0 (w'.heap[g3]? = some (.cells #[.int .i64 x104000_1, .int .i64 x104001_1, .int .i64 x104002_1] 33 (0, 0))) ∧ Aside0 (Below w.heap.size w w'))
 case atStart => exact ⟨(1), ((rd_T33 l0 0).f0), ((rd_T33 l0 0).f1), ((rd_T33 l0 0).f2), Ey, H', ⟨Nat.le_refl _⟩, ⟨Kz⟩, ⟨by apply Sq.put3; exact bS B3.out⟩, ⟨Bq⟩⟩
 case round =>
  clear H'
  try clear p1
  try clear q1
  try clear hx1
  try clear qi1
  try clear p2
  try clear c3
  try clear c3b0
  try clear c3b1
  try clear c4
  try clear c4b0
  try clear c4b1
  try clear c7
  (try clear hz8)
  try clear hx2_0
  try clear hx2_1
  try clear hx2_2
  try clear p102
  try clear q2
  obtain ⟨x6_1, x104000_1, x104001_1, x104002_1, rfl, HA, HK1, B1, B3, HB⟩ := hrel
  cases gk with
  | zero => exact absurd HA.out (by simp [Fc.l0])
  | succ k1 =>
   have H := HA.out
   clear HA
   simp only [Fc.l0] at H
   by_cases c9 : x6_1 < (l0.length : Int)
   rotate_left
   ·rw [if_neg c9] at H
    have c9b0 := decide_eq_false c9
    clear c9
    simp only [Option.some.injEq, Prod.mk.injEq] at H
    obtain ⟨rfl, rfl, rfl⟩ := H
    have hnb19 := nP N3_1
    have hz20 := Sq.c3 B3.out
    have hz21 := Sq.c3 B1.out
    go_wp2
    refine bodyPost_ret (results_cell_row rfl _ _ g1 33 #[.int .i64 x104000_1, .int .i64 x104001_1, .int .i64 x104002_1] (0, 0) _ rfl (by apply Sq.put3; exact bS B1.out) Tryz.underlying33 rfl (by kernel_rfl)) rfl ?_
    exact ⟨Ez, Bq⟩
   rw [if_pos c9] at H
   have c9b0 := decide_eq_true c9
   clear c9
   by_cases c10 : 0 ≤ x6_1
   rotate_left
   ·rw [if_neg c10] at H
    exact absurd H (by simp)
   rw [if_pos c10] at H
   have c10b0 := decide_eq_true c10
   clear c10
   obtain ⟨t5, A11, H⟩ := bn H
   (try dsimp only at H)
   by_cases c12 : t5 < 0
   rotate_left
   ·rw [if_neg c12] at H
    have c12b0 := decide_eq_false c12
    clear c12
    have H' := Aside0.mk H
    clear H
    try go_wp2
    replace B1 := kD B1
    replace B3 := kD B3
    replace HB := bD HB
    have p104 : 0 ≤ (x6_1 : Int) := Dz
    have q4 : x6_1 < (l0.length : Int) := Dz
    obtain ⟨ad4, e4, hx4_0, hx4_1, hx4_2⟩ := at_T33 HR0.out x6_1 p104 q4
    have hw104_2 := hx4_2
    have hw104_1 := hx4_1
    have hw104_0 := hx4_0
    obtain rfl : ad2 = ad4 := (by injection e4)
    replace hx4_0 := Sq.cB HB.out hx4_0
    replace hx4_1 := Sq.cB HB.out hx4_1
    replace hx4_2 := Sq.cB HB.out hx4_2
    replace p104 := eq_true p104
    replace q4 := eq_true q4
    refine sT 8 (fun w' => w'.cell? ⟨g3, 0, none⟩ = some (.int .i64 x104000_1) ∧ w'.cell? ⟨g3, 1, none⟩ = some (.int .i64 x104001_1) ∧ w'.cell? ⟨g3, 2, none⟩ = some (.int .i64 x104002_1) ∧ w'.cell? (ad2.add ((x6_1).toNat * 3)) = some (.int .i64 ((rd_T33 l0 x6_1).f0)) ∧ w'.cell? ⟨(ad2.add ((x6_1).toNat * 3)).block, (ad2.add ((x6_1).toNat * 3)).off + 1, none⟩ = some (.int .i64 ((rd_T33 l0 x6_1).f1)) ∧ w'.cell? ⟨(ad2.add ((x6_1).toNat * 3)).block, (ad2.add ((x6_1).toNat * 3)).off + 2, none⟩ = some (.int .i64 ((rd_T33 l0 x6_1).f2))) [] Fc.tab7 Fc.bits7 ⟨bc B3 0, bc B3 1, bc B3 2, (cb HB hw104_0), (cb HB hw104_1), (cb HB hw104_2)⟩ fun hHeld HT_ HW_ => ?_
    generalize wr.drew = w17 at B1 B3 HB hx4_0 hx4_1 hx4_2 hHeld ⊢
    refine Pu 0 ?_
    refine Pu 1 ?_
    refine Pu 2 ?_
    refine Pu 3 ?_
    refine Ta 4 ?_
    refine Ta 5 ?_
    refine oN 6 fun K hK => ?_
    refine Ho.goesv_ Tryz.func31 (by kernel_rfl) rfl _ _ #[.agg #[.int .i64 ((rd_T33 l0 x6_1).f0), .int .i64 ((rd_T33 l0 x6_1).f1), .int .i64 ((rd_T33 l0 x6_1).f2)], .agg #[.int .i64 x104000_1, .int .i64 x104001_1, .int .i64 x104002_1]] (by rfl) rfl rfl (by rfl) (by (try simp only [List.map_toArray, List.map_cons, List.map_nil]); first | done | rfl | (simp only [List.length_drop, List.length_take]; rfl)) ?_
    with_reducible refine (Fbh.calls ((rd_T33 l0 x6_1).f0) ((rd_T33 l0 x6_1).f1) ((rd_T33 l0 x6_1).f2) x104000_1 x104001_1 x104002_1 t5 _ A11.out).mono ?_
    rintro e w18 ⟨rfl, hb⟩
    refine ⟨_, rfl, ?_⟩
    replace B1 := kT B1 hb
    replace B3 := kT B3 hb
    replace HB := bT HB hb
    clear hb
    refine hK.out _ _ ⟨bc B3 0, bc B3 1, bc B3 2, (cb HB hw104_0), (cb HB hw104_1), (cb HB hw104_2)⟩ (fun hHeld => ?_)
    clear hK K
    refine nO 26 ?_
    refine Pu 7 ?_
    refine dO ?_
    try go_wp2
    go_roundg k1
    case measure => have := HK1.out; omega
    case rel => exact ⟨(wrap64 (x6_1 + 1)), (x104000_1), (x104001_1), (x104002_1), Ey, H', ⟨by have := HK1.out; omega⟩, ⟨ks B1⟩, ⟨ks B3⟩, ⟨es HB⟩⟩
   rw [if_pos c12] at H
   have c12b0 := decide_eq_true c12
   clear c12
   have H' := Aside0.mk H
   clear H
   try go_wp2
   replace B1 := kD B1
   replace B3 := kD B3
   replace HB := bD HB
   have p104 : 0 ≤ (x6_1 : Int) := Dz
   have q4 : x6_1 < (l0.length : Int) := Dz
   obtain ⟨ad4, e4, hx4_0, hx4_1, hx4_2⟩ := at_T33 HR0.out x6_1 p104 q4
   have hw104_2 := hx4_2
   have hw104_1 := hx4_1
   have hw104_0 := hx4_0
   obtain rfl : ad2 = ad4 := (by injection e4)
   replace hx4_0 := Sq.cB HB.out hx4_0
   replace hx4_1 := Sq.cB HB.out hx4_1
   replace hx4_2 := Sq.cB HB.out hx4_2
   replace p104 := eq_true p104
   replace q4 := eq_true q4
   refine sT 8 (fun w' => w'.cell? ⟨g3, 0, none⟩ = some (.int .i64 x104000_1) ∧ w'.cell? ⟨g3, 1, none⟩ = some (.int .i64 x104001_1) ∧ w'.cell? ⟨g3, 2, none⟩ = some (.int .i64 x104002_1) ∧ w'.cell? (ad2.add ((x6_1).toNat * 3)) = some (.int .i64 ((rd_T33 l0 x6_1).f0)) ∧ w'.cell? ⟨(ad2.add ((x6_1).toNat * 3)).block, (ad2.add ((x6_1).toNat * 3)).off + 1, none⟩ = some (.int .i64 ((rd_T33 l0 x6_1).f1)) ∧ w'.cell? ⟨(ad2.add ((x6_1).toNat * 3)).block, (ad2.add ((x6_1).toNat * 3)).off + 2, none⟩ = some (.int .i64 ((rd_T33 l0 x6_1).f2))) [] Fc.tab7 Fc.bits7 ⟨bc B3 0, bc B3 1, bc B3 2, (cb HB hw104_0), (cb HB hw104_1), (cb HB hw104_2)⟩ fun hHeld HT_ HW_ => ?_
   generalize wr.drew = w13 at B1 B3 HB hx4_0 hx4_1 hx4_2 hHeld ⊢
   refine Pu 0 ?_
   refine Pu 1 ?_
   refine Pu 2 ?_
   refine Pu 3 ?_
   refine Ta 4 ?_
   refine Ta 5 ?_
   refine oN 6 fun K hK => ?_
   refine Ho.goesv_ Tryz.func31 (by kernel_rfl) rfl _ _ #[.agg #[.int .i64 ((rd_T33 l0 x6_1).f0), .int .i64 ((rd_T33 l0 x6_1).f1), .int .i64 ((rd_T33 l0 x6_1).f2)], .agg #[.int .i64 x104000_1, .int .i64 x104001_1, .int .i64 x104002_1]] (by rfl) rfl rfl (by rfl) (by (try simp only [List.map_toArray, List.map_cons, List.map_nil]); first | done | rfl | (simp only [List.length_drop, List.length_take]; rfl)) ?_
   with_reducible refine (Fbh.calls ((rd_T33 l0 x6_1).f0) ((rd_T33 l0 x6_1).f1) ((rd_T33 l0 x6_1).f2) x104000_1 x104001_1 x104002_1 t5 _ A11.out).mono ?_
   rintro e w14 ⟨rfl, hb⟩
   refine ⟨_, rfl, ?_⟩
   replace B1 := kT B1 hb
   replace B3 := kT B3 hb
   replace HB := bT HB hb
   clear hb
   refine hK.out _ _ ⟨bc B3 0, bc B3 1, bc B3 2, (cb HB hw104_0), (cb HB hw104_1), (cb HB hw104_2)⟩ (fun hHeld => ?_)
   clear hK K
   refine nO 26 ?_
   refine Pu 7 ?_
   refine dO ?_
   have p106 : 0 ≤ (x6_1 : Int) := Dz
   have q6 : x6_1 < (l0.length : Int) := Dz
   obtain ⟨ad6, e6, hx6_0, hx6_1, hx6_2⟩ := at_T33 HR0.out x6_1 p106 q6
   obtain rfl : ad2 = ad6 := (by injection e6)
   replace hx6_0 := Sq.cB HB.out hx6_0
   replace hx6_1 := Sq.cB HB.out hx6_1
   replace hx6_2 := Sq.cB HB.out hx6_2
   replace p106 := eq_true p106
   replace q6 := eq_true q6
   have hnb15 := nP N3_1
   have hz16 := Sq.c3 B3.out
   try go_wp2
   go_roundg k1
   case measure => have := HK1.out; omega
   case rel => exact ⟨(wrap64 (x6_1 + 1)), ((rd_T33 l0 x6_1).f0), ((rd_T33 l0 x6_1).f1), ((rd_T33 l0 x6_1).f2), Ey, H', ⟨by have := HK1.out; omega⟩, ⟨Kz⟩, ⟨by apply Sq.put3; exact bS B3.out⟩, ⟨Bq⟩⟩
end
section
attribute [local go_sem ↓] Ho.isSome_setCell_
/-! ### Fy: function 8 -/
def Fy.j0 : Nat → Int → Bool → List (S33) → Int → Int → Int → Int → Int → Option (Int × Bool)
  | 0, _, _, _, _, _, _, _, _ => none
  | k + 1, x1, x21, x108000, x108001, x108002, x108003, x108004, x109000 => if x21 = true then (some (0, false)) else ((Fz.f k x108000 x108001 x108002 x108003 x108004 x1).bind fun t112 => ((Fe.f k t112 x109000).bind fun t115 => (if (t115.length : Int) = 0 then (some (0, false)) else ((Fc.f k t115).bind fun bt118 => (some (bt118.1, true))))))
def Fy.f (k : Nat) (l0_0 : List (S33)) (a0_1 : Int) (a0_2 : Int) (a0_3 : Int) (a0_4 : Int) (a1 : Int) (a2 : Int) : Option (Int × Bool) := (Fk.f k l0_0 a0_1 a0_2 a0_3 a0_4).bind fun t109 => (if t109 = true then ((Faw.f a1).bind fun t110 => (if t110 = true then ((Fbb.f a2).bind fun t111 => (Fy.j0 k a1 (!t111) l0_0 a0_1 a0_2 a0_3 a0_4 a2)) else (Fy.j0 k a1 true l0_0 a0_1 a0_2 a0_3 a0_4 a2))) else (Fy.j0 k a1 true l0_0 a0_1 a0_2 a0_3 a0_4 a2))
theorem Fy.mono_l : ∀ k, (∀ y0 y1 y2 y3 y4 y5 y6 y7, LeO (Fy.j0 k y0 y1 y2 y3 y4 y5 y6 y7) (Fy.j0 (k + 1) y0 y1 y2 y3 y4 y5 y6 y7))
  | 0 => fun _ _ _ _ _ _ _ _ r h => by simp [Fy.j0] at h
  | k + 1 => by
    have ih0 := Fy.mono_l k
    · intro y0 y1 y2 y3 y4 y5 y6 y7
      unfold Fy.j0
      repeat' (with_reducible first | exact ih0 _ _ _ _ _ _ _ _ | apply Fk.mono | apply Fz.mono | apply Fe.mono | apply Fc.mono | exact LeO.refl _ | exact LeO.none _ | refine LeO.ite ?_ ?_ | refine LeO.bind ?_ (fun _ => ?_))
theorem Fy.mono : ∀ a0 a1 a2 a3 a4 a5 a6 k, LeO (Fy.f k a0 a1 a2 a3 a4 a5 a6) (Fy.f (k + 1) a0 a1 a2 a3 a4 a5 a6) := by
  intro a0 a1 a2 a3 a4 a5 a6 k
  have ih0 := Fy.mono_l k
  unfold Fy.f
  repeat' (with_reducible first | exact ih0 _ _ _ _ _ _ _ _ | apply Fk.mono | apply Fz.mono | apply Fe.mono | apply Fc.mono | exact LeO.refl _ | exact LeO.none _ | refine LeO.ite ?_ ?_ | refine LeO.bind ?_ (fun _ => ?_))
theorem Fy.calls (k : Nat) (A0_0 : Option Addr) (c0_0 : Nat) (l0_0 : List (S33)) (a0_1 : Int) (a0_2 : Int) (a0_3 : Int) (a0_4 : Int) (a1 : Int) (a2 : Int) (r1 : Int) (r2 : Bool) (w : World) (hr0_0 : Kd.C k33 w A0_0 l0_0.length l0_0) (hc0_0 : l0_0.length ≤ c0_0) (h : Fy.f k l0_0 a0_1 a0_2 a0_3 a0_4 a1 a2 = some (r1, r2)) :
  Calls Tryz.prog 8 #[.agg #[.slice A0_0 l0_0.length c0_0, .int .i64 a0_1, .int .i64 a0_2, .int .i64 a0_3, .int .i64 a0_4], .int .i64 a1, .int .i64 a2] w fun e w' => e = .returned (.tuple #[.int .i64 r1, .bool r2]) ∧ Below w.heap.size w w' := by
 have hu26 := Tryz.underlying26
 have hfd33_0 : ∀ (v0 v1 v2 : Value) (w : World), (Instr.field 33 (.agg #[v0, v1, v2]) 0).run Tryz.prog w = .ok v0 w := fun _ _ _ _ => by kernel_rfl
 have HR0_0 := Aside0.mk hr0_0
 have HC0_0 := Aside0.mk hc0_0
 clear hr0_0 hc0_0
 have HB := Aside0.mk (Below.refl w.heap.size w)
 have H := h
 clear h
 unfold Fy.f at H
 have HC4 := Aside0.mk H
 clear H
 go_enter Tryz.func8, Tryz.ntmps8
 go_upto_region 1 with (first | (refine bE 3 26 #[.slice A0_0 l0_0.length c0_0, .int .i64 a0_1, .int .i64 a0_2, .int .i64 a0_3, .int .i64 a0_4] ?_; intro g7 hg w5 B7 hb; have E7 := gW HB hg; replace HB := bT HB hb; clear hb hg) | (refine bE 5 3 #[.int .i64 a2] ?_; intro g8 hg w6 B8 hb; have E8 := gW HB hg; obtain ⟨N7_8, N8_7⟩ := nB B7 hg; replace B7 := kT B7 hb; replace HB := bT HB hb; clear hb hg))
 (try simp only [Act.put, List.setIfInBounds_toArray, List.set_cons_zero, List.set_cons_succ])
 go_cut [21] (fun v21 wc => ∃ (kq : Nat) (x21_3 : Bool), v21 = .bool x21_3 ∧ Aside0 (Fy.j0 kq a1 x21_3 l0_0 a0_1 a0_2 a0_3 a0_4 a2 = some (r1, r2)) ∧ Aside0 (kq ≤ k) ∧ Aside0 (wc.heap[g7]? = some (.cells #[(.slice A0_0 l0_0.length c0_0), .int .i64 a0_1, .int .i64 a0_2, .int .i64 a0_3, .int .i64 a0_4] 26 (0, 0))) ∧ Aside0 (wc.heap[g8]? = some (.cells #[.int .i64 a2] 3 (0, 0))) ∧ Aside0 (Below w.heap.size w wc))
 case first =>
  have H := HC4.out
  clear HC4
  obtain ⟨t9, A7, H⟩ := bn H
  (try dsimp only at H)
  by_cases c8 : t9 = true
  rotate_left
  ·replace c8 := Bool.eq_false_iff.mpr c8
   subst c8
   rw [if_neg (show ¬ (false = true) by decide)] at H
   have H' := Aside0.mk H
   clear H
   have hnb19 := nP N7_8
   have hz20 := Sq.c5 B7.out
   go_wp2_with (first | (refine cE (some 10) Tryz.func16 #[.agg #[.slice A0_0 l0_0.length c0_0, .int .i64 a0_1, .int .i64 a0_2, .int .i64 a0_3, .int .i64 a0_4]] ?_; (with_reducible refine (Fk.calls k _ _ l0_0 a0_1 a0_2 a0_3 a0_4 false _ ?side1 ?side2 A7.out).mono ?_); (case side1 => exact Cs (Kd.C_below HR0_0.out HB.out)); (case side2 => exact HC0_0.out); rintro e w21 ⟨rfl, hb⟩; refine ⟨_, rfl, ?_⟩; replace B7 := kT B7 hb; replace B8 := kT B8 hb; replace HB := bT HB hb; clear hb))
   go_meet
   case rel => exact ⟨_, (true), Ey, H', ⟨by first | omega | exact Nat.le_refl _⟩, ⟨ks B7⟩, ⟨ks B8⟩, ⟨es HB⟩⟩
  subst c8
  rw [if_pos rfl] at H
  obtain ⟨t10, A9, H⟩ := bn H
  (try dsimp only at H)
  by_cases c10 : t10 = true
  rotate_left
  ·replace c10 := Bool.eq_false_iff.mpr c10
   subst c10
   rw [if_neg (show ¬ (false = true) by decide)] at H
   have H' := Aside0.mk H
   clear H
   have hnb16 := nP N7_8
   have hz17 := Sq.c5 B7.out
   go_wp2_with (first | (refine cE (some 10) Tryz.func16 #[.agg #[.slice A0_0 l0_0.length c0_0, .int .i64 a0_1, .int .i64 a0_2, .int .i64 a0_3, .int .i64 a0_4]] ?_; (with_reducible refine (Fk.calls k _ _ l0_0 a0_1 a0_2 a0_3 a0_4 true _ ?side1 ?side2 A7.out).mono ?_); (case side1 => exact Cs (Kd.C_below HR0_0.out HB.out)); (case side2 => exact HC0_0.out); rintro e w18 ⟨rfl, hb⟩; refine ⟨_, rfl, ?_⟩; replace B7 := kT B7 hb; replace B8 := kT B8 hb; replace HB := bT HB hb; clear hb) | (go_at_call 18; (with_reducible refine (Faw.calls a1 false _ A9.out).mono ?_); rintro e w' ⟨rfl, ⟨nd, rfl⟩⟩))
   go_meet
   case rel => exact ⟨_, (true), Ey, H', ⟨by first | omega | exact Nat.le_refl _⟩, ⟨ks B7⟩, ⟨ks B8⟩, ⟨es HB⟩⟩
  subst c10
  rw [if_pos rfl] at H
  obtain ⟨t11, A11, H⟩ := bn H
  (try dsimp only at H)
  have H' := Aside0.mk H
  clear H
  have hnb12 := nP N7_8
  have hz13 := Sq.c5 B7.out
  go_wp2_with (first | (refine cE (some 10) Tryz.func16 #[.agg #[.slice A0_0 l0_0.length c0_0, .int .i64 a0_1, .int .i64 a0_2, .int .i64 a0_3, .int .i64 a0_4]] ?_; (with_reducible refine (Fk.calls k _ _ l0_0 a0_1 a0_2 a0_3 a0_4 true _ ?side1 ?side2 A7.out).mono ?_); (case side1 => exact Cs (Kd.C_below HR0_0.out HB.out)); (case side2 => exact HC0_0.out); rintro e w14 ⟨rfl, hb⟩; refine ⟨_, rfl, ?_⟩; replace B7 := kT B7 hb; replace B8 := kT B8 hb; replace HB := bT HB hb; clear hb) | (go_at_call 18; (with_reducible refine (Faw.calls a1 true _ A9.out).mono ?_); rintro e w' ⟨rfl, ⟨nd, rfl⟩⟩; have hcz15_0 : w14.cell? ⟨g8, 0, none⟩ = some (.int .i64 a2) := (blk_cell B8.out 0).trans rfl; have hfz15_0 := blk_frozen B8.out 0) | (go_at_call 19; (with_reducible refine (Fbb.calls a2 t11 _ A11.out).mono ?_); rintro e w' ⟨rfl, ⟨nd, rfl⟩⟩))
  go_meet
  case rel => exact ⟨_, (!t11), Ey, H', ⟨by first | omega | exact Nat.le_refl _⟩, ⟨ks B7⟩, ⟨ks B8⟩, ⟨es HB⟩⟩
 case rest =>
  clear HC4
  try clear c1
  try clear p2
  try clear c8
  try clear c10
  try clear c12
  try clear c16
  try clear c19
  (try clear hz13)
  (try clear hz15)
  (try clear hz17)
  (try clear hz20)
  obtain ⟨kq, x21_3, rfl, HA, HJ3, B7, B8, HB⟩ := hcut
  cases kq with
  | zero => exact absurd HA.out (by simp [Fy.j0])
  | succ kj3 =>
   have H := HA.out
   clear HA
   simp only [Fy.j0] at H
   by_cases c22 : x21_3 = true
   ·subst c22
    rw [if_pos rfl] at H
    simp only [Option.some.injEq, Prod.mk.injEq] at H
    obtain ⟨rfl, rfl⟩ := H
    go_wp2
    go_ret2
    exact ⟨Ez, by exact eS HB.out⟩
   replace c22 := Bool.eq_false_iff.mpr c22
   subst c22
   rw [if_neg (show ¬ (false = true) by decide)] at H
   obtain ⟨t12, A23, H⟩ := bn H
   (try dsimp only at H)
   obtain ⟨t15, A24, H⟩ := bn H
   (try dsimp only at H)
   by_cases c25 : (t15.length : Int) = 0
   ·rw [if_pos c25] at H
    have c25b0 := beq_iff_eq.mpr c25
    have c25b1 := bne_eq_false_iff_eq.mpr c25
    clear c25
    simp only [Option.some.injEq, Prod.mk.injEq] at H
    obtain ⟨rfl, rfl⟩ := H
    have hnb26 := nP N7_8
    have hz27 := Sq.c5 B7.out
    go_wp2_with (first | (refine cE (some 24) Tryz.func20 #[.agg #[.slice A0_0 l0_0.length c0_0, .int .i64 a0_1, .int .i64 a0_2, .int .i64 a0_3, .int .i64 a0_4], .int .i64 a1] ?_; (with_reducible refine (Fz.calls kj3 _ _ l0_0 a0_1 a0_2 a0_3 a0_4 a1 t12 _ ?side1 ?side2 A23.out).mono ?_); (case side1 => exact Cs (Kd.C_below HR0_0.out HB.out)); (case side2 => exact HC0_0.out); rintro e w28 ⟨v13, rfl, ho0, hb⟩; refine ⟨_, rfl, ?_⟩; have R14 := lw HB ho0; replace B7 := kT B7 hb; replace B8 := kT B8 hb; replace HB := bT HB hb; clear hb; (try clear ho0); obtain ⟨Ao29, co29, eo29⟩ := Kd.R_slice R14.out; subst eo29) | (refine cE (some 26) Tryz.func28 #[.slice Ao29 t12.length co29, .func (.func 29) #[] #[.pointer (some ⟨g8, 0, none⟩)]] ?_; (refine (Fe.calls kj3 (fun k_ => some k_ = (.slice Ao29 t12.length co29 : Value).ownBlock) (.slice Ao29 t12.length co29) t12 g8 a2 t15 w _ ?side1 ?side2 ?side3 A24.out).mono ?_); (case side1 => exact eS HB.out); (case side2 => exact Kd.R_tight rfl R14.out); (case side3 => exact bS B8.out); rintro e w30 ⟨v16, rfl, ho0, hb, hkp⟩; refine ⟨_, rfl, ?_⟩; have R17 := Ak (Kd.R_mono (ok' := fun k_ => True) ho0 (fun k_ hk_ => trivial)); replace B7 := Ak (blk_kept (by exact bS B7.out) hkp (fun hs_ => (fun e_ => (Kd.R_ne R14.out B7.out (by decide)) e_) hs_)); replace B8 := Ak (blk_kept (by exact bS B8.out) hkp (fun hs_ => (fun e_ => (Kd.R_ne R14.out B8.out (by decide)) e_) hs_)); replace HB := Ak hb; clear R14; clear hb; (try clear hkp); (try clear ho0); obtain ⟨Ao31, co31, eo31⟩ := Kd.R_slice R17.out; subst eo31))
    go_ret2
    exact ⟨Ez, by exact eS HB.out⟩
   rw [if_neg c25] at H
   have c25b0 := beq_eq_false_iff_ne.mpr c25
   have c25b1 := bne_iff_ne.mpr c25
   have c25b2 : ¬ (t15 = []) := fun h_ => c25 (by rw [h_]; rfl)
   obtain ⟨⟨t18, t19, t20⟩, A32, H⟩ := bn H
   (try dsimp only at H)
   simp only [Option.some.injEq, Prod.mk.injEq] at H
   obtain ⟨rfl, rfl⟩ := H
   have hnb33 := nP N7_8
   have hz34 := Sq.c5 B7.out
   go_wp2_with (first | (refine cE (some 24) Tryz.func20 #[.agg #[.slice A0_0 l0_0.length c0_0, .int .i64 a0_1, .int .i64 a0_2, .int .i64 a0_3, .int .i64 a0_4], .int .i64 a1] ?_; (with_reducible refine (Fz.calls kj3 _ _ l0_0 a0_1 a0_2 a0_3 a0_4 a1 t12 _ ?side1 ?side2 A23.out).mono ?_); (case side1 => exact Cs (Kd.C_below HR0_0.out HB.out)); (case side2 => exact HC0_0.out); rintro e w35 ⟨v13, rfl, ho0, hb⟩; refine ⟨_, rfl, ?_⟩; have R14 := lw HB ho0; replace B7 := kT B7 hb; replace B8 := kT B8 hb; replace HB := bT HB hb; clear hb; (try clear ho0); obtain ⟨Ao36, co36, eo36⟩ := Kd.R_slice R14.out; subst eo36) | (refine cE (some 26) Tryz.func28 #[.slice Ao36 t12.length co36, .func (.func 29) #[] #[.pointer (some ⟨g8, 0, none⟩)]] ?_; (refine (Fe.calls kj3 (fun k_ => some k_ = (.slice Ao36 t12.length co36 : Value).ownBlock) (.slice Ao36 t12.length co36) t12 g8 a2 t15 w _ ?side1 ?side2 ?side3 A24.out).mono ?_); (case side1 => exact eS HB.out); (case side2 => exact Kd.R_tight rfl R14.out); (case side3 => exact bS B8.out); rintro e w37 ⟨v16, rfl, ho0, hb, hkp⟩; refine ⟨_, rfl, ?_⟩; have R17 := Ak (Kd.R_mono (ok' := fun k_ => True) ho0 (fun k_ hk_ => trivial)); replace B7 := Ak (blk_kept (by exact bS B7.out) hkp (fun hs_ => (fun e_ => (Kd.R_ne R14.out B7.out (by decide)) e_) hs_)); replace B8 := Ak (blk_kept (by exact bS B8.out) hkp (fun hs_ => (fun e_ => (Kd.R_ne R14.out B8.out (by decide)) e_) hs_)); replace HB := Ak hb; clear R14; clear hb; (try clear hkp); (try clear ho0); obtain ⟨Ao38, co38, eo38⟩ := Kd.R_slice R17.out; subst eo38) | (refine cE (some 31) Tryz.func30 #[.slice Ao38 t15.length co38, .func (.func 31) #[] #[]] ?_; (refine (Fc.calls kj3 _ _ t15  t18 t19 t20 _ ?side1 ?side2 A32.out).mono ?_); (case side1 => exact Cs (Kd.R_reads' R17.out).2.2); (case side2 => exact (Kd.R_reads' R17.out).2.1); rintro e w39 ⟨rfl, hb⟩; refine ⟨_, rfl, ?_⟩; replace R17 := rT R17 hb; replace B7 := kT B7 hb; replace B8 := kT B8 hb; replace HB := bT HB hb; clear hb))
   go_ret2
   exact ⟨Ez, by exact eS HB.out⟩
end
/-! ### Faq: function 76 -/
def Faq.j0 : Nat → Int → Int → Option (Int)
  | 0, _, _ => none
  | k + 1, x0, x2 => if x0 ≥ 65536 then (if (x0 / 65536) ≥ 256 then (if 0 ≤ (((x0 / 65536) / 256) % 256) then (if (((x0 / 65536) / 256) % 256) < 256 then (some (wrap64 ((wrap64 ((wrap64 (x2 + 16)) + 8)) + (wrap64 (bt (⟨#[0, 1, 2, 2, 3, 3, 3, 3, 4, 4, 4, 4, 4, 4, 4, 4, 5, 5, 5, 5, 5, 5, 5, 5, 5, 5, 5, 5, 5, 5, 5, 5, 6, 6, 6, 6, 6, 6, 6, 6, 6, 6, 6, 6, 6, 6, 6, 6, 6, 6, 6, 6, 6, 6, 6, 6, 6, 6, 6, 6, 6, 6, 6, 6, 7, 7, 7, 7, 7, 7, 7, 7, 7, 7, 7, 7, 7, 7, 7, 7, 7, 7, 7, 7, 7, 7, 7, 7, 7, 7, 7, 7, 7, 7, 7, 7, 7, 7, 7, 7, 7, 7, 7, 7, 7, 7, 7, 7, 7, 7, 7, 7, 7, 7, 7, 7, 7, 7, 7, 7, 7, 7, 7, 7, 7, 7, 7, 7, 8, 8, 8, 8, 8, 8, 8, 8, 8, 8, 8, 8, 8, 8, 8, 8, 8, 8, 8, 8, 8, 8, 8, 8, 8, 8, 8, 8, 8, 8, 8, 8, 8, 8, 8, 8, 8, 8, 8, 8, 8, 8, 8, 8, 8, 8, 8, 8, 8, 8, 8, 8, 8, 8, 8, 8, 8, 8, 8, 8, 8, 8, 8, 8, 8, 8, 8, 8, 8, 8, 8, 8, 8, 8, 8, 8, 8, 8, 8, 8, 8, 8, 8, 8, 8, 8, 8, 8, 8, 8, 8, 8, 8, 8, 8, 8, 8, 8, 8, 8, 8, 8, 8, 8, 8, 8, 8, 8, 8, 8, 8, 8, 8, 8, 8, 8, 8, 8, 8, 8, 8, 8, 8, 8, 8, 8, 8, 8]⟩ : ByteArray) (((x0 / 65536) / 256) % 256)))))) else (none)) else (none)) else (if 0 ≤ ((x0 / 65536) % 256) then (if ((x0 / 65536) % 256) < 256 then (some (wrap64 ((wrap64 (x2 + 16)) + (wrap64 (bt (⟨#[0, 1, 2, 2, 3, 3, 3, 3, 4, 4, 4, 4, 4, 4, 4, 4, 5, 5, 5, 5, 5, 5, 5, 5, 5, 5, 5, 5, 5, 5, 5, 5, 6, 6, 6, 6, 6, 6, 6, 6, 6, 6, 6, 6, 6, 6, 6, 6, 6, 6, 6, 6, 6, 6, 6, 6, 6, 6, 6, 6, 6, 6, 6, 6, 7, 7, 7, 7, 7, 7, 7, 7, 7, 7, 7, 7, 7, 7, 7, 7, 7, 7, 7, 7, 7, 7, 7, 7, 7, 7, 7, 7, 7, 7, 7, 7, 7, 7, 7, 7, 7, 7, 7, 7, 7, 7, 7, 7, 7, 7, 7, 7, 7, 7, 7, 7, 7, 7, 7, 7, 7, 7, 7, 7, 7, 7, 7, 7, 8, 8, 8, 8, 8, 8, 8, 8, 8, 8, 8, 8, 8, 8, 8, 8, 8, 8, 8, 8, 8, 8, 8, 8, 8, 8, 8, 8, 8, 8, 8, 8, 8, 8, 8, 8, 8, 8, 8, 8, 8, 8, 8, 8, 8, 8, 8, 8, 8, 8, 8, 8, 8, 8, 8, 8, 8, 8, 8, 8, 8, 8, 8, 8, 8, 8, 8, 8, 8, 8, 8, 8, 8, 8, 8, 8, 8, 8, 8, 8, 8, 8, 8, 8, 8, 8, 8, 8, 8, 8, 8, 8, 8, 8, 8, 8, 8, 8, 8, 8, 8, 8, 8, 8, 8, 8, 8, 8, 8, 8, 8, 8, 8, 8, 8, 8, 8, 8, 8, 8, 8, 8, 8, 8, 8, 8, 8, 8]⟩ : ByteArray) ((x0 / 65536) % 256)))))) else (none)) else (none))) else (if x0 ≥ 256 then (if 0 ≤ ((x0 / 256) % 256) then (if ((x0 / 256) % 256) < 256 then (some (wrap64 ((wrap64 (x2 + 8)) + (wrap64 (bt (⟨#[0, 1, 2, 2, 3, 3, 3, 3, 4, 4, 4, 4, 4, 4, 4, 4, 5, 5, 5, 5, 5, 5, 5, 5, 5, 5, 5, 5, 5, 5, 5, 5, 6, 6, 6, 6, 6, 6, 6, 6, 6, 6, 6, 6, 6, 6, 6, 6, 6, 6, 6, 6, 6, 6, 6, 6, 6, 6, 6, 6, 6, 6, 6, 6, 7, 7, 7, 7, 7, 7, 7, 7, 7, 7, 7, 7, 7, 7, 7, 7, 7, 7, 7, 7, 7, 7, 7, 7, 7, 7, 7, 7, 7, 7, 7, 7, 7, 7, 7, 7, 7, 7, 7, 7, 7, 7, 7, 7, 7, 7, 7, 7, 7, 7, 7, 7, 7, 7, 7, 7, 7, 7, 7, 7, 7, 7, 7, 7, 8, 8, 8, 8, 8, 8, 8, 8, 8, 8, 8, 8, 8, 8, 8, 8, 8, 8, 8, 8, 8, 8, 8, 8, 8, 8, 8, 8, 8, 8, 8, 8, 8, 8, 8, 8, 8, 8, 8, 8, 8, 8, 8, 8, 8, 8, 8, 8, 8, 8, 8, 8, 8, 8, 8, 8, 8, 8, 8, 8, 8, 8, 8, 8, 8, 8, 8, 8, 8, 8, 8, 8, 8, 8, 8, 8, 8, 8, 8, 8, 8, 8, 8, 8, 8, 8, 8, 8, 8, 8, 8, 8, 8, 8, 8, 8, 8, 8, 8, 8, 8, 8, 8, 8, 8, 8, 8, 8, 8, 8, 8, 8, 8, 8, 8, 8, 8, 8, 8, 8, 8, 8, 8, 8, 8, 8, 8, 8]⟩ : ByteArray) ((x0 / 256) % 256)))))) else (none)) else (none)) else (if 0 ≤ ((x0) % 256) then (if ((x0) % 256) < 256 then (some (wrap64 (x2 + (wrap64 (bt (⟨#[0, 1, 2, 2, 3, 3, 3, 3, 4, 4, 4, 4, 4, 4, 4, 4, 5, 5, 5, 5, 5, 5, 5, 5, 5, 5, 5, 5, 5, 5, 5, 5, 6, 6, 6, 6, 6, 6, 6, 6, 6, 6, 6, 6, 6, 6, 6, 6, 6, 6, 6, 6, 6, 6, 6, 6, 6, 6, 6, 6, 6, 6, 6, 6, 7, 7, 7, 7, 7, 7, 7, 7, 7, 7, 7, 7, 7, 7, 7, 7, 7, 7, 7, 7, 7, 7, 7, 7, 7, 7, 7, 7, 7, 7, 7, 7, 7, 7, 7, 7, 7, 7, 7, 7, 7, 7, 7, 7, 7, 7, 7, 7, 7, 7, 7, 7, 7, 7, 7, 7, 7, 7, 7, 7, 7, 7, 7, 7, 8, 8, 8, 8, 8, 8, 8, 8, 8, 8, 8, 8, 8, 8, 8, 8, 8, 8, 8, 8, 8, 8, 8, 8, 8, 8, 8, 8, 8, 8, 8, 8, 8, 8, 8, 8, 8, 8, 8, 8, 8, 8, 8, 8, 8, 8, 8, 8, 8, 8, 8, 8, 8, 8, 8, 8, 8, 8, 8, 8, 8, 8, 8, 8, 8, 8, 8, 8, 8, 8, 8, 8, 8, 8, 8, 8, 8, 8, 8, 8, 8, 8, 8, 8, 8, 8, 8, 8, 8, 8, 8, 8, 8, 8, 8, 8, 8, 8, 8, 8, 8, 8, 8, 8, 8, 8, 8, 8, 8, 8, 8, 8, 8, 8, 8, 8, 8, 8, 8, 8, 8, 8, 8, 8, 8, 8, 8, 8]⟩ : ByteArray) ((x0) % 256)))))) else (none)) else (none)))
def Faq.f (k : Nat) (a0 : Int) : Option (Int) := if a0 ≥ 4294967296 then (Faq.j0 k (a0 / 4294967296) 32) else (Faq.j0 k a0 0)
theorem Faq.mono_l : ∀ k, (∀ y0 y1, LeO (Faq.j0 k y0 y1) (Faq.j0 (k + 1) y0 y1))
  | 0 => fun _ _ r h => by simp [Faq.j0] at h
  | k + 1 => by
    have ih0 := Faq.mono_l k
    · intro y0 y1
      unfold Faq.j0
      repeat' (with_reducible first | exact ih0 _ _ | exact LeO.refl _ | exact LeO.none _ | refine LeO.ite ?_ ?_ | refine LeO.bind ?_ (fun _ => ?_))
theorem Faq.mono : ∀ a0 k, LeO (Faq.f k a0) (Faq.f (k + 1) a0) := by
  intro a0 k
  have ih0 := Faq.mono_l k
  unfold Faq.f
  repeat' (with_reducible first | exact ih0 _ _ | exact LeO.refl _ | exact LeO.none _ | refine LeO.ite ?_ ?_ | refine LeO.bind ?_ (fun _ => ?_))
theorem Faq.calls (k : Nat) (a0 : Int) (r : Int) (w : World) (h : Faq.f k a0 = some r) :
  Calls Tryz.prog 76 #[.int .u64 a0] w fun e w' => e = .returned (.int .i64 r) ∧ Drawn0 w w' := by
 have H := h
 clear h
 unfold Faq.f at H
 have HC2 := Aside0.mk H
 clear H
 go_enter Tryz.func76, Tryz.ntmps76
 go_upto_if 4 with (fail)
 go_cut [0, 2] (fun v0 v2 wc => ∃ (kq : Nat) (x0_1 : Int) (x2_1 : Int), v0 = .int .u64 x0_1 ∧ v2 = .int .i64 x2_1 ∧ Aside0 (Faq.j0 kq x0_1 x2_1 = some r) ∧ Aside0 (kq ≤ k) ∧ Drawn0 w wc)
 case first =>
  have H := HC2.out
  clear HC2
  by_cases c3 : a0 ≥ 4294967296
  rotate_left
  ·rw [if_neg c3] at H
   have c3b0 := decide_eq_false c3
   clear c3
   (first | rw [c3b0] | (simp only [i64_w, i32_w]; rw [c3b0]) | skip)
   have H' := Aside0.mk H
   clear H
   go_wp2
   go_meet
   case rel => exact ⟨_, (a0), (0), Ey, Ey, H', ⟨by first | omega | exact Nat.le_refl _⟩, by repeat (first | exact Drawn0.refl _ | apply Drawn0.step)⟩
  rw [if_pos c3] at H
  have c3b0 := decide_eq_true c3
  clear c3
  (first | rw [c3b0] | (simp only [i64_w, i32_w]; rw [c3b0]) | skip)
  have H' := Aside0.mk H
  clear H
  go_wp2
  go_meet
  case rel => exact ⟨_, (a0 / 4294967296), (32), Ey, Ey, H', ⟨by first | omega | exact Nat.le_refl _⟩, by repeat (first | exact Drawn0.refl _ | apply Drawn0.step)⟩
 case rest =>
  clear HC2
  try clear p2
  try clear c3
  try clear c3b0
  obtain ⟨kq, x0_1, x2_1, rfl, rfl, HA, HJ1, ⟨mc1, rfl⟩⟩ := hcut
  cases kq with
  | zero => exact absurd HA.out (by simp [Faq.j0])
  | succ kj1 =>
   have H := HA.out
   clear HA
   simp only [Faq.j0] at H
   by_cases c4 : x0_1 ≥ 65536
   rotate_left
   ·rw [if_neg c4] at H
    have c4b0 := decide_eq_false c4
    clear c4
    by_cases c14 : x0_1 ≥ 256
    rotate_left
    ·rw [if_neg c14] at H
     have c14b0 := decide_eq_false c14
     clear c14
     obtain ⟨ji19, hji19⟩ : ∃ j_ : Int, ((x0_1) % 256) = j_ := ⟨_, rfl⟩
     replace H : (if 0 ≤ (ji19) then (if (ji19) < 256 then (some (wrap64 (x2_1 + (wrap64 (bt (⟨#[0, 1, 2, 2, 3, 3, 3, 3, 4, 4, 4, 4, 4, 4, 4, 4, 5, 5, 5, 5, 5, 5, 5, 5, 5, 5, 5, 5, 5, 5, 5, 5, 6, 6, 6, 6, 6, 6, 6, 6, 6, 6, 6, 6, 6, 6, 6, 6, 6, 6, 6, 6, 6, 6, 6, 6, 6, 6, 6, 6, 6, 6, 6, 6, 7, 7, 7, 7, 7, 7, 7, 7, 7, 7, 7, 7, 7, 7, 7, 7, 7, 7, 7, 7, 7, 7, 7, 7, 7, 7, 7, 7, 7, 7, 7, 7, 7, 7, 7, 7, 7, 7, 7, 7, 7, 7, 7, 7, 7, 7, 7, 7, 7, 7, 7, 7, 7, 7, 7, 7, 7, 7, 7, 7, 7, 7, 7, 7, 8, 8, 8, 8, 8, 8, 8, 8, 8, 8, 8, 8, 8, 8, 8, 8, 8, 8, 8, 8, 8, 8, 8, 8, 8, 8, 8, 8, 8, 8, 8, 8, 8, 8, 8, 8, 8, 8, 8, 8, 8, 8, 8, 8, 8, 8, 8, 8, 8, 8, 8, 8, 8, 8, 8, 8, 8, 8, 8, 8, 8, 8, 8, 8, 8, 8, 8, 8, 8, 8, 8, 8, 8, 8, 8, 8, 8, 8, 8, 8, 8, 8, 8, 8, 8, 8, 8, 8, 8, 8, 8, 8, 8, 8, 8, 8, 8, 8, 8, 8, 8, 8, 8, 8, 8, 8, 8, 8, 8, 8, 8, 8, 8, 8, 8, 8, 8, 8, 8, 8, 8, 8, 8, 8, 8, 8, 8, 8]⟩ : ByteArray) (ji19)))))) else (none)) else (none)) = some r := by first | (rw [hji19] at H; exact H) | (simp only [hji19] at H ⊢; exact H)
     by_cases c20 : 0 ≤ (ji19)
     rotate_left
     ·rw [if_neg c20] at H
      exact absurd H (by simp)
     rw [if_pos c20] at H
     have c20b0 := decide_eq_true c20
     clear c20
     by_cases c21 : (ji19) < 256
     rotate_left
     ·rw [if_neg c21] at H
      exact absurd H (by simp)
     rw [if_pos c21] at H
     have c21b0 := decide_eq_true c21
     clear c21
     obtain rfl := Option.some.inj H
     have p22 : 0 ≤ ((ji19) : Int) := Dz
     have q22 : (ji19) < (256 : Int) := Dz
     have hx22 := bt_at (⟨#[0, 1, 2, 2, 3, 3, 3, 3, 4, 4, 4, 4, 4, 4, 4, 4, 5, 5, 5, 5, 5, 5, 5, 5, 5, 5, 5, 5, 5, 5, 5, 5, 6, 6, 6, 6, 6, 6, 6, 6, 6, 6, 6, 6, 6, 6, 6, 6, 6, 6, 6, 6, 6, 6, 6, 6, 6, 6, 6, 6, 6, 6, 6, 6, 7, 7, 7, 7, 7, 7, 7, 7, 7, 7, 7, 7, 7, 7, 7, 7, 7, 7, 7, 7, 7, 7, 7, 7, 7, 7, 7, 7, 7, 7, 7, 7, 7, 7, 7, 7, 7, 7, 7, 7, 7, 7, 7, 7, 7, 7, 7, 7, 7, 7, 7, 7, 7, 7, 7, 7, 7, 7, 7, 7, 7, 7, 7, 7, 8, 8, 8, 8, 8, 8, 8, 8, 8, 8, 8, 8, 8, 8, 8, 8, 8, 8, 8, 8, 8, 8, 8, 8, 8, 8, 8, 8, 8, 8, 8, 8, 8, 8, 8, 8, 8, 8, 8, 8, 8, 8, 8, 8, 8, 8, 8, 8, 8, 8, 8, 8, 8, 8, 8, 8, 8, 8, 8, 8, 8, 8, 8, 8, 8, 8, 8, 8, 8, 8, 8, 8, 8, 8, 8, 8, 8, 8, 8, 8, 8, 8, 8, 8, 8, 8, 8, 8, 8, 8, 8, 8, 8, 8, 8, 8, 8, 8, 8, 8, 8, 8, 8, 8, 8, 8, 8, 8, 8, 8, 8, 8, 8, 8, 8, 8, 8, 8, 8, 8, 8, 8, 8, 8, 8, 8, 8, 8]⟩ : ByteArray) (ji19)
     replace p22 := eq_true p22
     replace q22 := eq_true q22
     go_wp2
     go_ret
     exact ⟨by first | rfl | (simp; done) | (simp only [← hji19] <;> (first | rfl | simp)) | (simp [*]; done), by repeat (first | exact Drawn0.refl _ | apply Drawn0.step)⟩
    rw [if_pos c14] at H
    have c14b0 := decide_eq_true c14
    clear c14
    obtain ⟨ji15, hji15⟩ : ∃ j_ : Int, ((x0_1 / 256) % 256) = j_ := ⟨_, rfl⟩
    replace H : (if 0 ≤ (ji15) then (if (ji15) < 256 then (some (wrap64 ((wrap64 (x2_1 + 8)) + (wrap64 (bt (⟨#[0, 1, 2, 2, 3, 3, 3, 3, 4, 4, 4, 4, 4, 4, 4, 4, 5, 5, 5, 5, 5, 5, 5, 5, 5, 5, 5, 5, 5, 5, 5, 5, 6, 6, 6, 6, 6, 6, 6, 6, 6, 6, 6, 6, 6, 6, 6, 6, 6, 6, 6, 6, 6, 6, 6, 6, 6, 6, 6, 6, 6, 6, 6, 6, 7, 7, 7, 7, 7, 7, 7, 7, 7, 7, 7, 7, 7, 7, 7, 7, 7, 7, 7, 7, 7, 7, 7, 7, 7, 7, 7, 7, 7, 7, 7, 7, 7, 7, 7, 7, 7, 7, 7, 7, 7, 7, 7, 7, 7, 7, 7, 7, 7, 7, 7, 7, 7, 7, 7, 7, 7, 7, 7, 7, 7, 7, 7, 7, 8, 8, 8, 8, 8, 8, 8, 8, 8, 8, 8, 8, 8, 8, 8, 8, 8, 8, 8, 8, 8, 8, 8, 8, 8, 8, 8, 8, 8, 8, 8, 8, 8, 8, 8, 8, 8, 8, 8, 8, 8, 8, 8, 8, 8, 8, 8, 8, 8, 8, 8, 8, 8, 8, 8, 8, 8, 8, 8, 8, 8, 8, 8, 8, 8, 8, 8, 8, 8, 8, 8, 8, 8, 8, 8, 8, 8, 8, 8, 8, 8, 8, 8, 8, 8, 8, 8, 8, 8, 8, 8, 8, 8, 8, 8, 8, 8, 8, 8, 8, 8, 8, 8, 8, 8, 8, 8, 8, 8, 8, 8, 8, 8, 8, 8, 8, 8, 8, 8, 8, 8, 8, 8, 8, 8, 8, 8, 8]⟩ : ByteArray) (ji15)))))) else (none)) else (none)) = some r := by first | (rw [hji15] at H; exact H) | (simp only [hji15] at H ⊢; exact H)
    by_cases c16 : 0 ≤ (ji15)
    rotate_left
    ·rw [if_neg c16] at H
     exact absurd H (by simp)
    rw [if_pos c16] at H
    have c16b0 := decide_eq_true c16
    clear c16
    by_cases c17 : (ji15) < 256
    rotate_left
    ·rw [if_neg c17] at H
     exact absurd H (by simp)
    rw [if_pos c17] at H
    have c17b0 := decide_eq_true c17
    clear c17
    obtain rfl := Option.some.inj H
    have p18 : 0 ≤ ((ji15) : Int) := Dz
    have q18 : (ji15) < (256 : Int) := Dz
    have hx18 := bt_at (⟨#[0, 1, 2, 2, 3, 3, 3, 3, 4, 4, 4, 4, 4, 4, 4, 4, 5, 5, 5, 5, 5, 5, 5, 5, 5, 5, 5, 5, 5, 5, 5, 5, 6, 6, 6, 6, 6, 6, 6, 6, 6, 6, 6, 6, 6, 6, 6, 6, 6, 6, 6, 6, 6, 6, 6, 6, 6, 6, 6, 6, 6, 6, 6, 6, 7, 7, 7, 7, 7, 7, 7, 7, 7, 7, 7, 7, 7, 7, 7, 7, 7, 7, 7, 7, 7, 7, 7, 7, 7, 7, 7, 7, 7, 7, 7, 7, 7, 7, 7, 7, 7, 7, 7, 7, 7, 7, 7, 7, 7, 7, 7, 7, 7, 7, 7, 7, 7, 7, 7, 7, 7, 7, 7, 7, 7, 7, 7, 7, 8, 8, 8, 8, 8, 8, 8, 8, 8, 8, 8, 8, 8, 8, 8, 8, 8, 8, 8, 8, 8, 8, 8, 8, 8, 8, 8, 8, 8, 8, 8, 8, 8, 8, 8, 8, 8, 8, 8, 8, 8, 8, 8, 8, 8, 8, 8, 8, 8, 8, 8, 8, 8, 8, 8, 8, 8, 8, 8, 8, 8, 8, 8, 8, 8, 8, 8, 8, 8, 8, 8, 8, 8, 8, 8, 8, 8, 8, 8, 8, 8, 8, 8, 8, 8, 8, 8, 8, 8, 8, 8, 8, 8, 8, 8, 8, 8, 8, 8, 8, 8, 8, 8, 8, 8, 8, 8, 8, 8, 8, 8, 8, 8, 8, 8, 8, 8, 8, 8, 8, 8, 8, 8, 8, 8, 8, 8, 8]⟩ : ByteArray) (ji15)
    replace p18 := eq_true p18
    replace q18 := eq_true q18
    go_wp2
    go_ret
    exact ⟨by first | rfl | (simp; done) | (simp only [← hji15] <;> (first | rfl | simp)) | (simp [*]; done), by repeat (first | exact Drawn0.refl _ | apply Drawn0.step)⟩
   rw [if_pos c4] at H
   have c4b0 := decide_eq_true c4
   clear c4
   by_cases c5 : (x0_1 / 65536) ≥ 256
   ·rw [if_pos c5] at H
    have c5b0 := decide_eq_true c5
    clear c5
    obtain ⟨ji6, hji6⟩ : ∃ j_ : Int, (((x0_1 / 65536) / 256) % 256) = j_ := ⟨_, rfl⟩
    replace H : (if 0 ≤ (ji6) then (if (ji6) < 256 then (some (wrap64 ((wrap64 ((wrap64 (x2_1 + 16)) + 8)) + (wrap64 (bt (⟨#[0, 1, 2, 2, 3, 3, 3, 3, 4, 4, 4, 4, 4, 4, 4, 4, 5, 5, 5, 5, 5, 5, 5, 5, 5, 5, 5, 5, 5, 5, 5, 5, 6, 6, 6, 6, 6, 6, 6, 6, 6, 6, 6, 6, 6, 6, 6, 6, 6, 6, 6, 6, 6, 6, 6, 6, 6, 6, 6, 6, 6, 6, 6, 6, 7, 7, 7, 7, 7, 7, 7, 7, 7, 7, 7, 7, 7, 7, 7, 7, 7, 7, 7, 7, 7, 7, 7, 7, 7, 7, 7, 7, 7, 7, 7, 7, 7, 7, 7, 7, 7, 7, 7, 7, 7, 7, 7, 7, 7, 7, 7, 7, 7, 7, 7, 7, 7, 7, 7, 7, 7, 7, 7, 7, 7, 7, 7, 7, 8, 8, 8, 8, 8, 8, 8, 8, 8, 8, 8, 8, 8, 8, 8, 8, 8, 8, 8, 8, 8, 8, 8, 8, 8, 8, 8, 8, 8, 8, 8, 8, 8, 8, 8, 8, 8, 8, 8, 8, 8, 8, 8, 8, 8, 8, 8, 8, 8, 8, 8, 8, 8, 8, 8, 8, 8, 8, 8, 8, 8, 8, 8, 8, 8, 8, 8, 8, 8, 8, 8, 8, 8, 8, 8, 8, 8, 8, 8, 8, 8, 8, 8, 8, 8, 8, 8, 8, 8, 8, 8, 8, 8, 8, 8, 8, 8, 8, 8, 8, 8, 8, 8, 8, 8, 8, 8, 8, 8, 8, 8, 8, 8, 8, 8, 8, 8, 8, 8, 8, 8, 8, 8, 8, 8, 8, 8, 8]⟩ : ByteArray) (ji6)))))) else (none)) else (none)) = some r := by first | (rw [hji6] at H; exact H) | (simp only [hji6] at H ⊢; exact H)
    by_cases c7 : 0 ≤ (ji6)
    rotate_left
    ·rw [if_neg c7] at H
     exact absurd H (by simp)
    rw [if_pos c7] at H
    have c7b0 := decide_eq_true c7
    clear c7
    by_cases c8 : (ji6) < 256
    rotate_left
    ·rw [if_neg c8] at H
     exact absurd H (by simp)
    rw [if_pos c8] at H
    have c8b0 := decide_eq_true c8
    clear c8
    obtain rfl := Option.some.inj H
    have p9 : 0 ≤ ((ji6) : Int) := Dz
    have q9 : (ji6) < (256 : Int) := Dz
    have hx9 := bt_at (⟨#[0, 1, 2, 2, 3, 3, 3, 3, 4, 4, 4, 4, 4, 4, 4, 4, 5, 5, 5, 5, 5, 5, 5, 5, 5, 5, 5, 5, 5, 5, 5, 5, 6, 6, 6, 6, 6, 6, 6, 6, 6, 6, 6, 6, 6, 6, 6, 6, 6, 6, 6, 6, 6, 6, 6, 6, 6, 6, 6, 6, 6, 6, 6, 6, 7, 7, 7, 7, 7, 7, 7, 7, 7, 7, 7, 7, 7, 7, 7, 7, 7, 7, 7, 7, 7, 7, 7, 7, 7, 7, 7, 7, 7, 7, 7, 7, 7, 7, 7, 7, 7, 7, 7, 7, 7, 7, 7, 7, 7, 7, 7, 7, 7, 7, 7, 7, 7, 7, 7, 7, 7, 7, 7, 7, 7, 7, 7, 7, 8, 8, 8, 8, 8, 8, 8, 8, 8, 8, 8, 8, 8, 8, 8, 8, 8, 8, 8, 8, 8, 8, 8, 8, 8, 8, 8, 8, 8, 8, 8, 8, 8, 8, 8, 8, 8, 8, 8, 8, 8, 8, 8, 8, 8, 8, 8, 8, 8, 8, 8, 8, 8, 8, 8, 8, 8, 8, 8, 8, 8, 8, 8, 8, 8, 8, 8, 8, 8, 8, 8, 8, 8, 8, 8, 8, 8, 8, 8, 8, 8, 8, 8, 8, 8, 8, 8, 8, 8, 8, 8, 8, 8, 8, 8, 8, 8, 8, 8, 8, 8, 8, 8, 8, 8, 8, 8, 8, 8, 8, 8, 8, 8, 8, 8, 8, 8, 8, 8, 8, 8, 8, 8, 8, 8, 8, 8, 8]⟩ : ByteArray) (ji6)
    replace p9 := eq_true p9
    replace q9 := eq_true q9
    go_wp2
    go_ret
    exact ⟨by first | rfl | (simp; done) | (simp only [← hji6] <;> (first | rfl | simp)) | (simp [*]; done), by repeat (first | exact Drawn0.refl _ | apply Drawn0.step)⟩
   rw [if_neg c5] at H
   have c5b0 := decide_eq_false c5
   clear c5
   obtain ⟨ji10, hji10⟩ : ∃ j_ : Int, ((x0_1 / 65536) % 256) = j_ := ⟨_, rfl⟩
   replace H : (if 0 ≤ (ji10) then (if (ji10) < 256 then (some (wrap64 ((wrap64 (x2_1 + 16)) + (wrap64 (bt (⟨#[0, 1, 2, 2, 3, 3, 3, 3, 4, 4, 4, 4, 4, 4, 4, 4, 5, 5, 5, 5, 5, 5, 5, 5, 5, 5, 5, 5, 5, 5, 5, 5, 6, 6, 6, 6, 6, 6, 6, 6, 6, 6, 6, 6, 6, 6, 6, 6, 6, 6, 6, 6, 6, 6, 6, 6, 6, 6, 6, 6, 6, 6, 6, 6, 7, 7, 7, 7, 7, 7, 7, 7, 7, 7, 7, 7, 7, 7, 7, 7, 7, 7, 7, 7, 7, 7, 7, 7, 7, 7, 7, 7, 7, 7, 7, 7, 7, 7, 7, 7, 7, 7, 7, 7, 7, 7, 7, 7, 7, 7, 7, 7, 7, 7, 7, 7, 7, 7, 7, 7, 7, 7, 7, 7, 7, 7, 7, 7, 8, 8, 8, 8, 8, 8, 8, 8, 8, 8, 8, 8, 8, 8, 8, 8, 8, 8, 8, 8, 8, 8, 8, 8, 8, 8, 8, 8, 8, 8, 8, 8, 8, 8, 8, 8, 8, 8, 8, 8, 8, 8, 8, 8, 8, 8, 8, 8, 8, 8, 8, 8, 8, 8, 8, 8, 8, 8, 8, 8, 8, 8, 8, 8, 8, 8, 8, 8, 8, 8, 8, 8, 8, 8, 8, 8, 8, 8, 8, 8, 8, 8, 8, 8, 8, 8, 8, 8, 8, 8, 8, 8, 8, 8, 8, 8, 8, 8, 8, 8, 8, 8, 8, 8, 8, 8, 8, 8, 8, 8, 8, 8, 8, 8, 8, 8, 8, 8, 8, 8, 8, 8, 8, 8, 8, 8, 8, 8]⟩ : ByteArray) (ji10)))))) else (none)) else (none)) = some r := by first | (rw [hji10] at H; exact H) | (simp only [hji10] at H ⊢; exact H)
   by_cases c11 : 0 ≤ (ji10)
   rotate_left
   ·rw [if_neg c11] at H
    exact absurd H (by simp)
   rw [if_pos c11] at H
   have c11b0 := decide_eq_true c11
   clear c11
   by_cases c12 : (ji10) < 256
   rotate_left
   ·rw [if_neg c12] at H
    exact absurd H (by simp)
   rw [if_pos c12] at H
   have c12b0 := decide_eq_true c12
   clear c12
   obtain rfl := Option.some.inj H
   have p13 : 0 ≤ ((ji10) : Int) := Dz
   have q13 : (ji10) < (256 : Int) := Dz
   have hx13 := bt_at (⟨#[0, 1, 2, 2, 3, 3, 3, 3, 4, 4, 4, 4, 4, 4, 4, 4, 5, 5, 5, 5, 5, 5, 5, 5, 5, 5, 5, 5, 5, 5, 5, 5, 6, 6, 6, 6, 6, 6, 6, 6, 6, 6, 6, 6, 6, 6, 6, 6, 6, 6, 6, 6, 6, 6, 6, 6, 6, 6, 6, 6, 6, 6, 6, 6, 7, 7, 7, 7, 7, 7, 7, 7, 7, 7, 7, 7, 7, 7, 7, 7, 7, 7, 7, 7, 7, 7, 7, 7, 7, 7, 7, 7, 7, 7, 7, 7, 7, 7, 7, 7, 7, 7, 7, 7, 7, 7, 7, 7, 7, 7, 7, 7, 7, 7, 7, 7, 7, 7, 7, 7, 7, 7, 7, 7, 7, 7, 7, 7, 8, 8, 8, 8, 8, 8, 8, 8, 8, 8, 8, 8, 8, 8, 8, 8, 8, 8, 8, 8, 8, 8, 8, 8, 8, 8, 8, 8, 8, 8, 8, 8, 8, 8, 8, 8, 8, 8, 8, 8, 8, 8, 8, 8, 8, 8, 8, 8, 8, 8, 8, 8, 8, 8, 8, 8, 8, 8, 8, 8, 8, 8, 8, 8, 8, 8, 8, 8, 8, 8, 8, 8, 8, 8, 8, 8, 8, 8, 8, 8, 8, 8, 8, 8, 8, 8, 8, 8, 8, 8, 8, 8, 8, 8, 8, 8, 8, 8, 8, 8, 8, 8, 8, 8, 8, 8, 8, 8, 8, 8, 8, 8, 8, 8, 8, 8, 8, 8, 8, 8, 8, 8, 8, 8, 8, 8, 8, 8]⟩ : ByteArray) (ji10)
   replace p13 := eq_true p13
   replace q13 := eq_true q13
   go_wp2
   go_ret
   exact ⟨by first | rfl | (simp; done) | (simp only [← hji10] <;> (first | rfl | simp)) | (simp [*]; done), by repeat (first | exact Drawn0.refl _ | apply Drawn0.step)⟩
/-! ### Fbp: function 53 -/
def Fbp.f (k : Nat) (a0 : Int) : Option (Int) := (Faq.f k a0).bind fun t101 => (some t101)
theorem Fbp.mono : ∀ a0 k, LeO (Fbp.f k a0) (Fbp.f (k + 1) a0) := by
  intro a0 k
  unfold Fbp.f
  repeat' (with_reducible first | apply Faq.mono | exact LeO.refl _ | exact LeO.none _ | refine LeO.ite ?_ ?_ | refine LeO.bind ?_ (fun _ => ?_))
theorem Fbp.calls (k : Nat) (a0 : Int) (r : Int) (w : World) (h : Fbp.f k a0 = some r) :
  Calls Tryz.prog 53 #[.int .u64 a0] w fun e w' => e = .returned (.int .i64 r) ∧ Drawn0 w w' := by
 have H := h
 clear h
 unfold Fbp.f at H
 obtain ⟨t1, A2, H⟩ := bn H
 (try dsimp only at H)
 obtain rfl := Option.some.inj H
 go_enter Tryz.func53, Tryz.ntmps53
 go_wp2_with (first | (refine cE (some 7) Tryz.func76 #[.int .u64 a0] ?_; (with_reducible refine (Faq.calls k a0 t1 _ A2.out).mono ?_); rintro e w' ⟨rfl, ⟨nd, rfl⟩⟩; refine ⟨_, rfl, ?_⟩))
 go_ret
 exact ⟨by first | rfl | (simp; done) | (simp [*]; done), by repeat (first | exact Drawn0.refl _ | apply Drawn0.step)⟩
section
attribute [local go_sem ↓] Ho.isSome_setCell_
/-! ### Fbl: function 22 -/
def Fbl.f (a0_0 : Int) (a0_1 : Int) (a0_2 : Int) (a1_0 : Int) (a1_1 : Int) (a1_2 : Int) : Option (Int) := (Fbf.f a1_2 a0_2).bind fun t103 => (some t103)
theorem Fbl.calls (a0_0 : Int) (a0_1 : Int) (a0_2 : Int) (a1_0 : Int) (a1_1 : Int) (a1_2 : Int) (r : Int) (w : World) (h : Fbl.f a0_0 a0_1 a0_2 a1_0 a1_1 a1_2 = some r) :
  Calls Tryz.prog 22 #[.agg #[.int .i64 a0_0, .int .i64 a0_1, .int .i64 a0_2], .agg #[.int .i64 a1_0, .int .i64 a1_1, .int .i64 a1_2]] w fun e w' => e = .returned (.int .i64 r) ∧ Below w.heap.size w w' := by
 have hu33 := Tryz.underlying33
 have HB := Aside0.mk (Below.refl w.heap.size w)
 have H := h
 clear h
 unfold Fbl.f at H
 obtain ⟨t3, A3, H⟩ := bn H
 (try dsimp only at H)
 obtain rfl := Option.some.inj H
 go_enter Tryz.func22, Tryz.ntmps22
 go_wp2_with (first | (refine bE 2 33 #[.int .i64 a0_0, .int .i64 a0_1, .int .i64 a0_2] ?_; intro g1 hg w4 B1 hb; have E1 := gW HB hg; replace HB := bT HB hb; clear hb hg) | (refine bE 3 33 #[.int .i64 a1_0, .int .i64 a1_1, .int .i64 a1_2] ?_; intro g2 hg w5 B2 hb; have E2 := gW HB hg; obtain ⟨N1_2, N2_1⟩ := nB B1 hg; replace B1 := kT B1 hb; replace HB := bT HB hb; clear hb hg; have hnb6 := nP N2_1; have hz7 := Sq.c3 B2.out; have hz8 := Sq.c3 B1.out) | (refine cE (some 9) Tryz.func23 #[.int .i64 a1_2, .int .i64 a0_2] ?_; (with_reducible refine (Fbf.calls a1_2 a0_2 t3 _ A3.out).mono ?_); rintro e w' ⟨rfl, ⟨nd, rfl⟩⟩; refine ⟨_, rfl, ?_⟩))
 go_ret
 exact ⟨Ez, by exact eS HB.out⟩
end
/-! ### Fa: function 100006 -/
mutual
def Fa.l0 : Nat → List (S33) → Int → Int → Int → Option ((List (S33)))
  | 0, _, _, _, _ => none
  | k + 1, x0, x1, x2, x8 => if x8 < x2 then (Fa.l1 k x0 x1 x2 x8 x8) else (some x0)
def Fa.l1 : Nat → List (S33) → Int → Int → Int → Int → Option ((List (S33)))
  | 0, _, _, _, _, _ => none
  | k + 1, x0, x1, x2, x8, x9 => if x9 > x1 then (if 0 ≤ x9 then (if x9 < (x0.length : Int) then (if 0 ≤ (wrap64 (x9 - 1)) then (if (wrap64 (x9 - 1)) < (x0.length : Int) then ((Fbl.f ((rd_T33 x0 x9).f0) ((rd_T33 x0 x9).f1) ((rd_T33 x0 x9).f2) ((rd_T33 x0 (wrap64 (x9 - 1))).f0) ((rd_T33 x0 (wrap64 (x9 - 1))).f1) ((rd_T33 x0 (wrap64 (x9 - 1))).f2)).bind fun t103 => (if t103 < 0 then (Fa.l1 k ((x0.set (x9 : Int).toNat (⟨(rd_T33 x0 (wrap64 (x9 - 1))).f0, (rd_T33 x0 (wrap64 (x9 - 1))).f1, (rd_T33 x0 (wrap64 (x9 - 1))).f2⟩ : S33)).set ((wrap64 (x9 - 1)) : Int).toNat (⟨(rd_T33 x0 x9).f0, (rd_T33 x0 x9).f1, (rd_T33 x0 x9).f2⟩ : S33)) x1 x2 x8 (wrap64 (x9 - 1))) else (Fa.l0 k x0 x1 x2 (wrap64 (x8 + 1))))) else (none)) else (none)) else (none)) else (none)) else (Fa.l0 k x0 x1 x2 (wrap64 (x8 + 1)))
end
def Fa.f (k : Nat) (l0 : List (S33)) (a1 : Int) (a2 : Int)  : Option ((List (S33))) := Fa.l0 k l0 a1 a2 (wrap64 (a1 + 1))
theorem Fa.mono_l : ∀ k, (∀ y0 y1 y2 y3, LeO (Fa.l0 k y0 y1 y2 y3) (Fa.l0 (k + 1) y0 y1 y2 y3)) ∧ (∀ y0 y1 y2 y3 y4, LeO (Fa.l1 k y0 y1 y2 y3 y4) (Fa.l1 (k + 1) y0 y1 y2 y3 y4))
  | 0 => ⟨fun _ _ _ _ r h => by simp [Fa.l0] at h, fun _ _ _ _ _ r h => by simp [Fa.l1] at h⟩
  | k + 1 => by
    obtain ⟨ih0, ih1⟩ := Fa.mono_l k
    refine ⟨?_, ?_⟩
    · intro y0 y1 y2 y3
      unfold Fa.l0
      repeat' (with_reducible first | exact ih0 _ _ _ _ | exact ih1 _ _ _ _ _ | exact LeO.refl _ | exact LeO.none _ | refine LeO.ite ?_ ?_ | refine LeO.bind ?_ (fun _ => ?_))
    · intro y0 y1 y2 y3 y4
      unfold Fa.l1
      repeat' (with_reducible first | exact ih0 _ _ _ _ | exact ih1 _ _ _ _ _ | exact LeO.refl _ | exact LeO.none _ | refine LeO.ite ?_ ?_ | refine LeO.bind ?_ (fun _ => ?_))
theorem Fa.mono : ∀ a0 a1 a2 k, LeO (Fa.f k a0 a1 a2) (Fa.f (k + 1) a0 a1 a2) := by
  intro a0 a1 a2 k
  obtain ⟨ih0, ih1⟩ := Fa.mono_l k
  unfold Fa.f
  repeat' (with_reducible first | exact ih0 _ _ _ _ | exact ih1 _ _ _ _ _ | exact LeO.refl _ | exact LeO.none _ | refine LeO.ite ?_ ?_ | refine LeO.bind ?_ (fun _ => ?_))
def Fa.T4 : Bool × List (List Nat × List Nat) := (true, [([], []), ([], []), ([0, 1], [0, 1]), ([2], [2]), ([3], [3]), ([3], [3]), ([3], [3]), ([5, 6, 3], [3, 5, 6]), ([7, 3], [3, 7]), ([3], [3]), ([3], [3]), ([10, 3], [3, 10]), ([9, 11, 3], [3, 9, 11]), ([12, 3], [3, 12]), ([4, 8, 13, 3, 3], [3, 4, 8, 13]), ([14, 3], [3, 14]), ([3, 15], [3, 15])])
def Fa.B4 : List Nat := [0, 0, 3, 7, 15, 15, 15, 111, 239, 15, 15, 1039, 3599, 7695, 16383, 32767, 65535]
theorem Fa.tab4 : rtab .any (opsOf Tryz.f67 4) = Fa.T4 := by kernel_rfl
theorem Fa.bits4 : waitsOk Fa.T4.2 Fa.B4 = true := by kernel_rfl
def Fa.T6 : Bool × List (List Nat × List Nat) := (true, [([], []), ([], []), ([], []), ([], []), ([3], [3]), ([], []), ([], []), ([6], [6]), ([5, 7], [5, 7]), ([8], [8]), ([], []), ([], []), ([10, 11], [10, 11]), ([12], [12]), ([0, 1, 0, 1, 5, 6, 7, 8, 9, 13], [0, 1]), ([14, 9, 0, 1, 5, 6, 7, 8, 9, 13], [9, 14]), ([2, 4, 0, 1, 2, 3, 4, 5, 6, 7, 8, 9, 10, 11, 12, 13, 14, 15], [2, 4]), ([16, 13, 15, 0, 1, 2, 3, 4, 5, 6, 7, 8, 9, 10, 11, 12, 13, 14, 15], [13, 16])])
def Fa.B6 : List Nat := [0, 0, 0, 0, 8, 0, 0, 64, 224, 480, 0, 0, 3072, 7168, 16355, 32739, 65535, 131071]
theorem Fa.tab6 : rtab .any (opsOf Tryz.f67 6) = Fa.T6 := by kernel_rfl
theorem Fa.bits6 : waitsOk Fa.T6.2 Fa.B6 = true := by kernel_rfl
theorem Fa.lastSkip_ {P : Program} {ops : Array Oper} {Q : Exit → Act → World → Prop} {md : Region.Mode} {S : World → Prop} {ds : List Nat} {i : Nat} {oi : Oper} {fuel : Nat} {l : Array Bool} {a : Act} {w w1 : World} (l' : Array Bool) (hi : ops[i]? = some oi) (hN : oi.dst = none) (hc : readyB md ops l l' i = true) (hd : i ∈ ds)
    (hw : Region.wanted oi (yielded ops a.tmps) = true) (hrun : (execOp a.eval oi).run P w = .ok .skip w1) (h : wpAnyLast P md ops Q S ds fuel l' a w1) : wpAnyLast P md ops Q S ds (fuel + 1) l a w :=
  last_ (N := none) l' hi hN hc hd (fun K hK => skip_ hw hN hrun (hK.out _ _ h))
theorem Fa.calls (k : Nat) (P0_ : Nat → Prop) (u9000_ : Value) (l0 : List (S33)) (a1 : Int) (a2 : Int)  (r : List (S33)) (w0 w : World) (hB : Below w0.heap.size w0 w) (ho0 : Kd.R k33 33 w w0.heap.size P0_ u9000_ l0) (h : Fa.f k l0 a1 a2 = some r) :
  Calls Tryz.prog 67 #[u9000_, .int .i64 a1, .int .i64 a2, .func (.func 22) #[] #[]] w fun e w' => e = .returned (.tuple #[]) ∧ Kd.R k33 33 w' w0.heap.size (fun k_ => (P0_ k_ ∨ w.heap.size ≤ k_)) u9000_ r ∧ Below w0.heap.size w0 w' ∧ Kept w w' (fun k_ => P0_ k_) := by
 have hu33 := Tryz.underlying33
 have R0 := Aside0.mk (show Kd.R k33 33 w w0.heap.size (fun k_ => (P0_ k_ ∨ w.heap.size ≤ k_)) u9000_ l0 from Kd.R_mono ho0 (fun k_ hk => (.inl hk)))
 have HK := Aside0.mk (Kept.refl w (fun k_ => P0_ k_))
 have HW0 := Aside0.mk hB.size
 have HB := Aside0.mk hB
 clear hB
 have H := h
 clear h
 unfold Fa.f at H
 have H' := Aside0.mk H
 clear H
 go_enter Tryz.func67, Tryz.ntmps67
 go_wp2
 go_loopg [8] k (fun kq v8 w' => ∃ (x0_1 : List (S33)) (x8_1 : Int), v8 = .int .i64 x8_1 ∧ Aside0 (Fa.l0 kq x0_1 a1 a2 x8_1 = some r) ∧ Aside0 (kq ≤ k) ∧ Aside0 (Kd.R k33 33 w' w0.heap.size (fun k_ => (P0_ k_ ∨ w.heap.size ≤ k_)) u9000_ x0_1) ∧ Aside0 (Kept w w' (fun k_ => P0_ k_)) ∧ Aside0 (Below w0.heap.size w0 w'))
 case atStart => exact ⟨(l0), (wrap64 (a1 + 1)), Ey, H', ⟨Nat.le_refl _⟩, ⟨rs R0⟩, ⟨by exact Ho.KS HK.out⟩, ⟨es HB⟩⟩
 case round =>
  clear H'
  try clear p2
  obtain ⟨x0_1, x8_1, rfl, HA, HK1, R_0, HK, HB⟩ := hrel
  cases gk with
  | zero => exact absurd HA.out (by simp [Fa.l0])
  | succ k1 =>
   have H := HA.out
   clear HA
   simp only [Fa.l0] at H
   by_cases c5 : x8_1 < a2
   rotate_left
   ·rw [if_neg c5] at H
    have c5b0 := decide_eq_false c5
    clear c5
    obtain rfl := Option.some.inj H
    go_wp2
    first | go_end0 | ((try simp only [Exit.inBlock, Exit.then]); refine bodyPost_ret (results_none rfl _ _ _) rfl ?_)
    exact ⟨Ez, by exact Ho.RS <| R_0.out, by exact eS HB.out, by exact Ho.KS HK.out⟩
   rw [if_pos c5] at H
   have c5b0 := decide_eq_true c5
   clear c5
   have H' := Aside0.mk H
   clear H
   go_wp2
   go_loopg [9] k1 (fun kq v9 w' => ∃ (x0_2 : List (S33)) (x9_2 : Int), v9 = .int .i64 x9_2 ∧ Aside0 (Fa.l1 kq x0_2 a1 a2 x8_1 x9_2 = some r) ∧ Aside0 (kq ≤ k1) ∧ Aside0 (Kd.R k33 33 w' w0.heap.size (fun k_ => (P0_ k_ ∨ w.heap.size ≤ k_)) u9000_ x0_2) ∧ Aside0 (Kept w w' (fun k_ => P0_ k_)) ∧ Aside0 (Below w0.heap.size w0 w'))
   case atStart => exact ⟨(x0_1), (x8_1), Ey, H', ⟨Nat.le_refl _⟩, ⟨rs R_0⟩, ⟨by exact Ho.KS HK.out⟩, ⟨es HB⟩⟩
   case round =>
    clear H'
    try clear p2
    try clear c5
    try clear c5b0
    try clear p2
    obtain ⟨x0_2, x9_2, rfl, HA, HK2, R_0, HK, HB⟩ := hrel
    cases gk with
    | zero => exact absurd HA.out (by simp [Fa.l1])
    | succ k2 =>
     have H := HA.out
     clear HA
     simp only [Fa.l1] at H
     by_cases c6 : x9_2 > a1
     rotate_left
     ·rw [if_neg c6] at H
      have c6b0 := decide_eq_false c6
      clear c6
      have H' := Aside0.mk H
      clear H
      try go_wp2
      replace R_0 := rD R_0
      replace HK := Ak (Kept.drew HK.out)
      replace HB := bD HB
      refine sT 17 (fun w' => True) [] Fa.tab4 Fa.bits4 trivial fun hHeld HT_ HW_ => ?_
      generalize wr.drew = w25 at R_0 HK HB hHeld ⊢
      refine Pu 0 ?_
      refine Pu 1 ?_
      refine Pu 2 ?_
      refine Pu 3 ?_
      refine Pn 4 ?_
      refine Pn 5 ?_
      refine Pn 6 ?_
      refine Pn 7 ?_
      refine Pn 8 ?_
      refine Pn 9 ?_
      refine Pn 10 ?_
      refine Pn 11 ?_
      refine Pn 12 ?_
      refine Pn 13 ?_
      refine Pn 14 ?_
      refine Pn 15 ?_
      refine Pu 16 ?_
      refine dO ?_
      try go_wp2
      go_roundg k2
      case measure => have := HK1.out; have := HK2.out; omega
      case rel => exact ⟨(x0_2), (wrap64 (x8_1 + 1)), Ey, H', ⟨by have := HK1.out; have := HK2.out; omega⟩, ⟨rs R_0⟩, ⟨by exact Ho.KS HK.out⟩, ⟨es HB⟩⟩
     rw [if_pos c6] at H
     have c6b0 := decide_eq_true c6
     clear c6
     by_cases c7 : 0 ≤ x9_2
     rotate_left
     ·rw [if_neg c7] at H
      exact absurd H (by simp)
     rw [if_pos c7] at H
     have c7b0 := decide_eq_true c7
     clear c7
     by_cases c8 : x9_2 < (x0_2.length : Int)
     rotate_left
     ·rw [if_neg c8] at H
      exact absurd H (by simp)
     rw [if_pos c8] at H
     have c8b0 := decide_eq_true c8
     clear c8
     obtain ⟨ji9, hji9⟩ : ∃ j_ : Int, (wrap64 (x9_2 - 1)) = j_ := ⟨_, rfl⟩
     replace H : (if 0 ≤ (ji9) then (if (ji9) < (x0_2.length : Int) then ((Fbl.f ((rd_T33 x0_2 x9_2).f0) ((rd_T33 x0_2 x9_2).f1) ((rd_T33 x0_2 x9_2).f2) ((rd_T33 x0_2 (ji9)).f0) ((rd_T33 x0_2 (ji9)).f1) ((rd_T33 x0_2 (ji9)).f2)).bind fun t3 => (if t3 < 0 then (Fa.l1 k2 ((x0_2.set (x9_2 : Int).toNat (⟨(rd_T33 x0_2 (ji9)).f0, (rd_T33 x0_2 (ji9)).f1, (rd_T33 x0_2 (ji9)).f2⟩ : S33)).set ((ji9) : Int).toNat (⟨(rd_T33 x0_2 x9_2).f0, (rd_T33 x0_2 x9_2).f1, (rd_T33 x0_2 x9_2).f2⟩ : S33)) a1 a2 x8_1 ji9) else (Fa.l0 k2 x0_2 a1 a2 (wrap64 (x8_1 + 1))))) else (none)) else (none)) = some r := by first | (rw [hji9] at H; exact H) | (simp only [hji9] at H ⊢; exact H)
     have hji9w : (IntKind.i64.wrap (x9_2 - 1)) = ji9 := (i64_w _).trans hji9
     by_cases c10 : 0 ≤ (ji9)
     rotate_left
     ·rw [if_neg c10] at H
      exact absurd H (by simp)
     rw [if_pos c10] at H
     have c10b0 := decide_eq_true c10
     clear c10
     by_cases c11 : (ji9) < (x0_2.length : Int)
     rotate_left
     ·rw [if_neg c11] at H
      exact absurd H (by simp)
     rw [if_pos c11] at H
     have c11b0 := decide_eq_true c11
     clear c11
     obtain ⟨t3, A12, H⟩ := bn H
     (try dsimp only at H)
     by_cases c13 : t3 < 0
     rotate_left
     ·rw [if_neg c13] at H
      have c13b0 := decide_eq_false c13
      clear c13
      have H' := Aside0.mk H
      clear H
      try go_wp2
      replace R_0 := rD R_0
      replace HK := Ak (Kept.drew HK.out)
      replace HB := bD HB
      obtain ⟨Ao23, co23, eo23⟩ := Kd.R_slice R_0.out
      (first | subst eo23 | (injection eo23 with f1_ f2_ f3_; have f4_ := f1_.symm; have f5_ := f3_.symm; clear f1_ f2_ f3_; subst f4_; subst f5_))
      have p101 : 0 ≤ (x9_2 : Int) := Dz
      have q1 : x9_2 < (x0_2.length : Int) := Dz
      obtain ⟨ad1, e1, hx1_0, hx1_1, hx1_2⟩ := at_T33 (Kd.R_reads' R_0.out).2.2 x9_2 p101 q1
      cases e1
      replace p101 := eq_true p101
      replace q1 := eq_true q1
      have p102 : 0 ≤ ((ji9) : Int) := Dz
      have q2 : (ji9) < (x0_2.length : Int) := Dz
      obtain ⟨ad2, e2, hx2_0, hx2_1, hx2_2⟩ := at_T33 (Kd.R_reads' R_0.out).2.2 (ji9) p102 q2
      obtain rfl : ad1 = ad2 := (by injection e2)
      replace p102 := eq_true p102
      replace q2 := eq_true q2
      refine sT 17 (fun w' => w'.cell? (ad1.add ((x9_2).toNat * 3)) = some (.int .i64 ((rd_T33 x0_2 x9_2).f0)) ∧ w'.cell? ⟨(ad1.add ((x9_2).toNat * 3)).block, (ad1.add ((x9_2).toNat * 3)).off + 1, none⟩ = some (.int .i64 ((rd_T33 x0_2 x9_2).f1)) ∧ w'.cell? ⟨(ad1.add ((x9_2).toNat * 3)).block, (ad1.add ((x9_2).toNat * 3)).off + 2, none⟩ = some (.int .i64 ((rd_T33 x0_2 x9_2).f2)) ∧ w'.cell? (ad1.add (((ji9)).toNat * 3)) = some (.int .i64 ((rd_T33 x0_2 (ji9)).f0)) ∧ w'.cell? ⟨(ad1.add (((ji9)).toNat * 3)).block, (ad1.add (((ji9)).toNat * 3)).off + 1, none⟩ = some (.int .i64 ((rd_T33 x0_2 (ji9)).f1)) ∧ w'.cell? ⟨(ad1.add (((ji9)).toNat * 3)).block, (ad1.add (((ji9)).toNat * 3)).off + 2, none⟩ = some (.int .i64 ((rd_T33 x0_2 (ji9)).f2))) [] Fa.tab4 Fa.bits4 ⟨hx1_0, hx1_1, hx1_2, hx2_0, hx2_1, hx2_2⟩ fun hHeld HT_ HW_ => ?_
      generalize wr.drew = w22 at R_0 HK HB hx1_0 hx1_1 hx1_2 hx2_0 hx2_1 hx2_2 hHeld ⊢
      refine Pu 0 ?_
      refine Pu 1 ?_
      refine Pu 2 ?_
      refine Pu 3 ?_
      refine Pu 4 ?_
      refine Pu 5 ?_
      refine Pu 6 ?_
      refine Pu 7 ?_
      refine Pu 9 ?_
      refine Pu 10 ?_
      refine Pu 11 ?_
      refine Pu 12 ?_
      refine Ta 8 ?_
      refine Ta 13 ?_
      refine oN 14 fun K hK => ?_
      refine Ho.goesv_ Tryz.func22 (by kernel_rfl) rfl _ _ #[.agg #[.int .i64 ((rd_T33 x0_2 x9_2).f0), .int .i64 ((rd_T33 x0_2 x9_2).f1), .int .i64 ((rd_T33 x0_2 x9_2).f2)], .agg #[.int .i64 ((rd_T33 x0_2 (ji9)).f0), .int .i64 ((rd_T33 x0_2 (ji9)).f1), .int .i64 ((rd_T33 x0_2 (ji9)).f2)]] (by rfl) rfl rfl (by rfl) (by (try simp only [List.map_toArray, List.map_cons, List.map_nil]); first | done | (simp only [hji9]; rfl) | rfl | (simp only [List.length_drop, List.length_take]; rfl)) ?_
      with_reducible refine (Fbl.calls ((rd_T33 x0_2 x9_2).f0) ((rd_T33 x0_2 x9_2).f1) ((rd_T33 x0_2 x9_2).f2) ((rd_T33 x0_2 (ji9)).f0) ((rd_T33 x0_2 (ji9)).f1) ((rd_T33 x0_2 (ji9)).f2) t3 _ A12.out).mono ?_
      rintro e w24 ⟨rfl, hb⟩
      have HS0_ := (hb.cell (World.block_lt_of_cell? _ _ (hHeld.1))).trans (hHeld.1)
      have HS1_ := (hb.cell (World.block_lt_of_cell? _ _ (hHeld.2.1))).trans (hHeld.2.1)
      have HS2_ := (hb.cell (World.block_lt_of_cell? _ _ (hHeld.2.2.1))).trans (hHeld.2.2.1)
      have HS3_ := (hb.cell (World.block_lt_of_cell? _ _ (hHeld.2.2.2.1))).trans (hHeld.2.2.2.1)
      have HS4_ := (hb.cell (World.block_lt_of_cell? _ _ (hHeld.2.2.2.2.1))).trans (hHeld.2.2.2.2.1)
      have HS5_ := (hb.cell (World.block_lt_of_cell? _ _ (hHeld.2.2.2.2.2))).trans (hHeld.2.2.2.2.2)
      refine ⟨_, rfl, ?_⟩
      replace R_0 := rT R_0 hb
      replace HK := Ak (Kept.below (S := (fun k_ => P0_ k_)) (by exact Ho.KS HK.out) hb)
      replace HB := bT HB hb
      clear hb
      refine hK.out _ _ ⟨HS0_, HS1_, HS2_, HS3_, HS4_, HS5_⟩ (fun hHeld => ?_)
      clear hK K
      refine nO 32 ?_
      refine Pu 15 ?_
      refine Pu 16 ?_
      refine dO ?_
      try go_wp2
      go_roundg k2
      case measure => have := HK1.out; have := HK2.out; omega
      case rel => exact ⟨(x0_2), (wrap64 (x8_1 + 1)), Ey, H', ⟨by have := HK1.out; have := HK2.out; omega⟩, ⟨rs R_0⟩, ⟨by exact Ho.KS HK.out⟩, ⟨es HB⟩⟩
     rw [if_pos c13] at H
     have c13b0 := decide_eq_true c13
     clear c13
     obtain ⟨y6, hy6⟩ : ∃ y_ : List (S33), y_ = (x0_2.set (x9_2 : Int).toNat (⟨(rd_T33 x0_2 (ji9)).f0, (rd_T33 x0_2 (ji9)).f1, (rd_T33 x0_2 (ji9)).f2⟩ : S33)) := ⟨_, rfl⟩
     replace H : (Fa.l1 k2 (y6.set ((ji9) : Int).toNat (⟨(rd_T33 x0_2 x9_2).f0, (rd_T33 x0_2 x9_2).f1, (rd_T33 x0_2 x9_2).f2⟩ : S33)) a1 a2 x8_1 ji9) = some r := by first | (rw [hy6]; with_reducible exact H) | (have H2_ := (Option.bind_some _ _).symm.trans H; rw [hy6]; with_reducible exact H2_) | (have H2_ := (Option.bind_some _ _).symm.trans H; with_reducible exact H2_) | with_reducible exact H | (rw [hy6]; exact H) | exact H
     have Ny6 := Aside0.mk hy6
     clear hy6
     obtain ⟨y7, hy7⟩ : ∃ y_ : List (S33), y_ = (y6.set ((ji9) : Int).toNat (⟨(rd_T33 x0_2 x9_2).f0, (rd_T33 x0_2 x9_2).f1, (rd_T33 x0_2 x9_2).f2⟩ : S33)) := ⟨_, rfl⟩
     replace H : (Fa.l1 k2 y7 a1 a2 x8_1 ji9) = some r := by first | (rw [hy7]; with_reducible exact H) | (have H2_ := (Option.bind_some _ _).symm.trans H; rw [hy7]; with_reducible exact H2_) | (have H2_ := (Option.bind_some _ _).symm.trans H; with_reducible exact H2_) | with_reducible exact H | (rw [hy7]; exact H) | exact H
     have Ny7 := Aside0.mk hy7
     clear hy7
     have H' := Aside0.mk H
     clear H
     try go_wp2
     replace R_0 := rD R_0
     replace HK := Ak (Kept.drew HK.out)
     replace HB := bD HB
     obtain ⟨Ao17, co17, eo17⟩ := Kd.R_slice R_0.out
     (first | subst eo17 | (injection eo17 with f1_ f2_ f3_; have f4_ := f1_.symm; have f5_ := f3_.symm; clear f1_ f2_ f3_; subst f4_; subst f5_))
     have p101 : 0 ≤ (x9_2 : Int) := Dz
     have q1 : x9_2 < (x0_2.length : Int) := Dz
     obtain ⟨ad1, e1, hx1_0, hx1_1, hx1_2⟩ := at_T33 (Kd.R_reads' R_0.out).2.2 x9_2 p101 q1
     cases e1
     replace p101 := eq_true p101
     replace q1 := eq_true q1
     have p102 : 0 ≤ ((ji9) : Int) := Dz
     have q2 : (ji9) < (x0_2.length : Int) := Dz
     obtain ⟨ad2, e2, hx2_0, hx2_1, hx2_2⟩ := at_T33 (Kd.R_reads' R_0.out).2.2 (ji9) p102 q2
     obtain rfl : ad1 = ad2 := (by injection e2)
     replace p102 := eq_true p102
     replace q2 := eq_true q2
     refine sT 17 (fun w' => w'.cell? (ad1.add ((x9_2).toNat * 3)) = some (.int .i64 ((rd_T33 x0_2 x9_2).f0)) ∧ w'.cell? ⟨(ad1.add ((x9_2).toNat * 3)).block, (ad1.add ((x9_2).toNat * 3)).off + 1, none⟩ = some (.int .i64 ((rd_T33 x0_2 x9_2).f1)) ∧ w'.cell? ⟨(ad1.add ((x9_2).toNat * 3)).block, (ad1.add ((x9_2).toNat * 3)).off + 2, none⟩ = some (.int .i64 ((rd_T33 x0_2 x9_2).f2)) ∧ w'.cell? (ad1.add (((ji9)).toNat * 3)) = some (.int .i64 ((rd_T33 x0_2 (ji9)).f0)) ∧ w'.cell? ⟨(ad1.add (((ji9)).toNat * 3)).block, (ad1.add (((ji9)).toNat * 3)).off + 1, none⟩ = some (.int .i64 ((rd_T33 x0_2 (ji9)).f1)) ∧ w'.cell? ⟨(ad1.add (((ji9)).toNat * 3)).block, (ad1.add (((ji9)).toNat * 3)).off + 2, none⟩ = some (.int .i64 ((rd_T33 x0_2 (ji9)).f2))) [] Fa.tab4 Fa.bits4 ⟨hx1_0, hx1_1, hx1_2, hx2_0, hx2_1, hx2_2⟩ fun hHeld HT_ HW_ => ?_
     generalize wr.drew = w16 at R_0 HK HB hx1_0 hx1_1 hx1_2 hx2_0 hx2_1 hx2_2 hHeld ⊢
     refine Pu 0 ?_
     refine Pu 1 ?_
     refine Pu 2 ?_
     refine Pu 3 ?_
     refine Pu 4 ?_
     refine Pu 5 ?_
     refine Pu 6 ?_
     refine Pu 7 ?_
     refine Pu 9 ?_
     refine Pu 10 ?_
     refine Pu 11 ?_
     refine Pu 12 ?_
     refine Ta 8 ?_
     refine Ta 13 ?_
     refine oN 14 fun K hK => ?_
     refine Ho.goesv_ Tryz.func22 (by kernel_rfl) rfl _ _ #[.agg #[.int .i64 ((rd_T33 x0_2 x9_2).f0), .int .i64 ((rd_T33 x0_2 x9_2).f1), .int .i64 ((rd_T33 x0_2 x9_2).f2)], .agg #[.int .i64 ((rd_T33 x0_2 (ji9)).f0), .int .i64 ((rd_T33 x0_2 (ji9)).f1), .int .i64 ((rd_T33 x0_2 (ji9)).f2)]] (by rfl) rfl rfl (by rfl) (by (try simp only [List.map_toArray, List.map_cons, List.map_nil]); first | done | (simp only [hji9]; rfl) | rfl | (simp only [List.length_drop, List.length_take]; rfl)) ?_
     with_reducible refine (Fbl.calls ((rd_T33 x0_2 x9_2).f0) ((rd_T33 x0_2 x9_2).f1) ((rd_T33 x0_2 x9_2).f2) ((rd_T33 x0_2 (ji9)).f0) ((rd_T33 x0_2 (ji9)).f1) ((rd_T33 x0_2 (ji9)).f2) t3 _ A12.out).mono ?_
     rintro e w18 ⟨rfl, hb⟩
     have HS0_ := (hb.cell (World.block_lt_of_cell? _ _ (hHeld.1))).trans (hHeld.1)
     have HS1_ := (hb.cell (World.block_lt_of_cell? _ _ (hHeld.2.1))).trans (hHeld.2.1)
     have HS2_ := (hb.cell (World.block_lt_of_cell? _ _ (hHeld.2.2.1))).trans (hHeld.2.2.1)
     have HS3_ := (hb.cell (World.block_lt_of_cell? _ _ (hHeld.2.2.2.1))).trans (hHeld.2.2.2.1)
     have HS4_ := (hb.cell (World.block_lt_of_cell? _ _ (hHeld.2.2.2.2.1))).trans (hHeld.2.2.2.2.1)
     have HS5_ := (hb.cell (World.block_lt_of_cell? _ _ (hHeld.2.2.2.2.2))).trans (hHeld.2.2.2.2.2)
     refine ⟨_, rfl, ?_⟩
     replace R_0 := rT R_0 hb
     replace HK := Ak (Kept.below (S := (fun k_ => P0_ k_)) (by exact Ho.KS HK.out) hb)
     replace HB := bT HB hb
     clear hb
     refine hK.out _ _ ⟨HS0_, HS1_, HS2_, HS3_, HS4_, HS5_⟩ (fun hHeld => ?_)
     clear hK K
     refine nO 32 ?_
     refine Pu 15 ?_
     refine Pu 16 ?_
     refine dO ?_
     try go_wp2
     replace R_0 := rD R_0
     replace HK := Ak (Kept.drew HK.out)
     replace HB := bD HB
     have p104 : 0 ≤ ((ji9) : Int) := Dz
     have q4 : (ji9) < (x0_2.length : Int) := Dz
     obtain ⟨ad4, e4, hx4_0, hx4_1, hx4_2⟩ := at_T33 (Kd.R_reads' R_0.out).2.2 (ji9) p104 q4
     obtain rfl : ad1 = ad4 := (by injection e4)
     replace p104 := eq_true p104
     replace q4 := eq_true q4
     have p105 : 0 ≤ (x9_2 : Int) := Dz
     have q5 : x9_2 < (x0_2.length : Int) := Dz
     obtain ⟨ad5, e5, hx5_0, hx5_1, hx5_2⟩ := at_T33 (Kd.R_reads' R_0.out).2.2 x9_2 p105 q5
     obtain rfl : ad1 = ad5 := (by injection e5)
     replace p105 := eq_true p105
     replace q5 := eq_true q5
     have p14 : 0 ≤ (x9_2 : Int) := Dz
     have q14 : (x9_2 : Int) < ((x0_2.length : Int) : Int) := Dz
     obtain ⟨go14, co14, eo14, g14, gl14, cl14, HG14⟩ := Kd.R_form R_0.out (by omega)
     (first | cases eo14 | (injection eo14 with ea_ en_ ec_; (first | subst ea_ | (injection ea_ with ea_; subst ea_)); subst ec_; clear en_))
     have K14 := Aside0.mk g14
     have GG14 := Aside0.mk HG14
     clear g14 gl14 HG14
     have HMgo14 := Aside0.mk (show (P0_ go14 ∨ w.heap.size ≤ go14) from (R_0.out.1 _ rfl))
     (first | simp only [add_plain] at hx1_0 | skip)
     (first | simp only [add_plain] at hx1_1 | skip)
     (first | simp only [add_plain] at hx1_2 | skip)
     (first | simp only [add_plain] at hx2_0 | skip)
     (first | simp only [add_plain] at hx2_1 | skip)
     (first | simp only [add_plain] at hx2_2 | skip)
     (first | simp only [add_plain] at hx4_0 | skip)
     (first | simp only [add_plain] at hx4_1 | skip)
     (first | simp only [add_plain] at hx4_2 | skip)
     (first | simp only [add_plain] at hx5_0 | skip)
     (first | simp only [add_plain] at hx5_1 | skip)
     (first | simp only [add_plain] at hx5_2 | skip)
     obtain ⟨ce14, hcl14, hM14, hcc14, hfr14⟩ := Kd.R_elem R_0.out z33 (x9_2 : Int) p14 q14
     obtain rfl := k33_openM hM14
     have hx14_0 : World.cell? _ ⟨go14, (x9_2 : Int).toNat * 3, none⟩ = some (.int .i64 ((rd_T33 x0_2 x9_2).f0)) := hcc14 0 _ rfl
     have hx14_1 : World.cell? _ ⟨go14, (x9_2 : Int).toNat * 3 + 1, none⟩ = some (.int .i64 ((rd_T33 x0_2 x9_2).f1)) := hcc14 1 _ rfl
     have hx14_2 : World.cell? _ ⟨go14, (x9_2 : Int).toNat * 3 + 2, none⟩ = some (.int .i64 ((rd_T33 x0_2 x9_2).f2)) := hcc14 2 _ rfl
     have hf14_0 : World.frozen? _ ⟨go14, (x9_2 : Int).toNat * 3, none⟩ = false := hfr14 0
     have hf14_1 : World.frozen? _ ⟨go14, (x9_2 : Int).toNat * 3 + 1, none⟩ = false := hfr14 1
     have hf14_2 : World.frozen? _ ⟨go14, (x9_2 : Int).toNat * 3 + 2, none⟩ = false := hfr14 2
     clear hcl14 hcc14 hfr14 hM14
     replace p14 := eq_true p14
     replace q14 := eq_true q14
     obtain ⟨ce20, hcl20, hM20, hcc20, hfr20⟩ := Kd.R_elem R_0.out z33 (x9_2 : Int) (Dz) (by have h_ : (x9_2 : Int) < ((x0_2.length : Int) : Int) := Dz; first | exact h_ | (have e_ := (Kd.R_reads' R_0.out).1; omega) | simpa using h_)
     obtain rfl := k33_openM hM20
     have HP20 := (Kd.R_seg R_0.out (x9_2 : Int) (Dz) (by have h_ : (x9_2 : Int) < ((x0_2.length : Int) : Int) := Dz; first | exact h_ | (have e_ := (Kd.R_reads' R_0.out).1; omega) | simpa using h_) (seg := [.int .i64 ((rd_T33 x0_2 (ji9)).f0), .int .i64 ((rd_T33 x0_2 (ji9)).f1), .int .i64 ((rd_T33 x0_2 (ji9)).f2)]) (j := 0) hcl20 hcc20 (show 3 ≤ 3 from by decide) (x' := (⟨(rd_T33 x0_2 (ji9)).f0, (rd_T33 x0_2 (ji9)).f1, (rd_T33 x0_2 (ji9)).f2⟩ : S33)) (k33_mkM _ _ _ (⟨(rd_T33 x0_2 (ji9)).f0, (rd_T33 x0_2 (ji9)).f1, (rd_T33 x0_2 (ji9)).f2⟩ : S33) ) (fun _ hk => hk)).1
     rw [← Ny6.out] at HP20
     have HQ20 := Aside0.mk HP20
     clear hcl20 hcc20 hfr20 hM20 HP20
     have p15 : 0 ≤ ((ji9) : Int) := Dz
     have q15 : ((ji9) : Int) < ((x0_2.length : Int) : Int) := Dz
     obtain ⟨ce15, hcl15, hM15, hcc15, hfr15⟩ := Kd.R_elem HQ20.out z33 ((ji9) : Int) p15 q15
     obtain rfl := k33_openM hM15
     have hx15_0 : World.cell? _ ⟨go14, ((ji9) : Int).toNat * 3, none⟩ = some (.int .i64 ((rd_T33 y6 (ji9)).f0)) := hcc15 0 _ rfl
     (try (have hsw_ : ¬ (x9_2).toNat = (ji9).toNat := (by have hna_ : (0 : Int) ≤ (x9_2 : Int) := Dz; have hnb_ : (0 : Int) ≤ (ji9 : Int) := Dz; have hqji9_ := hji9; unfold wrap64 at hqji9_; omega); have hsw2_ : ¬ (ji9).toNat = (x9_2).toNat := fun h_ => hsw_ h_.symm; have hsw3_ : ¬ (x9_2).toNat * 3 = (ji9).toNat * 3 := (by omega); have hsw4_ : ¬ (ji9).toNat * 3 = (x9_2).toNat * 3 := (by omega)))
     have hx15_1 : World.cell? _ ⟨go14, ((ji9) : Int).toNat * 3 + 1, none⟩ = some (.int .i64 ((rd_T33 y6 (ji9)).f1)) := hcc15 1 _ rfl
     have hx15_2 : World.cell? _ ⟨go14, ((ji9) : Int).toNat * 3 + 2, none⟩ = some (.int .i64 ((rd_T33 y6 (ji9)).f2)) := hcc15 2 _ rfl
     have hf15_0 : World.frozen? _ ⟨go14, ((ji9) : Int).toNat * 3, none⟩ = false := hfr15 0
     have hf15_1 : World.frozen? _ ⟨go14, ((ji9) : Int).toNat * 3 + 1, none⟩ = false := hfr15 1
     have hf15_2 : World.frozen? _ ⟨go14, ((ji9) : Int).toNat * 3 + 2, none⟩ = false := hfr15 2
     clear hcl15 hcc15 hfr15 hM15
     replace p15 := eq_true p15
     replace q15 := eq_true q15
     obtain ⟨ce21, hcl21, hM21, hcc21, hfr21⟩ := Kd.R_elem HQ20.out z33 ((ji9) : Int) (Dz) (by have h_ : ((ji9) : Int) < ((x0_2.length : Int) : Int) := Dz; first | exact h_ | (have e_ := (Kd.R_reads' R_0.out).1; omega) | simpa using h_)
     obtain rfl := k33_openM hM21
     have HP21 := (Kd.R_seg HQ20.out ((ji9) : Int) (Dz) (by have h_ : ((ji9) : Int) < ((x0_2.length : Int) : Int) := Dz; first | exact h_ | (have e_ := (Kd.R_reads' R_0.out).1; omega) | simpa using h_) (seg := [.int .i64 ((rd_T33 x0_2 x9_2).f0), .int .i64 ((rd_T33 x0_2 x9_2).f1), .int .i64 ((rd_T33 x0_2 x9_2).f2)]) (j := 0) hcl21 hcc21 (show 3 ≤ 3 from by decide) (x' := (⟨(rd_T33 x0_2 x9_2).f0, (rd_T33 x0_2 x9_2).f1, (rd_T33 x0_2 x9_2).f2⟩ : S33)) (k33_mkM _ _ _ (⟨(rd_T33 x0_2 x9_2).f0, (rd_T33 x0_2 x9_2).f1, (rd_T33 x0_2 x9_2).f2⟩ : S33) ) (fun _ hk => hk)).1
     rw [← Ny7.out] at HP21
     have HQ21 := Aside0.mk HP21
     clear hcl21 hcc21 hfr21 hM21 HP21
     refine sT 18 (fun w' => w'.cell? ⟨go14, (((ji9)).toNat * 3), none⟩ = some (.int .i64 ((rd_T33 x0_2 (ji9)).f0)) ∧ w'.cell? ⟨go14, (((ji9)).toNat * 3) + 1, none⟩ = some (.int .i64 ((rd_T33 x0_2 (ji9)).f1)) ∧ w'.cell? ⟨go14, (((ji9)).toNat * 3) + 2, none⟩ = some (.int .i64 ((rd_T33 x0_2 (ji9)).f2)) ∧ w'.cell? ⟨go14, ((x9_2).toNat * 3), none⟩ = some (.int .i64 ((rd_T33 x0_2 x9_2).f0)) ∧ w'.cell? ⟨go14, ((x9_2).toNat * 3) + 1, none⟩ = some (.int .i64 ((rd_T33 x0_2 x9_2).f1)) ∧ w'.cell? ⟨go14, ((x9_2).toNat * 3) + 2, none⟩ = some (.int .i64 ((rd_T33 x0_2 x9_2).f2))) [15, 17] Fa.tab6 Fa.bits6 ⟨hx4_0, hx4_1, hx4_2, hx5_0, hx5_1, hx5_2⟩ fun hHeld HT_ HW_ => ?_
     generalize w18.drew = w19 at R_0 HK HB GG14 HQ20 HQ21 hf14_0 hf14_1 hf14_2 hf15_0 hf15_1 hf15_2 hx1_0 hx1_1 hx1_2 hx2_0 hx2_1 hx2_2 hx4_0 hx4_1 hx4_2 hx5_0 hx5_1 hx5_2 hx14_0 hx14_1 hx14_2 hx15_0 hx15_1 hx15_2 hHeld ⊢
     (try (obtain ⟨_, _, _, _, hfs_⟩ := Kd.R_elem R_0.out z33 (ji9 : Int) (Dz) (Dz); have hfs0_ : World.frozen? _ ⟨go14, (ji9).toNat * 3, none⟩ = false := hfs_ 0; have hfs1_ : World.frozen? _ ⟨go14, (ji9).toNat * 3 + 1, none⟩ = false := hfs_ 1; have hfs2_ : World.frozen? _ ⟨go14, (ji9).toNat * 3 + 2, none⟩ = false := hfs_ 2))
     refine Pu 0 ?_
     refine Pu 1 ?_
     refine Pu 2 ?_
     refine Pu 3 ?_
     refine Pu 4 ?_
     refine Pu 5 ?_
     refine Pu 6 ?_
     refine Pu 7 ?_
     refine Pu 8 ?_
     refine Pu 10 ?_
     refine Pu 11 ?_
     refine Pu 12 ?_
     refine Ta 9 ?_
     refine Ta 13 ?_
     refine Pu 14 ?_
     refine Fa.lastSkip_ (i := 15) (w1 := ?_) (Bt 18 65535) rfl rfl (one_of HT_.out (by kernel_rfl)) (by decide) (by rfl) ?_ ?_
     rotate_left
     ·go_simp
      rfl
     refine Pu 16 ?_
     refine Fa.lastSkip_ (i := 17) (w1 := ?_) (Bt 18 262143) rfl rfl (one_of HT_.out (by kernel_rfl)) (by decide) (by rfl) ?_ ?_
     rotate_left
     ·go_simp
      rfl
     refine dO ?_
     try go_wp2
     go_roundg k2
     case measure => have := HK1.out; have := HK2.out; omega
     case rel => exact ⟨(y7), (ji9), (by first | rfl | (simp; done) | (simp only [← hji9] <;> (first | rfl | simp)) | (simp [*]; done)), H', ⟨by have := HK1.out; have := HK2.out; omega⟩, ⟨by first | exact Ho.RS <| HQ21.out | exact HQ21.out⟩, ⟨by repeat (first | (with_reducible first | exact HK.out | apply Kept.alloc | apply Kept.drewN | apply Kept.drew | refine Kept.setCell ?_ HMgo14.out _ | refine Kept.setCell ?_ HMgo14.out _ | refine Kept.setCell ?_ HMgo14.out _ | refine Kept.setCell ?_ HMgo14.out _ | refine Kept.setCell ?_ HMgo14.out _ | refine Kept.setCell ?_ HMgo14.out _) | exact HK.out)⟩, ⟨Bq⟩⟩
/-! ### Fi: function 100005 -/
def Fi.l0 : Nat → List (S33) → Int → Int → Int → Bool → Option ((List (S33)))
  | 0, _, _, _, _, _ => none
  | k + 1, x0, x1, x2, x3, x10 => if (wrap64 (x2 - x1)) ≤ 12 then ((Fa.f k x0 x1 x2).bind fun t101 => (some t101)) else (if x3 = 0 then (none) else (if x10 = true then (none) else (none)))
def Fi.f (k : Nat) (l0 : List (S33)) (a1 : Int) (a2 : Int) (a3 : Int)  : Option ((List (S33))) := Fi.l0 k l0 a1 a2 a3 true
theorem Fi.mono_l : ∀ k, (∀ y0 y1 y2 y3 y4, LeO (Fi.l0 k y0 y1 y2 y3 y4) (Fi.l0 (k + 1) y0 y1 y2 y3 y4))
  | 0 => fun _ _ _ _ _ r h => by simp [Fi.l0] at h
  | k + 1 => by
    have ih0 := Fi.mono_l k
    · intro y0 y1 y2 y3 y4
      unfold Fi.l0
      repeat' (with_reducible first | exact ih0 _ _ _ _ _ | apply Fa.mono | exact LeO.refl _ | exact LeO.none _ | refine LeO.ite ?_ ?_ | refine LeO.bind ?_ (fun _ => ?_))
theorem Fi.mono : ∀ a0 a1 a2 a3 k, LeO (Fi.f k a0 a1 a2 a3) (Fi.f (k + 1) a0 a1 a2 a3) := by
  intro a0 a1 a2 a3 k
  have ih0 := Fi.mono_l k
  unfold Fi.f
  repeat' (with_reducible first | exact ih0 _ _ _ _ _ | apply Fa.mono | exact LeO.refl _ | exact LeO.none _ | refine LeO.ite ?_ ?_ | refine LeO.bind ?_ (fun _ => ?_))
theorem Fi.calls (k : Nat) (P0_ : Nat → Prop) (u9000_ : Value) (l0 : List (S33)) (a1 : Int) (a2 : Int) (a3 : Int)  (r : List (S33)) (w0 w : World) (hB : Below w0.heap.size w0 w) (ho0 : Kd.R k33 33 w w0.heap.size P0_ u9000_ l0) (h : Fi.f k l0 a1 a2 a3 = some r) :
  Calls Tryz.prog 52 #[u9000_, .int .i64 a1, .int .i64 a2, .int .i64 a3, .func (.func 22) #[] #[]] w fun e w' => e = .returned (.tuple #[]) ∧ Kd.R k33 33 w' w0.heap.size (fun k_ => (P0_ k_ ∨ w.heap.size ≤ k_)) u9000_ r ∧ Below w0.heap.size w0 w' ∧ Kept w w' (fun k_ => P0_ k_) := by
 have hu33 := Tryz.underlying33
 have R0 := Aside0.mk (show Kd.R k33 33 w w0.heap.size (fun k_ => (P0_ k_ ∨ w.heap.size ≤ k_)) u9000_ l0 from Kd.R_mono ho0 (fun k_ hk => (.inl hk)))
 have HK := Aside0.mk (Kept.refl w (fun k_ => P0_ k_))
 have HW0 := Aside0.mk hB.size
 have HB := Aside0.mk hB
 clear hB
 have H := h
 clear h
 unfold Fi.f at H
 have H' := Aside0.mk H
 clear H
 go_enter Tryz.func52, Tryz.ntmps52
 go_wp2
 go_loopg [1, 2, 3, 10] k (fun kq v1 v2 v3 v10 w' => ∃ (x0_1 : List (S33)) (x1_1 : Int) (x2_1 : Int) (x3_1 : Int) (x10_1 : Bool), v1 = .int .i64 x1_1 ∧ v2 = .int .i64 x2_1 ∧ v3 = .int .i64 x3_1 ∧ v10 = .bool x10_1 ∧ Aside0 (Fi.l0 kq x0_1 x1_1 x2_1 x3_1 x10_1 = some r) ∧ Aside0 (kq ≤ k) ∧ Aside0 (Kd.R k33 33 w' w0.heap.size (fun k_ => (P0_ k_ ∨ w.heap.size ≤ k_)) u9000_ x0_1) ∧ Aside0 (Kept w w' (fun k_ => P0_ k_)) ∧ Aside0 (Below w0.heap.size w0 w'))
 case atStart => exact ⟨(l0), (a1), (a2), (a3), (true), Ey, Ey, Ey, Ey, H', ⟨Nat.le_refl _⟩, ⟨rs R0⟩, ⟨by exact Ho.KS HK.out⟩, ⟨es HB⟩⟩
 case round =>
  clear H'
  try clear p2
  try clear c5
  obtain ⟨x0_1, x1_1, x2_1, x3_1, x10_1, rfl, rfl, rfl, rfl, HA, HK1, R_0, HK, HB⟩ := hrel
  cases gk with
  | zero => exact absurd HA.out (by simp [Fi.l0])
  | succ k1 =>
   have H := HA.out
   clear HA
   simp only [Fi.l0] at H
   by_cases c6 : (wrap64 (x2_1 - x1_1)) ≤ 12
   ·rw [if_pos c6] at H
    have c6b0 := decide_eq_true c6
    clear c6
    obtain ⟨t1, A7, H⟩ := bn H
    (try dsimp only at H)
    obtain rfl := Option.some.inj H
    obtain ⟨Ao8, co8, eo8⟩ := Kd.R_slice R_0.out
    subst eo8
    go_wp2_with (first | (refine cE (some 30) Tryz.func67 #[.slice Ao8 x0_1.length co8, .int .i64 x1_1, .int .i64 x2_1, .func (.func 22) #[] #[]] ?_; (refine (Fa.calls k1 (fun k_ => some k_ = (.slice Ao8 x0_1.length co8 : Value).ownBlock) (.slice Ao8 x0_1.length co8) x0_1 x1_1 x2_1  t1 w0 _ ?side1 ?side2 A7.out).mono ?_); (case side1 => exact eS HB.out); (case side2 => exact Kd.R_tight rfl R_0.out); rintro e w9 ⟨rfl, hy0, hb, hkp⟩; refine ⟨_, rfl, ?_⟩; replace HK := Ak (Kept.then_ (S := (fun k_ => P0_ k_)) (by exact Ho.KS HK.out) hkp (fun k_ hs_ => (fun e_ => (R_0.out.1 k_ e_.symm)) hs_)); replace R_0 := Ak (Kd.R_reok rfl hy0 (fun k_ e_ => R_0.out.1 k_ e_)); replace HB := Ak hb; clear hb; (try clear hkp); (try clear hy0)))
    first | go_end0 | ((try simp only [Exit.inBlock, Exit.then]); refine bodyPost_ret (results_none rfl _ _ _) rfl ?_)
    exact ⟨Ez, by exact Ho.RS <| R_0.out, by exact eS HB.out, by exact Ho.KS HK.out⟩
   ·rw [if_neg c6] at H
    have c6b0 := decide_eq_false c6
    clear c6
    by_cases c10 : x3_1 = 0
    ·rw [if_pos c10] at H
     exact absurd H (by simp)
    ·rw [if_neg c10] at H
     have c10b0 := beq_eq_false_iff_ne.mpr c10
     have c10b1 := bne_iff_ne.mpr c10
     by_cases c11 : x10_1 = true
     ·subst c11
      rw [if_pos rfl] at H
      exact absurd H (by simp)
     ·replace c11 := Bool.eq_false_iff.mpr c11
      subst c11
      rw [if_neg (show ¬ (false = true) by decide)] at H
      exact absurd H (by simp)
end Go.Proofs.YtiomfignokichaaGreatDoor.X
