/- What the law FnExactClientsByPaid needs, part 1 of 4: what each function of the program that it reaches returns (printed by this session's own program, checked by Lean), and plain mathematics about it. Conditions: those of each theorem. -/
import Derived.Test.YtahfahlbdgbfeaaDoorProg
import Derived.WalkKit
import Derived.Test.YtahfahlbdgbfeaaDoorYG
import Derived.WalkSpells
import Derived.Below
import Derived.Deep.Draws
import Derived.Deep.AppendLies
import Derived.Maps.AppendAt
import Derived.OwnWalk
import Derived.Laws.BytesArg
import Derived.Laws.MakeOwn
import Derived.Laws.OwnMore
import Derived.Deep.OwnRows
import Derived.Tactics
import Derived.Lib.ConvBytes
import Derived.Laws.Slices
import Derived.KernelRfl
import Derived.RowKit3
import Derived.Deep.LoopGhost
import Derived.Deep.QuietTactic
import Derived.BigQuiet
import Derived.WideLaws
import Derived.Deep.DeepCutAuto
import Derived.Deep.CutBlock
import Derived.Deep.RegionHeld3
import Derived.Laws.Rows
import Derived.Lib.AppendStr
import Derived.ArgAppend
import Derived.Laws.IdiomCopy
import Derived.OrdersHeld
import Derived.Laws.Runes
import Derived.Laws.BitsLemmas
import Derived.RowKit
import Derived.ProofKit
import Derived.WideShapes
import Derived.Ground.NamesProg
import Derived.Shelf.Strings.SlTrimAscii
import Derived.Ground.SlsfProg
import Derived.Shelf.SlGeneric
import Derived.Shelf.SlSortCmp.Whole1
import Derived.Maps.OwnSet
import Derived.Maps.OwnOps
import Derived.StringKeys
import Derived.Shelf.SlSortCmp.NoneTotal
namespace Go.Proofs.YtahfahlbdgbfeaaDoor.X.Sq
open Go.RowKit Go.Proofs.YtahfahlbdgbfeaaDoorW.PrintWords Go.Proofs.YtahfahlbdgbfeaaDoorW.PrintLast
/-- done -/
abbrev I : Bool := true
/-- to be done -/
abbrev O : Bool := false
/-- what a letter's place holds -/
theorem Z : (∀ (a : Act) (v : Value), a.put none v = a) ∧ (∀ (a : Act) (n : Tmp) (v : Value), a.put (some n) v = { a with tmps := a.tmps.setIfInBounds n v }) ∧ (∀ (l : List Value) (i : Nat) (x : Value), l.toArray.setIfInBounds i x = (l.set i x).toArray) ∧ (∀ (b : Value) (l : List Value) (x : Value), (b :: l).set 0 x = x :: l) ∧ (∀ (b : Value) (l : List Value) (n : Nat) (x : Value), (b :: l).set (n + 1) x = b :: l.set n x) ∧ (∀ n : Int, IntKind.i64.wrap n = Go.RowKit.wrap64 n) ∧ (∀ n : Int, IntKind.i32.wrap n = Go.RowKit.wrap32 n) :=
  ⟨fun _ _ => rfl, fun _ _ _ => rfl, fun l i x => by simp, fun _ _ _ => rfl, fun _ _ _ _ => rfl, i64_w, i32_w⟩
theorem c2 {w : World} {g t : Nat} {v0 v1 : Value} (h : w.heap[g]? = some (.cells #[v0, v1] t (0, 0))) : w.cell? ⟨g, 0, none⟩ = some v0 ∧ w.cell? ⟨g, 1, none⟩ = some v1 ∧ w.frozen? ⟨g, 0, none⟩ = false ∧ w.frozen? ⟨g, 1, none⟩ = false :=
  ⟨(blk_cell h 0).trans rfl, (blk_cell h 1).trans rfl, blk_frozen h 0, blk_frozen h 1⟩
theorem put2 {w : World} {g t : Nat} {v0 v1 o0 o1 : Value} (h : w.heap[g]? = some (.cells #[o0, o1] t (0, 0))) : ((w.setCell ⟨g, 0, none⟩ v0).setCell ⟨g, 1, none⟩ v1).heap[g]? = some (.cells #[v0, v1] t (0, 0)) :=
  (blk_put (cs := #[v0, o1]) (blk_put (cs := #[o0, o1]) h 0 v0 rfl) 1 v1 rfl)
theorem c3 {w : World} {g t : Nat} {v0 v1 v2 : Value} (h : w.heap[g]? = some (.cells #[v0, v1, v2] t (0, 0))) : w.cell? ⟨g, 0, none⟩ = some v0 ∧ w.cell? ⟨g, 1, none⟩ = some v1 ∧ w.cell? ⟨g, 2, none⟩ = some v2 ∧ w.frozen? ⟨g, 0, none⟩ = false ∧ w.frozen? ⟨g, 1, none⟩ = false ∧ w.frozen? ⟨g, 2, none⟩ = false :=
  ⟨(blk_cell h 0).trans rfl, (blk_cell h 1).trans rfl, (blk_cell h 2).trans rfl, blk_frozen h 0, blk_frozen h 1, blk_frozen h 2⟩
theorem put3 {w : World} {g t : Nat} {v0 v1 v2 o0 o1 o2 : Value} (h : w.heap[g]? = some (.cells #[o0, o1, o2] t (0, 0))) : (((w.setCell ⟨g, 0, none⟩ v0).setCell ⟨g, 1, none⟩ v1).setCell ⟨g, 2, none⟩ v2).heap[g]? = some (.cells #[v0, v1, v2] t (0, 0)) :=
  (blk_put (cs := #[v0, v1, o2]) (blk_put (cs := #[v0, o1, o2]) (blk_put (cs := #[o0, o1, o2]) h 0 v0 rfl) 1 v1 rfl) 2 v2 rfl)
theorem c4 {w : World} {g t : Nat} {v0 v1 v2 v3 : Value} (h : w.heap[g]? = some (.cells #[v0, v1, v2, v3] t (0, 0))) : w.cell? ⟨g, 0, none⟩ = some v0 ∧ w.cell? ⟨g, 1, none⟩ = some v1 ∧ w.cell? ⟨g, 2, none⟩ = some v2 ∧ w.cell? ⟨g, 3, none⟩ = some v3 ∧ w.frozen? ⟨g, 0, none⟩ = false ∧ w.frozen? ⟨g, 1, none⟩ = false ∧ w.frozen? ⟨g, 2, none⟩ = false ∧ w.frozen? ⟨g, 3, none⟩ = false :=
  ⟨(blk_cell h 0).trans rfl, (blk_cell h 1).trans rfl, (blk_cell h 2).trans rfl, (blk_cell h 3).trans rfl, blk_frozen h 0, blk_frozen h 1, blk_frozen h 2, blk_frozen h 3⟩
theorem put4 {w : World} {g t : Nat} {v0 v1 v2 v3 o0 o1 o2 o3 : Value} (h : w.heap[g]? = some (.cells #[o0, o1, o2, o3] t (0, 0))) : ((((w.setCell ⟨g, 0, none⟩ v0).setCell ⟨g, 1, none⟩ v1).setCell ⟨g, 2, none⟩ v2).setCell ⟨g, 3, none⟩ v3).heap[g]? = some (.cells #[v0, v1, v2, v3] t (0, 0)) :=
  (blk_put (cs := #[v0, v1, v2, o3]) (blk_put (cs := #[v0, v1, o2, o3]) (blk_put (cs := #[v0, o1, o2, o3]) (blk_put (cs := #[o0, o1, o2, o3]) h 0 v0 rfl) 1 v1 rfl) 2 v2 rfl) 3 v3 rfl)
theorem c5 {w : World} {g t : Nat} {v0 v1 v2 v3 v4 : Value} (h : w.heap[g]? = some (.cells #[v0, v1, v2, v3, v4] t (0, 0))) : w.cell? ⟨g, 0, none⟩ = some v0 ∧ w.cell? ⟨g, 1, none⟩ = some v1 ∧ w.cell? ⟨g, 2, none⟩ = some v2 ∧ w.cell? ⟨g, 3, none⟩ = some v3 ∧ w.cell? ⟨g, 4, none⟩ = some v4 ∧ w.frozen? ⟨g, 0, none⟩ = false ∧ w.frozen? ⟨g, 1, none⟩ = false ∧ w.frozen? ⟨g, 2, none⟩ = false ∧ w.frozen? ⟨g, 3, none⟩ = false ∧ w.frozen? ⟨g, 4, none⟩ = false :=
  ⟨(blk_cell h 0).trans rfl, (blk_cell h 1).trans rfl, (blk_cell h 2).trans rfl, (blk_cell h 3).trans rfl, (blk_cell h 4).trans rfl, blk_frozen h 0, blk_frozen h 1, blk_frozen h 2, blk_frozen h 3, blk_frozen h 4⟩
theorem put5 {w : World} {g t : Nat} {v0 v1 v2 v3 v4 o0 o1 o2 o3 o4 : Value} (h : w.heap[g]? = some (.cells #[o0, o1, o2, o3, o4] t (0, 0))) : (((((w.setCell ⟨g, 0, none⟩ v0).setCell ⟨g, 1, none⟩ v1).setCell ⟨g, 2, none⟩ v2).setCell ⟨g, 3, none⟩ v3).setCell ⟨g, 4, none⟩ v4).heap[g]? = some (.cells #[v0, v1, v2, v3, v4] t (0, 0)) :=
  (blk_put (cs := #[v0, v1, v2, v3, o4]) (blk_put (cs := #[v0, v1, v2, o3, o4]) (blk_put (cs := #[v0, v1, o2, o3, o4]) (blk_put (cs := #[v0, o1, o2, o3, o4]) (blk_put (cs := #[o0, o1, o2, o3, o4]) h 0 v0 rfl) 1 v1 rfl) 2 v2 rfl) 3 v3 rfl) 4 v4 rfl)
theorem c6 {w : World} {g t : Nat} {v0 v1 v2 v3 v4 v5 : Value} (h : w.heap[g]? = some (.cells #[v0, v1, v2, v3, v4, v5] t (0, 0))) : w.cell? ⟨g, 0, none⟩ = some v0 ∧ w.cell? ⟨g, 1, none⟩ = some v1 ∧ w.cell? ⟨g, 2, none⟩ = some v2 ∧ w.cell? ⟨g, 3, none⟩ = some v3 ∧ w.cell? ⟨g, 4, none⟩ = some v4 ∧ w.cell? ⟨g, 5, none⟩ = some v5 ∧ w.frozen? ⟨g, 0, none⟩ = false ∧ w.frozen? ⟨g, 1, none⟩ = false ∧ w.frozen? ⟨g, 2, none⟩ = false ∧ w.frozen? ⟨g, 3, none⟩ = false ∧ w.frozen? ⟨g, 4, none⟩ = false ∧ w.frozen? ⟨g, 5, none⟩ = false :=
  ⟨(blk_cell h 0).trans rfl, (blk_cell h 1).trans rfl, (blk_cell h 2).trans rfl, (blk_cell h 3).trans rfl, (blk_cell h 4).trans rfl, (blk_cell h 5).trans rfl, blk_frozen h 0, blk_frozen h 1, blk_frozen h 2, blk_frozen h 3, blk_frozen h 4, blk_frozen h 5⟩
theorem put6 {w : World} {g t : Nat} {v0 v1 v2 v3 v4 v5 o0 o1 o2 o3 o4 o5 : Value} (h : w.heap[g]? = some (.cells #[o0, o1, o2, o3, o4, o5] t (0, 0))) : ((((((w.setCell ⟨g, 0, none⟩ v0).setCell ⟨g, 1, none⟩ v1).setCell ⟨g, 2, none⟩ v2).setCell ⟨g, 3, none⟩ v3).setCell ⟨g, 4, none⟩ v4).setCell ⟨g, 5, none⟩ v5).heap[g]? = some (.cells #[v0, v1, v2, v3, v4, v5] t (0, 0)) :=
  (blk_put (cs := #[v0, v1, v2, v3, v4, o5]) (blk_put (cs := #[v0, v1, v2, v3, o4, o5]) (blk_put (cs := #[v0, v1, v2, o3, o4, o5]) (blk_put (cs := #[v0, v1, o2, o3, o4, o5]) (blk_put (cs := #[v0, o1, o2, o3, o4, o5]) (blk_put (cs := #[o0, o1, o2, o3, o4, o5]) h 0 v0 rfl) 1 v1 rfl) 2 v2 rfl) 3 v3 rfl) 4 v4 rfl) 5 v5 rfl)
theorem c7 {w : World} {g t : Nat} {v0 v1 v2 v3 v4 v5 v6 : Value} (h : w.heap[g]? = some (.cells #[v0, v1, v2, v3, v4, v5, v6] t (0, 0))) : w.cell? ⟨g, 0, none⟩ = some v0 ∧ w.cell? ⟨g, 1, none⟩ = some v1 ∧ w.cell? ⟨g, 2, none⟩ = some v2 ∧ w.cell? ⟨g, 3, none⟩ = some v3 ∧ w.cell? ⟨g, 4, none⟩ = some v4 ∧ w.cell? ⟨g, 5, none⟩ = some v5 ∧ w.cell? ⟨g, 6, none⟩ = some v6 ∧ w.frozen? ⟨g, 0, none⟩ = false ∧ w.frozen? ⟨g, 1, none⟩ = false ∧ w.frozen? ⟨g, 2, none⟩ = false ∧ w.frozen? ⟨g, 3, none⟩ = false ∧ w.frozen? ⟨g, 4, none⟩ = false ∧ w.frozen? ⟨g, 5, none⟩ = false ∧ w.frozen? ⟨g, 6, none⟩ = false :=
  ⟨(blk_cell h 0).trans rfl, (blk_cell h 1).trans rfl, (blk_cell h 2).trans rfl, (blk_cell h 3).trans rfl, (blk_cell h 4).trans rfl, (blk_cell h 5).trans rfl, (blk_cell h 6).trans rfl, blk_frozen h 0, blk_frozen h 1, blk_frozen h 2, blk_frozen h 3, blk_frozen h 4, blk_frozen h 5, blk_frozen h 6⟩
theorem put7 {w : World} {g t : Nat} {v0 v1 v2 v3 v4 v5 v6 o0 o1 o2 o3 o4 o5 o6 : Value} (h : w.heap[g]? = some (.cells #[o0, o1, o2, o3, o4, o5, o6] t (0, 0))) : (((((((w.setCell ⟨g, 0, none⟩ v0).setCell ⟨g, 1, none⟩ v1).setCell ⟨g, 2, none⟩ v2).setCell ⟨g, 3, none⟩ v3).setCell ⟨g, 4, none⟩ v4).setCell ⟨g, 5, none⟩ v5).setCell ⟨g, 6, none⟩ v6).heap[g]? = some (.cells #[v0, v1, v2, v3, v4, v5, v6] t (0, 0)) :=
  (blk_put (cs := #[v0, v1, v2, v3, v4, v5, o6]) (blk_put (cs := #[v0, v1, v2, v3, v4, o5, o6]) (blk_put (cs := #[v0, v1, v2, v3, o4, o5, o6]) (blk_put (cs := #[v0, v1, v2, o3, o4, o5, o6]) (blk_put (cs := #[v0, v1, o2, o3, o4, o5, o6]) (blk_put (cs := #[v0, o1, o2, o3, o4, o5, o6]) (blk_put (cs := #[o0, o1, o2, o3, o4, o5, o6]) h 0 v0 rfl) 1 v1 rfl) 2 v2 rfl) 3 v3 rfl) 4 v4 rfl) 5 v5 rfl) 6 v6 rfl)
theorem c8 {w : World} {g t : Nat} {v0 v1 v2 v3 v4 v5 v6 v7 : Value} (h : w.heap[g]? = some (.cells #[v0, v1, v2, v3, v4, v5, v6, v7] t (0, 0))) : w.cell? ⟨g, 0, none⟩ = some v0 ∧ w.cell? ⟨g, 1, none⟩ = some v1 ∧ w.cell? ⟨g, 2, none⟩ = some v2 ∧ w.cell? ⟨g, 3, none⟩ = some v3 ∧ w.cell? ⟨g, 4, none⟩ = some v4 ∧ w.cell? ⟨g, 5, none⟩ = some v5 ∧ w.cell? ⟨g, 6, none⟩ = some v6 ∧ w.cell? ⟨g, 7, none⟩ = some v7 ∧ w.frozen? ⟨g, 0, none⟩ = false ∧ w.frozen? ⟨g, 1, none⟩ = false ∧ w.frozen? ⟨g, 2, none⟩ = false ∧ w.frozen? ⟨g, 3, none⟩ = false ∧ w.frozen? ⟨g, 4, none⟩ = false ∧ w.frozen? ⟨g, 5, none⟩ = false ∧ w.frozen? ⟨g, 6, none⟩ = false ∧ w.frozen? ⟨g, 7, none⟩ = false :=
  ⟨(blk_cell h 0).trans rfl, (blk_cell h 1).trans rfl, (blk_cell h 2).trans rfl, (blk_cell h 3).trans rfl, (blk_cell h 4).trans rfl, (blk_cell h 5).trans rfl, (blk_cell h 6).trans rfl, (blk_cell h 7).trans rfl, blk_frozen h 0, blk_frozen h 1, blk_frozen h 2, blk_frozen h 3, blk_frozen h 4, blk_frozen h 5, blk_frozen h 6, blk_frozen h 7⟩
theorem put8 {w : World} {g t : Nat} {v0 v1 v2 v3 v4 v5 v6 v7 o0 o1 o2 o3 o4 o5 o6 o7 : Value} (h : w.heap[g]? = some (.cells #[o0, o1, o2, o3, o4, o5, o6, o7] t (0, 0))) : ((((((((w.setCell ⟨g, 0, none⟩ v0).setCell ⟨g, 1, none⟩ v1).setCell ⟨g, 2, none⟩ v2).setCell ⟨g, 3, none⟩ v3).setCell ⟨g, 4, none⟩ v4).setCell ⟨g, 5, none⟩ v5).setCell ⟨g, 6, none⟩ v6).setCell ⟨g, 7, none⟩ v7).heap[g]? = some (.cells #[v0, v1, v2, v3, v4, v5, v6, v7] t (0, 0)) :=
  (blk_put (cs := #[v0, v1, v2, v3, v4, v5, v6, o7]) (blk_put (cs := #[v0, v1, v2, v3, v4, v5, o6, o7]) (blk_put (cs := #[v0, v1, v2, v3, v4, o5, o6, o7]) (blk_put (cs := #[v0, v1, v2, v3, o4, o5, o6, o7]) (blk_put (cs := #[v0, v1, v2, o3, o4, o5, o6, o7]) (blk_put (cs := #[v0, v1, o2, o3, o4, o5, o6, o7]) (blk_put (cs := #[v0, o1, o2, o3, o4, o5, o6, o7]) (blk_put (cs := #[o0, o1, o2, o3, o4, o5, o6, o7]) h 0 v0 rfl) 1 v1 rfl) 2 v2 rfl) 3 v3 rfl) 4 v4 rfl) 5 v5 rfl) 6 v6 rfl) 7 v7 rfl)
theorem cB {w w' : World} {a : Addr} {v : Value} (hB : Below w.heap.size w w') (h : w.cell? a = some v) : w'.cell? a = some v := (hB.cell (World.block_lt_of_cell? w _ h)).trans h
theorem Dz {p : Prop} [Decidable p] (h : decide p = true := by first | (with_reducible assumption) | assumption) : p := of_decide_eq_true h
end Go.Proofs.YtahfahlbdgbfeaaDoor.X.Sq

namespace Go.Proofs.Ho
open Go.RowKit Go.Proofs.YtahfahlbdgbfeaaDoorW.PrintWords Go.Proofs.YtahfahlbdgbfeaaDoorW.PrintLast
set_option linter.unusedVariables false
/-- What came by draws and by new blocks alone. -/
class Steps (w w' : World) : Prop where below : Below w.heap.size w w'
instance Steps.refl (w : World) : Steps w w := ⟨Below.refl _ _⟩
instance Steps.alloc (w w' : World) (o : Obj) [h : Steps w w'] : Steps w (w'.alloc o) := ⟨below_alloc h.below o⟩
instance Steps.drewN (w w' : World) (n : Nat) [h : Steps w w'] : Steps w (w'.drewN n) := ⟨pw_below_drewN h.below n⟩
instance Steps.drew (w w' : World) [h : Steps w w'] : Steps w w'.drew := ⟨below_drew h.below⟩
theorem bS {w w' : World} {g : Nat} {o : Obj} (h : w.heap[g]? = some o) [hs : Steps w w'] : w'.heap[g]? = some o := blk_below h hs.below
theorem eS {w W W' : World} (h : Below w.heap.size w W) [hs : Steps W W'] : Below w.heap.size w W' := below_then h h.size hs.below
theorem kS {w w1 w2 : World} {g : Nat} (h : KeepBut w w1 g none) [hs : Steps w1 w2] : KeepBut w w2 g none := KeepBut.trans h (KeepBut.of_below hs.below g none) (.inl rfl)
theorem KS {w w1 w2 : World} {S : Nat → Prop} (h : Kept w w1 S) [hs : Steps w1 w2] : Kept w w2 S := Kept.below h hs.below
section
variable {α : Type} {d : Kd α} {e base : Nat} {ok : Nat → Prop} {w w' : World} {v : Value} {xs : List α}
theorem RS (h : d.R e w base ok v xs) [hs : Steps w w'] : d.R e w' base ok v xs := Kd.R_below h hs.below
theorem SS (h : d.S e w base ok v xs) [hs : Steps w w'] : d.S e w' base ok v xs := Kd.S_below h hs.below
theorem QS (h : d.Q e w base ok v xs) [hs : Steps w w'] : d.Q e w' base ok v xs := Kd.Q_below h hs.below
theorem NS (h : Kd.N d e w base ok v xs) [hs : Steps w w'] : Kd.N d e w' base ok v xs := Kd.N_below h hs.below
theorem VS (h : Kd.V d e w base ok v xs) [hs : Steps w w'] : Kd.V d e w' base ok v xs := Kd.V_below h hs.below
end
def idxO {α : Type} (p : α → Option Bool) : List α → Int → Option Int
  | [], _ => some (-1)
  | x :: xs, i => (p x).bind fun b => if b = true then some i else idxO p xs (i + 1)
def hasO {α : Type} (p : α → Option Bool) (l : List α) : Option Bool := (idxO p l 0).bind fun i => some (decide (i ≥ 0))
def notO {α : Type} (p : α → Option Bool) (x : α) : Option Bool := (p x).bind fun b => some (!b)
def allO {α : Type} (p : α → Option Bool) (l : List α) : Option Bool := (hasO (notO p) l).bind fun b => some (!b)
/-- A function value that answers as p does, wherever all that lay in w lies unturned. -/
structure PredO {α : Type} (P : Program) (g : Nat) (lb : Array Value) (enc : α → Value) (p : α → Option Bool) (w : World) : Prop where
  calls : ∀ (W : World) (x : α) (b : Bool), Below w.heap.size w W → p x = some b → Calls P g (#[enc x] ++ lb) W fun e w' => e = .returned (.bool b) ∧ Below W.heap.size W w'
/-- The same of a method's value: rv is its receiver. -/
structure PredR {α : Type} (P : Program) (g : Nat) (rv : Value) (enc : α → Value) (p : α → Option Bool) (w : World) : Prop where
  calls : ∀ (W : World) (x : α) (b : Bool), Below w.heap.size w W → p x = some b → Calls P g #[rv, enc x] W fun e w' => e = .returned (.bool b) ∧ Below W.heap.size W w'
theorem PredR.below {α : Type} {P : Program} {g : Nat} {rv : Value} {enc : α → Value} {p : α → Option Bool} {w w1 : World} (h : PredR P g rv enc p w) (hb : Below w.heap.size w w1) : PredR P g rv enc p w1 :=
  ⟨fun W x b hW hx => h.calls W x b (below_then hb hb.size hW) hx⟩
theorem PredO.below {α : Type} {P : Program} {g : Nat} {lb : Array Value} {enc : α → Value} {p : α → Option Bool} {w w1 : World} (h : PredO P g lb enc p w) (hb : Below w.heap.size w w1) : PredO P g lb enc p w1 :=
  ⟨fun W x b hW hx => h.calls W x b (below_then hb hb.size hW) hx⟩
theorem idxO_step {α : Type} {p : α → Option Bool} {l : List α} {kk : Nat} {i r : Int} (h : idxO p (l.drop kk) i = some r) (hk : kk < l.length) (d : α) : ∃ b, p (l.getD kk d) = some b ∧ (b = true → r = i) ∧ (b = false → idxO p (l.drop (kk + 1)) (i + 1) = some r) := by
  rw [List.drop_eq_getElem_cons hk] at h
  simp only [idxO] at h
  obtain ⟨b, hb, h⟩ := Option.bind_eq_some_iff.mp h
  refine ⟨b, by simpa [List.getD_eq_getElem?_getD, List.getElem?_eq_getElem hk] using hb, fun hbt => ?_, fun hbf => ?_⟩
  · rw [if_pos hbt] at h; injection h with h; exact h.symm
  · rw [if_neg (by simp [hbf])] at h; exact h
theorem idxO_end {α : Type} {p : α → Option Bool} {l : List α} {kk : Nat} {i r : Int} (h : idxO p (l.drop kk) i = some r) (hk : l.length ≤ kk) : r = -1 := by
  rw [List.drop_eq_nil_of_le hk] at h
  simp only [idxO] at h
  injection h with h; exact h.symm
theorem hasO_of {α : Type} {p : α → Option Bool} {l : List α} {b : Bool} (h : hasO p l = some b) : ∃ i, idxO p l 0 = some i ∧ b = decide (i ≥ 0) := by
  obtain ⟨i, hi, h⟩ := Option.bind_eq_some_iff.mp h
  exact ⟨i, hi, (Option.some.inj h).symm⟩
theorem notO_of {α : Type} {p : α → Option Bool} {x : α} {b : Bool} (h : notO p x = some b) : p x = some (!b) := by
  obtain ⟨i, hi, h⟩ := Option.bind_eq_some_iff.mp h
  rw [hi, ← Option.some.inj h, Bool.not_not]
theorem allO_of {α : Type} {p : α → Option Bool} {l : List α} {b : Bool} (h : allO p l = some b) : hasO (notO p) l = some (!b) := by
  obtain ⟨i, hi, h⟩ := Option.bind_eq_some_iff.mp h
  rw [hi, ← Option.some.inj h, Bool.not_not]
theorem idxO_mono {α : Type} {p q : α → Option Bool} (h : ∀ x, LeO (p x) (q x)) : ∀ l i, LeO (idxO p l i) (idxO q l i)
  | [], _ => LeO.refl _
  | x :: xs, i => LeO.bind (h x) (fun b => LeO.ite (LeO.refl _) (idxO_mono h xs (i + 1)))
theorem hasO_mono {α : Type} {p q : α → Option Bool} (h : ∀ x, LeO (p x) (q x)) (l : List α) : LeO (hasO p l) (hasO q l) := LeO.bind (idxO_mono h l 0) (fun _ => LeO.refl _)
theorem notO_mono {α : Type} {p q : α → Option Bool} (h : ∀ x, LeO (p x) (q x)) (x : α) : LeO (notO p x) (notO q x) := LeO.bind (h x) (fun _ => LeO.refl _)
theorem allO_mono {α : Type} {p q : α → Option Bool} (h : ∀ x, LeO (p x) (q x)) (l : List α) : LeO (allO p l) (allO q l) := LeO.bind (hasO_mono (notO_mono h) l) (fun _ => LeO.refl _)
/-! what they say -/
theorem idxO_eq {α : Type} {p : α → Option Bool} {q : α → Bool} : ∀ {l : List α} {i : Int}, (∀ x ∈ l, p x = some (q x)) → idxO p l i = some (match l.findIdx? q with | some j => i + j | none => -1)
  | [], i, _ => rfl
  | x :: xs, i, h => by
    have ih := idxO_eq (l := xs) (i := i + 1) (fun y hy => h y (List.mem_cons_of_mem _ hy))
    simp only [idxO, h x List.mem_cons_self, Option.bind_some, List.findIdx?_cons]
    cases hq : q x
    · simp only [Bool.false_eq_true, if_false]
      rw [ih]
      cases xs.findIdx? q with
      | none => rfl
      | some j =>
        show some (i + 1 + (j : Int)) = some (i + ((j + 1 : Nat) : Int))
        rw [Int.natCast_add, Int.add_assoc, Int.add_comm 1 (j : Int)]; rfl
    · simp
theorem hasO_eq {α : Type} {p : α → Option Bool} {q : α → Bool} {l : List α} (h : ∀ x ∈ l, p x = some (q x)) : hasO p l = some (l.any q) := by
  unfold hasO
  rw [idxO_eq h]
  simp only [Option.bind_some, Option.some.injEq]
  cases hf : l.findIdx? q with
  | none =>
    rw [List.findIdx?_eq_none_iff] at hf
    have : l.any q = false := by simp only [List.any_eq_false]; intro x hx; simp [hf x hx]
    rw [this]; rfl
  | some j =>
    have hj := List.findIdx?_eq_some_iff_getElem.mp hf
    obtain ⟨hlt, hq, _⟩ := hj
    have : l.any q = true := List.any_eq_true.mpr ⟨_, List.getElem_mem hlt, hq⟩
    rw [this]; simp
theorem allO_eq {α : Type} {p : α → Option Bool} {q : α → Bool} {l : List α} (h : ∀ x ∈ l, p x = some (q x)) : allO p l = some (l.all q) := by
  unfold allO
  rw [hasO_eq (p := notO p) (q := fun x => !q x) (fun x hx => by unfold notO; rw [h x hx]; rfl)]
  simp [List.not_any_eq_all_not]
/-- what a store leaves is there as it was: asked first of all, lest one store is asked for another's sake -/
theorem isSome_setCell_ (w : World) (p q : Addr) (x : Value) : ((w.setCell p x).cell? q).isSome = (w.cell? q).isSome := by
  by_cases e : p = q
  · subst e
    unfold World.cell? World.setCell
    simp only [Array.getElem?_modify, if_true]
    cases hw : w.heap[p.block]? with
    | none => simp
    | some o =>
      cases o <;> simp
      rename_i c _ _
      cases hs : p.spot.isSome
      · by_cases h : p.off < c.size <;> simp [h]
      · simp
  · rw [World.cell?_setCell_other w p q x e]
/-! a call through a function value, in a region that draws -/
section
variable {P : Program} {ops : Array Oper} {Q : Exit → Act → World → Prop}
theorem goesv_ {oi : Oper} {N : Option Tmp} {a : Act} {w : World} {K : Act → World → Prop} {f : FuncId} {fn : Func} {c : Operand} {xas : Array Operand} {ts : Array TypeId} (hf : P.funcs[f]? = some fn) (hname : (fn.name == "runtime.NumGoroutine") = false) (hb : fn.body.isSome = true) (xs bs args : Array Value)
    (hw : Region.wanted oi (yielded ops a.tmps) = true) (hN : oi.dst = N) (hop : oi.op = .call { callee := .value c, args := xas, argTypes := ts }) (hc : a.eval c = .func (.func f) xs bs) (hargs : xs ++ xas.map a.eval ++ bs = args)
    (h : Calls P f args w fun e w' => ∃ v, e = .returned v ∧ K (a.put N v) w') : if Region.wanted oi (yielded ops a.tmps) = true then Oper.wp P oi a w K Q else K (a.put N undef) w := by
  refine call_ f args hw hN ?_ h
  have he := enters_ hf hname hb args w
  unfold execOp
  simp [hop, resolve, Deferred.ofValue, invoke, hc, hargs, he]
end
theorem Ak {p : Prop} (h : p) : Aside0 p := ⟨h⟩
theorem Cs {α : Type} {d : Kd α} {w w' : World} {A : Option Addr} {n : Nat} {xs : List α} (h : d.C w A n xs) [hs : Steps w w'] : d.C w' A n xs := Kd.C_below h hs.below
theorem Ct {α : Type} (d : Kd α) {e base : Nat} {ok : Nat → Prop} {w : World} {A : Option Addr} {n c m : Nat} {xs y : List α} (ey : y = xs.take m) (h : d.R e w base ok (.slice A n c) xs) (hm : m ≤ xs.length) : d.C w A y.length y := by
  subst ey; exact Kd.C_take (Kd.R_reads' h).2.2 hm
theorem Cd {α : Type} (d : Kd α) {e base : Nat} {ok : Nat → Prop} {w : World} {A A' : Option Addr} {n c m : Nat} {xs y : List α} (ey : y = xs.drop m) (ea : A' = if c = m then A else A.map (·.add (m * d.sz))) (h : d.R e w base ok (.slice A n c) xs) (hm : m ≤ xs.length) : d.C w A' y.length y := by
  subst ey ea; exact Kd.C_drop (Kd.R_reads' h).2.2 hm (by have := (Kd.R_reads' h).1; have := (Kd.R_reads' h).2.1; omega)
end Go.Proofs.Ho

namespace Go.Proofs.YtahfahlbdgbfeaaDoor.X
open Ho (bS eS)
open Go.RowKit Go.Proofs.YtahfahlbdgbfeaaDoorW.PrintWords Go.Proofs.YtahfahlbdgbfeaaDoorW.PrintLast Go.Proofs.YtahfahlbdgbfeaaDoorW.PrintMore
attribute [local go_sem] max2_int min2_int max_two min_two max_three min_three max_four min_four   -- for this text's walks alone
set_option linter.unusedVariables false
set_option linter.unusedSimpArgs false
def errW : Option Int → Value
  | none => .nilIface
  | some c => .iface 0 (.int .i64 c)
theorem errW_none : errW none = .nilIface := rfl
theorem errW_some (c : Int) : errW (some c) = .iface 0 (.int .i64 c) := rfl

theorem info3 : (Tryd.prog.info? 3).map (fun i => (i.zero, i.size, i.bytes)) = some (some (.int .i64 0), 1, 8) := by kernel_rfl
theorem info5 : (Tryd.prog.info? 5).map (fun i => (i.zero, i.size, i.bytes)) = some (some (.int .u8 0), 1, 1) := by kernel_rfl
theorem info9 : (Tryd.prog.info? 9).map (fun i => (i.zero, i.size, i.bytes)) = some (some (.string ⟨#[]⟩), 1, 16) := by kernel_rfl
theorem info41 : (Tryd.prog.info? 41).map (fun i => (i.zero, i.size, i.bytes)) = some (some (.agg #[(.int .i64 0), (.string ⟨#[]⟩), (.int .i64 0), (.int .i64 0), (.int .i64 0), (.int .i64 0), (.int .i64 0), (.int .i64 0)]), 8, 72) := by kernel_rfl
-- the values' own types
/-! #### struct type 38 -/
structure S38 where
  f0 : Int
  f1 : ByteArray
  f2 : Int
  f3 : Int
  f4 : Int
  f5 : Int
  f6 : Int
  f7 : Int
def z38 : S38 := ⟨(0 : Int), (⟨#[]⟩ : ByteArray), (0 : Int), (0 : Int), (0 : Int), (0 : Int), (0 : Int), (0 : Int)⟩
def k38 : Kd S38 := Kd.iso (Kd.pair (Kd.int .i64) (Kd.pair Kd.string (Kd.pair (Kd.int .i64) (Kd.pair (Kd.int .i64) (Kd.pair (Kd.int .i64) (Kd.pair (Kd.int .i64) (Kd.pair (Kd.int .i64) (Kd.int .i64)))))))) (fun x : S38 => (x.f0, x.f1, x.f2, x.f3, x.f4, x.f5, x.f6, x.f7))
theorem k38_open {w : World} {x : S38} {cs : List Value} (h : k38.K w x cs) : cs = [.int .i64 x.f0, .string x.f1, .int .i64 x.f2, .int .i64 x.f3, .int .i64 x.f4, .int .i64 x.f5, .int .i64 x.f6, .int .i64 x.f7] := by
  obtain ⟨_, _, rfl, rfl, ⟨_, _, rfl, rfl, ⟨_, _, rfl, rfl, ⟨_, _, rfl, rfl, ⟨_, _, rfl, rfl, ⟨_, _, rfl, rfl, ⟨_, _, rfl, rfl, rfl⟩⟩⟩⟩⟩⟩⟩ := h
  exact rfl
theorem k38_openM {w : World} {base : Nat} {ok : Nat → Prop} {x : S38} {cs : List Value} (h : k38.M w base ok x cs) : cs = [.int .i64 x.f0, .string x.f1, .int .i64 x.f2, .int .i64 x.f3, .int .i64 x.f4, .int .i64 x.f5, .int .i64 x.f6, .int .i64 x.f7] := by
  obtain ⟨_, _, rfl, rfl, ⟨_, _, rfl, rfl, ⟨_, _, rfl, rfl, ⟨_, _, rfl, rfl, ⟨_, _, rfl, rfl, ⟨_, _, rfl, rfl, ⟨_, _, rfl, rfl, rfl⟩⟩⟩⟩⟩⟩⟩ := h
  exact rfl
theorem k38_mk (w : World) (x : S38)  : k38.K w x [.int .i64 x.f0, .string x.f1, .int .i64 x.f2, .int .i64 x.f3, .int .i64 x.f4, .int .i64 x.f5, .int .i64 x.f6, .int .i64 x.f7] := ⟨[.int .i64 x.f0], [.string x.f1, .int .i64 x.f2, .int .i64 x.f3, .int .i64 x.f4, .int .i64 x.f5, .int .i64 x.f6, .int .i64 x.f7], rfl, rfl, ⟨[.string x.f1], [.int .i64 x.f2, .int .i64 x.f3, .int .i64 x.f4, .int .i64 x.f5, .int .i64 x.f6, .int .i64 x.f7], rfl, rfl, ⟨[.int .i64 x.f2], [.int .i64 x.f3, .int .i64 x.f4, .int .i64 x.f5, .int .i64 x.f6, .int .i64 x.f7], rfl, rfl, ⟨[.int .i64 x.f3], [.int .i64 x.f4, .int .i64 x.f5, .int .i64 x.f6, .int .i64 x.f7], rfl, rfl, ⟨[.int .i64 x.f4], [.int .i64 x.f5, .int .i64 x.f6, .int .i64 x.f7], rfl, rfl, ⟨[.int .i64 x.f5], [.int .i64 x.f6, .int .i64 x.f7], rfl, rfl, ⟨[.int .i64 x.f6], [.int .i64 x.f7], rfl, rfl, rfl⟩⟩⟩⟩⟩⟩⟩
theorem k38_mkM (w : World) (base : Nat) (ok : Nat → Prop) (x : S38)  : k38.M w base ok x [.int .i64 x.f0, .string x.f1, .int .i64 x.f2, .int .i64 x.f3, .int .i64 x.f4, .int .i64 x.f5, .int .i64 x.f6, .int .i64 x.f7] := ⟨[.int .i64 x.f0], [.string x.f1, .int .i64 x.f2, .int .i64 x.f3, .int .i64 x.f4, .int .i64 x.f5, .int .i64 x.f6, .int .i64 x.f7], rfl, rfl, ⟨[.string x.f1], [.int .i64 x.f2, .int .i64 x.f3, .int .i64 x.f4, .int .i64 x.f5, .int .i64 x.f6, .int .i64 x.f7], rfl, rfl, ⟨[.int .i64 x.f2], [.int .i64 x.f3, .int .i64 x.f4, .int .i64 x.f5, .int .i64 x.f6, .int .i64 x.f7], rfl, rfl, ⟨[.int .i64 x.f3], [.int .i64 x.f4, .int .i64 x.f5, .int .i64 x.f6, .int .i64 x.f7], rfl, rfl, ⟨[.int .i64 x.f4], [.int .i64 x.f5, .int .i64 x.f6, .int .i64 x.f7], rfl, rfl, ⟨[.int .i64 x.f5], [.int .i64 x.f6, .int .i64 x.f7], rfl, rfl, ⟨[.int .i64 x.f6], [.int .i64 x.f7], rfl, rfl, rfl⟩⟩⟩⟩⟩⟩⟩
def rd_T38 (xs : List S38) (i : Int) : S38 := xs.getD i.toNat z38
theorem at_T38 {w : World} {A : Option Addr} {n : Nat} {xs : List S38} (h : Kd.C k38 w A n xs) (i : Int) (h0 : 0 ≤ i) (h1 : i < n) : ∃ ad , A = some ad ∧ w.cell? (ad.add (i.toNat * 8)) = some (.int .i64 (rd_T38 xs i).f0) ∧ w.cell? ⟨(ad.add (i.toNat * 8)).block, (ad.add (i.toNat * 8)).off + 1, none⟩ = some (.string (rd_T38 xs i).f1) ∧ w.cell? ⟨(ad.add (i.toNat * 8)).block, (ad.add (i.toNat * 8)).off + 2, none⟩ = some (.int .i64 (rd_T38 xs i).f2) ∧ w.cell? ⟨(ad.add (i.toNat * 8)).block, (ad.add (i.toNat * 8)).off + 3, none⟩ = some (.int .i64 (rd_T38 xs i).f3) ∧ w.cell? ⟨(ad.add (i.toNat * 8)).block, (ad.add (i.toNat * 8)).off + 4, none⟩ = some (.int .i64 (rd_T38 xs i).f4) ∧ w.cell? ⟨(ad.add (i.toNat * 8)).block, (ad.add (i.toNat * 8)).off + 5, none⟩ = some (.int .i64 (rd_T38 xs i).f5) ∧ w.cell? ⟨(ad.add (i.toNat * 8)).block, (ad.add (i.toNat * 8)).off + 6, none⟩ = some (.int .i64 (rd_T38 xs i).f6) ∧ w.cell? ⟨(ad.add (i.toNat * 8)).block, (ad.add (i.toNat * 8)).off + 7, none⟩ = some (.int .i64 (rd_T38 xs i).f7) := by
  obtain ⟨ad, c, e, _, hK, hc0⟩ := Kd.C_get h z38 i h0 h1
  have hc : ∀ j u, c[j]? = some u → w.cell? (ad.add (i.toNat * 8 + j)) = some u := hc0
  obtain rfl := k38_open hK
  exact ⟨ad, e, hc 0 _ rfl, by rw [← add_field _ _ 1 (by omega)]; exact hc 1 _ rfl, by rw [← add_field _ _ 2 (by omega)]; exact hc 2 _ rfl, by rw [← add_field _ _ 3 (by omega)]; exact hc 3 _ rfl, by rw [← add_field _ _ 4 (by omega)]; exact hc 4 _ rfl, by rw [← add_field _ _ 5 (by omega)]; exact hc 5 _ rfl, by rw [← add_field _ _ 6 (by omega)]; exact hc 6 _ rfl, by rw [← add_field _ _ 7 (by omega)]; exact hc 7 _ rfl⟩

/-! #### struct type 41 -/
structure S41 where
  f0 : Int
  f1 : ByteArray
  f2 : Int
  f3 : Int
  f4 : Int
  f5 : Int
  f6 : Int
  f7 : Int
def z41 : S41 := ⟨(0 : Int), (⟨#[]⟩ : ByteArray), (0 : Int), (0 : Int), (0 : Int), (0 : Int), (0 : Int), (0 : Int)⟩
def k41 : Kd S41 := Kd.iso (Kd.pair (Kd.int .i64) (Kd.pair Kd.string (Kd.pair (Kd.int .i64) (Kd.pair (Kd.int .i64) (Kd.pair (Kd.int .i64) (Kd.pair (Kd.int .i64) (Kd.pair (Kd.int .i64) (Kd.int .i64)))))))) (fun x : S41 => (x.f0, x.f1, x.f2, x.f3, x.f4, x.f5, x.f6, x.f7))
theorem k41_open {w : World} {x : S41} {cs : List Value} (h : k41.K w x cs) : cs = [.int .i64 x.f0, .string x.f1, .int .i64 x.f2, .int .i64 x.f3, .int .i64 x.f4, .int .i64 x.f5, .int .i64 x.f6, .int .i64 x.f7] := by
  obtain ⟨_, _, rfl, rfl, ⟨_, _, rfl, rfl, ⟨_, _, rfl, rfl, ⟨_, _, rfl, rfl, ⟨_, _, rfl, rfl, ⟨_, _, rfl, rfl, ⟨_, _, rfl, rfl, rfl⟩⟩⟩⟩⟩⟩⟩ := h
  exact rfl
theorem k41_openM {w : World} {base : Nat} {ok : Nat → Prop} {x : S41} {cs : List Value} (h : k41.M w base ok x cs) : cs = [.int .i64 x.f0, .string x.f1, .int .i64 x.f2, .int .i64 x.f3, .int .i64 x.f4, .int .i64 x.f5, .int .i64 x.f6, .int .i64 x.f7] := by
  obtain ⟨_, _, rfl, rfl, ⟨_, _, rfl, rfl, ⟨_, _, rfl, rfl, ⟨_, _, rfl, rfl, ⟨_, _, rfl, rfl, ⟨_, _, rfl, rfl, ⟨_, _, rfl, rfl, rfl⟩⟩⟩⟩⟩⟩⟩ := h
  exact rfl
theorem k41_mk (w : World) (x : S41)  : k41.K w x [.int .i64 x.f0, .string x.f1, .int .i64 x.f2, .int .i64 x.f3, .int .i64 x.f4, .int .i64 x.f5, .int .i64 x.f6, .int .i64 x.f7] := ⟨[.int .i64 x.f0], [.string x.f1, .int .i64 x.f2, .int .i64 x.f3, .int .i64 x.f4, .int .i64 x.f5, .int .i64 x.f6, .int .i64 x.f7], rfl, rfl, ⟨[.string x.f1], [.int .i64 x.f2, .int .i64 x.f3, .int .i64 x.f4, .int .i64 x.f5, .int .i64 x.f6, .int .i64 x.f7], rfl, rfl, ⟨[.int .i64 x.f2], [.int .i64 x.f3, .int .i64 x.f4, .int .i64 x.f5, .int .i64 x.f6, .int .i64 x.f7], rfl, rfl, ⟨[.int .i64 x.f3], [.int .i64 x.f4, .int .i64 x.f5, .int .i64 x.f6, .int .i64 x.f7], rfl, rfl, ⟨[.int .i64 x.f4], [.int .i64 x.f5, .int .i64 x.f6, .int .i64 x.f7], rfl, rfl, ⟨[.int .i64 x.f5], [.int .i64 x.f6, .int .i64 x.f7], rfl, rfl, ⟨[.int .i64 x.f6], [.int .i64 x.f7], rfl, rfl, rfl⟩⟩⟩⟩⟩⟩⟩
theorem k41_mkM (w : World) (base : Nat) (ok : Nat → Prop) (x : S41)  : k41.M w base ok x [.int .i64 x.f0, .string x.f1, .int .i64 x.f2, .int .i64 x.f3, .int .i64 x.f4, .int .i64 x.f5, .int .i64 x.f6, .int .i64 x.f7] := ⟨[.int .i64 x.f0], [.string x.f1, .int .i64 x.f2, .int .i64 x.f3, .int .i64 x.f4, .int .i64 x.f5, .int .i64 x.f6, .int .i64 x.f7], rfl, rfl, ⟨[.string x.f1], [.int .i64 x.f2, .int .i64 x.f3, .int .i64 x.f4, .int .i64 x.f5, .int .i64 x.f6, .int .i64 x.f7], rfl, rfl, ⟨[.int .i64 x.f2], [.int .i64 x.f3, .int .i64 x.f4, .int .i64 x.f5, .int .i64 x.f6, .int .i64 x.f7], rfl, rfl, ⟨[.int .i64 x.f3], [.int .i64 x.f4, .int .i64 x.f5, .int .i64 x.f6, .int .i64 x.f7], rfl, rfl, ⟨[.int .i64 x.f4], [.int .i64 x.f5, .int .i64 x.f6, .int .i64 x.f7], rfl, rfl, ⟨[.int .i64 x.f5], [.int .i64 x.f6, .int .i64 x.f7], rfl, rfl, ⟨[.int .i64 x.f6], [.int .i64 x.f7], rfl, rfl, rfl⟩⟩⟩⟩⟩⟩⟩
def rd_T41 (xs : List S41) (i : Int) : S41 := xs.getD i.toNat z41
theorem at_T41 {w : World} {A : Option Addr} {n : Nat} {xs : List S41} (h : Kd.C k41 w A n xs) (i : Int) (h0 : 0 ≤ i) (h1 : i < n) : ∃ ad , A = some ad ∧ w.cell? (ad.add (i.toNat * 8)) = some (.int .i64 (rd_T41 xs i).f0) ∧ w.cell? ⟨(ad.add (i.toNat * 8)).block, (ad.add (i.toNat * 8)).off + 1, none⟩ = some (.string (rd_T41 xs i).f1) ∧ w.cell? ⟨(ad.add (i.toNat * 8)).block, (ad.add (i.toNat * 8)).off + 2, none⟩ = some (.int .i64 (rd_T41 xs i).f2) ∧ w.cell? ⟨(ad.add (i.toNat * 8)).block, (ad.add (i.toNat * 8)).off + 3, none⟩ = some (.int .i64 (rd_T41 xs i).f3) ∧ w.cell? ⟨(ad.add (i.toNat * 8)).block, (ad.add (i.toNat * 8)).off + 4, none⟩ = some (.int .i64 (rd_T41 xs i).f4) ∧ w.cell? ⟨(ad.add (i.toNat * 8)).block, (ad.add (i.toNat * 8)).off + 5, none⟩ = some (.int .i64 (rd_T41 xs i).f5) ∧ w.cell? ⟨(ad.add (i.toNat * 8)).block, (ad.add (i.toNat * 8)).off + 6, none⟩ = some (.int .i64 (rd_T41 xs i).f6) ∧ w.cell? ⟨(ad.add (i.toNat * 8)).block, (ad.add (i.toNat * 8)).off + 7, none⟩ = some (.int .i64 (rd_T41 xs i).f7) := by
  obtain ⟨ad, c, e, _, hK, hc0⟩ := Kd.C_get h z41 i h0 h1
  have hc : ∀ j u, c[j]? = some u → w.cell? (ad.add (i.toNat * 8 + j)) = some u := hc0
  obtain rfl := k41_open hK
  exact ⟨ad, e, hc 0 _ rfl, by rw [← add_field _ _ 1 (by omega)]; exact hc 1 _ rfl, by rw [← add_field _ _ 2 (by omega)]; exact hc 2 _ rfl, by rw [← add_field _ _ 3 (by omega)]; exact hc 3 _ rfl, by rw [← add_field _ _ 4 (by omega)]; exact hc 4 _ rfl, by rw [← add_field _ _ 5 (by omega)]; exact hc 5 _ rfl, by rw [← add_field _ _ 6 (by omega)]; exact hc 6 _ rfl, by rw [← add_field _ _ 7 (by omega)]; exact hc 7 _ rfl⟩

def rd_L5 (xs : List (List S38)) (i : Int) : (List S38) := xs.getD i.toNat ([] : List S38)
theorem at_L5 {w : World} {A : Option Addr} {n : Nat} {xs : List (List S38)} (h : Kd.C (Kd.slice 38 k38) w A n xs) (i : Int) (h0 : 0 ≤ i) (h1 : i < n) : ∃ ad A0 c0, A = some ad ∧ w.cell? (ad.add i.toNat) = some (.slice A0 (rd_L5 xs i).length c0) ∧ (rd_L5 xs i).length ≤ c0 ∧ k38.C w A0 (rd_L5 xs i).length (rd_L5 xs i) := by
  obtain ⟨ad, c, e, _, hK, hc0⟩ := Kd.C_get h ([] : List S38) i h0 h1
  have hc : ∀ j u, c[j]? = some u → w.cell? (ad.add (i.toNat * 1 + j)) = some u := hc0
  obtain ⟨A0, c0, rfl, l0, g0⟩ := hK
  exact ⟨ad, A0, c0, e, by have hq := hc 0 _ rfl; rwa [Nat.mul_one, Nat.add_zero] at hq, l0, g0⟩
end Go.Proofs.YtahfahlbdgbfeaaDoor.X

namespace Go.Proofs.Open
open Go.RowKit Go.WideShapes Go.Proofs.YtahfahlbdgbfeaaDoorW.PrintWords
set_option linter.unusedVariables false
theorem mapM_cons_some {α β : Type} {f : α → Option β} {a : α} {l : List α} {ys : List β} (h : (a :: l).mapM f = some ys) : ∃ y ys', f a = some y ∧ l.mapM f = some ys' ∧ ys = y :: ys' := by
  rw [List.mapM_cons] at h
  obtain ⟨y, hy, h⟩ := Option.bind_eq_some_iff.mp h
  obtain ⟨ys', hys, h⟩ := Option.bind_eq_some_iff.mp h
  exact ⟨y, ys', hy, hys, (Option.some.inj h).symm⟩
theorem mapM_some_get {α β : Type} {f : α → Option β} : ∀ {l : List α} {ys : List β}, l.mapM f = some ys → ys.length = l.length ∧ ∀ (i : Nat) (a : α), l[i]? = some a → ∃ y, f a = some y ∧ ys[i]? = some y
  | [], ys, h => by
    obtain rfl : ys = [] := by simpa using h
    exact ⟨rfl, fun i a h => by simp at h⟩
  | a :: l, ys, h => by
    obtain ⟨y, ys', hy, hys, rfl⟩ := mapM_cons_some h
    obtain ⟨hl, hg⟩ := mapM_some_get hys
    refine ⟨by simp [hl], fun i b hb => ?_⟩
    cases i with
    | zero => obtain rfl : a = b := by simpa using hb
              exact ⟨y, hy, rfl⟩
    | succ i => exact hg i b (by simpa using hb)
theorem cells_get {w : World} {base n : Nat} {a : Addr} {cs : List Value} (h : w.cells? base a n = some cs) : cs.length = n ∧ ∀ i u, cs[i]? = some u → w.cell? (a.add i) = some u := by
  unfold World.cells? at h
  split at h
  · obtain ⟨hl, hg⟩ := mapM_some_get h
    rw [List.length_range] at hl
    refine ⟨hl, fun i u hu => ?_⟩
    have hi : i < n := by have := (List.getElem?_eq_some_iff.1 hu).1; omega
    obtain ⟨y, hy, hy2⟩ := hg i i (by simp [List.getElem?_range hi])
    rw [hu] at hy2
    injection hy2 with hy2
    rw [hy2]; exact hy
  · cases h
theorem add_add (a : Addr) (i j : Nat) : (a.add i).add j = a.add (i + j) := by
  by_cases hi : i = 0
  · subst hi
    rw [Nat.zero_add, show a.add 0 = a by unfold Addr.add; simp]
  · by_cases hj : j = 0
    · subst hj
      rw [Nat.add_zero, show (a.add i).add 0 = a.add i by unfold Addr.add; simp]
    · unfold Addr.add
      simp [hi, hj, Nat.add_assoc]
/-- Whatever reads as a datum of type t is an x of kind d, within ok. -/
structure Opens {α : Type} (P : Program) (W : World) (t : TypeId) (d : Kd α) (ok : α → Prop) : Prop where
  get : ∀ {H : Type} (enc : TypeId × Value → H) (base : Nat) (spare : Nat → Bool) (held : Bool) (fuel : Nat) (cs : List Value) (y : DataW H × List MemPlace), DataW.trod enc P W base spare held fuel t cs = some y → ∃ x, d.K W x cs ∧ ok x
theorem Opens.int {P : Program} {W : World} {t : TypeId} {k : IntKind} (hu : P.underlying t = some (.int k)) : Opens P W t (Kd.int k) (fun x => (Lit.int k x).wf = true) := ⟨by
  intro H enc base spare held fuel cs y h
  cases fuel with
  | zero => simp [DataW.trod] at h
  | succ fuel =>
    simp only [DataW.trod, hu] at h
    split at h <;> first | (cases h; done) | skip
    all_goals rename_i heq
    all_goals first | (cases heq; done) | skip
    rename_i k0 k' n
    injection heq with heq
    injection heq with heq
    subst heq
    split at h
    · rename_i hk
      obtain ⟨rfl, hw⟩ := hk
      exact ⟨n, rfl, hw⟩
    · cases h⟩
theorem Opens.bool {P : Program} {W : World} {t : TypeId} (hu : P.underlying t = some .bool) : Opens P W t Kd.bool (fun _ => True) := ⟨by
  intro H enc base spare held fuel cs y h
  cases fuel with
  | zero => simp [DataW.trod] at h
  | succ fuel =>
    simp only [DataW.trod, hu] at h
    split at h <;> first | (cases h; done) | skip
    all_goals rename_i heq
    all_goals first | (cases heq; done) | skip
    rename_i b
    exact ⟨b, rfl, trivial⟩⟩
theorem Opens.string {P : Program} {W : World} {t : TypeId} (hu : P.underlying t = some .string) : Opens P W t Kd.string (fun s => s.size ≤ 9223372036854775807) := ⟨by
  intro H enc base spare held fuel cs y h
  cases fuel with
  | zero => simp [DataW.trod] at h
  | succ fuel =>
    simp only [DataW.trod, hu] at h
    split at h <;> first | (cases h; done) | skip
    all_goals rename_i heq
    all_goals first | (cases heq; done) | skip
    rename_i s
    split at h
    · rename_i hs
      exact ⟨s, rfl, by simpa [maxLen] using hs⟩
    · cases h⟩
theorem pick {α : Type} {n : Nat} {Q : Nat → α → Prop} (h : ∀ i, i < n → ∃ x, Q i x) : ∃ xs : List α, xs.length = n ∧ ∀ i x, xs[i]? = some x → Q i x := by
  induction n with
  | zero => exact ⟨[], rfl, fun i x h => by simp at h⟩
  | succ n ih =>
    obtain ⟨xs, hl, hq⟩ := ih (fun i hi => h i (by omega))
    obtain ⟨x, hx⟩ := h n (by omega)
    refine ⟨xs ++ [x], by simp [hl], fun i z hz => ?_⟩
    by_cases hi : i < n
    · rw [List.getElem?_append_left (by omega)] at hz
      exact hq i z hz
    · have hlt := (List.getElem?_eq_some_iff.1 hz).1
      simp [hl] at hlt
      obtain rfl : i = n := by omega
      rw [List.getElem?_append_right (by omega), hl, Nat.sub_self] at hz
      obtain rfl : x = z := by simpa using hz
      exact hx
theorem Opens.slice {α : Type} {P : Program} {W : World} {t e : TypeId} {d : Kd α} {ok : α → Prop} (hu : P.underlying t = some (.slice e)) (hc : P.cellsOf e = d.sz) (h : Opens P W e d ok) :
    Opens P W t (Kd.slice e d) (fun l => l.length ≤ 9223372036854775807 ∧ ∀ x ∈ l, ok x) := ⟨by
  intro H enc base spare held fuel cs y hd
  cases fuel with
  | zero => simp [DataW.trod] at hd
  | succ fuel =>
    simp only [DataW.trod, hu] at hd
    split at hd <;> first | (cases hd; done) | skip
    all_goals rename_i heq
    all_goals first | (cases heq; done) | skip
    · exact ⟨[], ⟨none, 0, rfl, Nat.le_refl _, rfl, by simp, fun hp => absurd hp (by simp)⟩, by simp, fun x hx => by simp at hx⟩
    · rename_i e' a len cap
      injection heq with heq
      injection heq with heq
      subst heq
      split at hd
      · rename_i hb
        obtain ⟨hb1, hb2, hb3⟩ := hb
        obtain ⟨elems, hel, _⟩ := Option.bind_eq_some_iff.mp hd
        obtain ⟨hl, hg⟩ := mapM_some_get hel
        rw [List.length_range] at hl
        have hm : len ≤ 9223372036854775807 := by have : cap ≤ 9223372036854775807 := by simpa [maxLen] using hb3
                                                  omega
        obtain ⟨xs, hxl, hxs⟩ := pick (n := len) (Q := fun i x => ∃ c, c.length = d.sz ∧ d.K W x c ∧ ok x ∧ ∀ j u, c[j]? = some u → W.cell? (a.add (i * d.sz + j)) = some u) (fun i hi => by
          obtain ⟨z, hz, _⟩ := hg i i (by simp [List.getElem?_range hi])
          obtain ⟨c, hcc, hct⟩ := Option.bind_eq_some_iff.mp hz
          obtain ⟨x, hK, hok⟩ := h.get enc base spare held fuel c z hct
          obtain ⟨hcl, hcell⟩ := cells_get hcc
          refine ⟨x, c, by rw [hcl, hc], hK, hok, fun j u hu => ?_⟩
          have := hcell j u hu
          rw [add_add, hc] at this
          exact this)
        refine ⟨xs, ⟨some a, cap, by rw [hxl], by omega, rfl, by omega, fun _ => ⟨a, rfl, fun j p hj => ?_⟩⟩, by omega, fun x hx => ?_⟩
        · obtain ⟨c, h1, h2, h3, h4⟩ := hxs j p hj
          exact ⟨c, h1, h2, h4⟩
        · obtain ⟨j, hj, rfl⟩ := List.mem_iff_getElem.mp hx
          obtain ⟨c, h1, h2, h3, h4⟩ := hxs j _ (List.getElem?_eq_getElem hj)
          exact h3
      · cases hd⟩
/-- The fields from an offset on. -/
structure OpensAt {α : Type} (P : Program) (W : World) (fs : List Field) (off : Nat) (d : Kd α) (ok : α → Prop) : Prop where
  get : ∀ {H : Type} (enc : TypeId × Value → H) (base : Nat) (spare : Nat → Bool) (held : Bool) (fuel : Nat) (cs : List Value) (ys : List (DataW H × List MemPlace)), cs.length = off + d.sz →
    (fs.mapM fun f => DataW.trod enc P W base spare held fuel f.type ((cs.drop f.offset).take (P.cellsOf f.type))) = some ys → ∃ x, d.K W x (cs.drop off) ∧ ok x
theorem OpensAt.one {α : Type} {P : Program} {W : World} {f : Field} {off : Nat} {d : Kd α} {ok : α → Prop} (ho : f.offset = off) (hc : P.cellsOf f.type = d.sz) (h : Opens P W f.type d ok) : OpensAt P W [f] off d ok := ⟨by
  intro H enc base spare held fuel cs ys hl hm
  obtain ⟨y, _, hy, _, _⟩ := mapM_cons_some hm
  rw [ho, hc, List.take_of_length_le (by rw [List.length_drop]; omega)] at hy
  exact h.get enc base spare held fuel _ y hy⟩
theorem OpensAt.cons {α β : Type} {P : Program} {W : World} {f : Field} {fs : List Field} {off : Nat} {d : Kd α} {d2 : Kd β} {ok : α → Prop} {ok2 : β → Prop} (ho : f.offset = off) (hc : P.cellsOf f.type = d.sz) (h : Opens P W f.type d ok) (h2 : OpensAt P W fs (off + d.sz) d2 ok2) :
    OpensAt P W (f :: fs) off (Kd.pair d d2) (fun x => ok x.1 ∧ ok2 x.2) := ⟨by
  intro H enc base spare held fuel cs ys hl hm
  have hl2 : cs.length = off + (d.sz + d2.sz) := hl
  obtain ⟨y, ys', hy, hys, _⟩ := mapM_cons_some hm
  rw [ho, hc] at hy
  obtain ⟨x, hK, hok⟩ := h.get enc base spare held fuel _ y hy
  obtain ⟨x2, hK2, hok2⟩ := h2.get enc base spare held fuel cs ys' (by omega) hys
  refine ⟨(x, x2), ⟨(cs.drop off).take d.sz, cs.drop (off + d.sz), ?_, hK, hK2⟩, hok, hok2⟩
  rw [← List.drop_drop, List.take_append_drop]⟩
theorem Opens.struct {α : Type} {P : Program} {W : World} {t : TypeId} {fs : Array Field} {d : Kd α} {ok : α → Prop} (hu : P.underlying t = some (.struct fs)) (hc : P.cellsOf t = d.sz) (h : OpensAt P W fs.toList 0 d ok) : Opens P W t d ok := ⟨by
  intro H enc base spare held fuel cs y hd
  cases fuel with
  | zero => simp [DataW.trod] at hd
  | succ fuel =>
    simp only [DataW.trod, hu] at hd
    split at hd
    · rename_i hl
      obtain ⟨ys, hys, _⟩ := Option.map_eq_some_iff.mp hd
      exact h.get enc base spare held fuel cs ys (by omega) hys
    · cases hd⟩
theorem Opens.iso {α β : Type} {P : Program} {W : World} {t : TypeId} {d : Kd α} {f : β → α} {ok : α → Prop} (h : Opens P W t d ok) (g : α → β) (hg : ∀ x, f (g x) = x) : Opens P W t (Kd.iso d f) (fun y => ok (f y)) := ⟨by
  intro H enc base spare held fuel cs y hd
  obtain ⟨x, hK, hok⟩ := h.get enc base spare held fuel cs y hd
  refine ⟨g x, ?_, ?_⟩
  · show d.K W (f (g x)) cs
    rw [hg]; exact hK
  · rw [hg]; exact hok⟩
theorem wf_i64 {x : Int} (h : (Lit.int .i64 x).wf = true) : -9223372036854775808 ≤ x ∧ x ≤ 9223372036854775807 := by
  have h1 := h
  simp [Lit.wf] at h1
  exact ⟨h1.1, h1.2⟩
end Go.Proofs.Open

namespace Go.Proofs.YtahfahlbdgbfeaaDoor.X
open Ho (bS eS)
open Go.RowKit Go.Proofs.YtahfahlbdgbfeaaDoorW.PrintWords Go.Proofs.YtahfahlbdgbfeaaDoorW.PrintLast Go.Proofs.YtahfahlbdgbfeaaDoorW.PrintMore
attribute [local go_sem] max2_int min2_int max_two min_two max_three min_three max_four min_four   -- for this text's walks alone
set_option linter.unusedVariables false
set_option linter.unusedSimpArgs false
def ok38 (x : S38) : Prop := (Lit.int .i64 x.f0).wf = true ∧ x.f1.size ≤ 9223372036854775807 ∧ (Lit.int .i64 x.f2).wf = true ∧ (Lit.int .i64 x.f3).wf = true ∧ (Lit.int .i64 x.f4).wf = true ∧ (Lit.int .i64 x.f5).wf = true ∧ (Lit.int .i64 x.f6).wf = true ∧ (Lit.int .i64 x.f7).wf = true
theorem opens38 (W : World) : Open.Opens Tryd.prog W 38 k38 ok38 := ⟨fun enc base spare held fuel cs y h => by
  obtain ⟨x, hK, hok⟩ := (Open.Opens.iso (f := fun x : S38 => (x.f0, x.f1, x.f2, x.f3, x.f4, x.f5, x.f6, x.f7)) (Open.Opens.struct Tryd.underlying38 (by kernel_rfl) (Open.OpensAt.cons rfl (by kernel_rfl) (Open.Opens.int Tryd.underlying3) (Open.OpensAt.cons rfl (by kernel_rfl) (Open.Opens.string Tryd.underlying9) (Open.OpensAt.cons rfl (by kernel_rfl) (Open.Opens.int Tryd.underlying3) (Open.OpensAt.cons rfl (by kernel_rfl) (Open.Opens.int Tryd.underlying3) (Open.OpensAt.cons rfl (by kernel_rfl) (Open.Opens.int Tryd.underlying3) (Open.OpensAt.cons rfl (by kernel_rfl) (Open.Opens.int Tryd.underlying3) (Open.OpensAt.cons rfl (by kernel_rfl) (Open.Opens.int Tryd.underlying3) (Open.OpensAt.one rfl (by kernel_rfl) (Open.Opens.int Tryd.underlying3)))))))))) (fun x => ⟨x.1, x.2.1, x.2.2.1, x.2.2.2.1, x.2.2.2.2.1, x.2.2.2.2.2.1, x.2.2.2.2.2.2.1, x.2.2.2.2.2.2.2⟩) (fun x => rfl)).get enc base spare held fuel cs y h
  exact ⟨x, hK, hok⟩⟩
end Go.Proofs.YtahfahlbdgbfeaaDoor.X

namespace Go.Proofs.YtahfahlbdgbfeaaDoor.X
open Ho (bS eS RS Ak Cs Ct Cd)
open Go.RowKit Go.Proofs.YtahfahlbdgbfeaaDoorW.PrintWords Go.Proofs.YtahfahlbdgbfeaaDoorW.PrintLast Go.Proofs.YtahfahlbdgbfeaaDoorW.PrintMore
attribute [local go_sem] max2_int min2_int max_two min_two max_three min_three max_four min_four   -- for this text's walks alone
set_option linter.unusedVariables false
set_option linter.unusedSimpArgs false
open Sq (I O Z Dz)
attribute [local go_sem ↓] Ho.isSome_setCell_   -- a store leaves all places there
/-! ### Fx: function 72 -/
def Fx.f (a0_0 : Int) (a0_1 : ByteArray) (a0_2 : Int) (a0_3 : Int) (a0_4 : Int) (a0_5 : Int) (a0_6 : Int) (a0_7 : Int) : Option (Int) := some a0_0
set_option maxHeartbeats 8000000 in
set_option maxRecDepth 100000 in
theorem Fx.calls (a0_0 : Int) (a0_1 : ByteArray) (a0_2 : Int) (a0_3 : Int) (a0_4 : Int) (a0_5 : Int) (a0_6 : Int) (a0_7 : Int) (r : Int) (w : World) (h : Fx.f a0_0 a0_1 a0_2 a0_3 a0_4 a0_5 a0_6 a0_7 = some r) :
  Calls Tryd.prog 72 #[.agg #[.int .i64 a0_0, .string a0_1, .int .i64 a0_2, .int .i64 a0_3, .int .i64 a0_4, .int .i64 a0_5, .int .i64 a0_6, .int .i64 a0_7]] w fun e w' => e = .returned (.int .i64 r) ∧ Below w.heap.size w w' := by
 have hu41 := Tryd.underlying41
 have HB := Ak (Below.refl w.heap.size w)
 have H : (some a0_0) = some r := h
 clear h
 obtain rfl := Option.some.inj H
 go_enter Tryd.func72, Tryd.ntmps72
 go_wp2_with (first | ((with_reducible refine gate_dst (N := 1) rfl ?_); refine box_event ?hg (N := 1) ?hd (cs := #[.int .i64 a0_0, .string a0_1, .int .i64 a0_2, .int .i64 a0_3, .int .i64 a0_4, .int .i64 a0_5, .int .i64 a0_6, .int .i64 a0_7]) (t := 41) ?hr ?_; (case hd => rfl); (case hg => rfl); (case hr => first | (go_simp; done) | (go_simp; rfl)); intro gb101 hg w2 hbox hb; have n0_ := Ak (below_step (by exact eS HB.out) hb); have n1_ := Ak (hbox); have n2_ := Ak ((by rw [hg]; exact (below_size (by exact eS HB.out)) : w.heap.size ≤ gb101)); have n3_ := Ak ((by rw [hg]; exact (below_size (by exact eS HB.out)) : w.heap.size ≤ gb101)); clear HB; have HB := n0_; have BK101 := n1_; have GW101 := n2_; have GE101 := n3_; clear n0_ n1_ n2_ n3_; clear hb hbox hg; have hcz3_0 : w2.cell? ⟨gb101, 0, none⟩ = some (.int .i64 a0_0) := (blk_cell BK101.out 0).trans rfl; have hcz3_1 : w2.cell? ⟨gb101, 1, none⟩ = some (.string a0_1) := (blk_cell BK101.out 1).trans rfl; have hcz3_2 : w2.cell? ⟨gb101, 2, none⟩ = some (.int .i64 a0_2) := (blk_cell BK101.out 2).trans rfl; have hcz3_3 : w2.cell? ⟨gb101, 3, none⟩ = some (.int .i64 a0_3) := (blk_cell BK101.out 3).trans rfl; have hcz3_4 : w2.cell? ⟨gb101, 4, none⟩ = some (.int .i64 a0_4) := (blk_cell BK101.out 4).trans rfl; have hcz3_5 : w2.cell? ⟨gb101, 5, none⟩ = some (.int .i64 a0_5) := (blk_cell BK101.out 5).trans rfl; have hcz3_6 : w2.cell? ⟨gb101, 6, none⟩ = some (.int .i64 a0_6) := (blk_cell BK101.out 6).trans rfl; have hcz3_7 : w2.cell? ⟨gb101, 7, none⟩ = some (.int .i64 a0_7) := (blk_cell BK101.out 7).trans rfl; have hfz3_0 := blk_frozen BK101.out 0; have hfz3_1 := blk_frozen BK101.out 1; have hfz3_2 := blk_frozen BK101.out 2; have hfz3_3 := blk_frozen BK101.out 3; have hfz3_4 := blk_frozen BK101.out 4; have hfz3_5 := blk_frozen BK101.out 5; have hfz3_6 := blk_frozen BK101.out 6; have hfz3_7 := blk_frozen BK101.out 7))
 go_ret
 exact ⟨by first | rfl | (simp [errW_none, errW_some] <;> rfl) | (simp [*, errW_none, errW_some] <;> rfl), by exact eS HB.out⟩
end Go.Proofs.YtahfahlbdgbfeaaDoor.X

namespace Go.Proofs.YtahfahlbdgbfeaaDoor.X
open Ho (bS eS RS Ak Cs Ct Cd)
open Go.RowKit Go.Proofs.YtahfahlbdgbfeaaDoorW.PrintWords Go.Proofs.YtahfahlbdgbfeaaDoorW.PrintLast Go.Proofs.YtahfahlbdgbfeaaDoorW.PrintMore
attribute [local go_sem] max2_int min2_int max_two min_two max_three min_three max_four min_four   -- for this text's walks alone
set_option linter.unusedVariables false
set_option linter.unusedSimpArgs false
open Sq (I O Z Dz)
/-! ### Fc: function 100001 -/
def Fc.l0 : Nat → List (S41) → Int → Option (Bool)
  | 0, _, _ => none
  | k + 1, x0, x5 => if x5 < (x0.length : Int) then (if 0 ≤ (wrap64 (x5 - 1)) then (if (wrap64 (x5 - 1)) < (x0.length : Int) then ((Fx.f ((rd_T41 x0 (wrap64 (x5 - 1))).f0) ((rd_T41 x0 (wrap64 (x5 - 1))).f1) ((rd_T41 x0 (wrap64 (x5 - 1))).f2) ((rd_T41 x0 (wrap64 (x5 - 1))).f3) ((rd_T41 x0 (wrap64 (x5 - 1))).f4) ((rd_T41 x0 (wrap64 (x5 - 1))).f5) ((rd_T41 x0 (wrap64 (x5 - 1))).f6) ((rd_T41 x0 (wrap64 (x5 - 1))).f7)).bind fun t102 => (if 0 ≤ x5 then ((Fx.f ((rd_T41 x0 x5).f0) ((rd_T41 x0 x5).f1) ((rd_T41 x0 x5).f2) ((rd_T41 x0 x5).f3) ((rd_T41 x0 x5).f4) ((rd_T41 x0 x5).f5) ((rd_T41 x0 x5).f6) ((rd_T41 x0 x5).f7)).bind fun t104 => (if t102 ≥ t104 then (some false) else (Fc.l0 k x0 (wrap64 (x5 + 1))))) else (none))) else (none)) else (none)) else (some true)
def Fc.f (k : Nat) (l0 : List (S41))  : Option (Bool) := Fc.l0 k l0 1
theorem Fc.mono_l : ∀ k, (∀ y0 y1, LeO (Fc.l0 k y0 y1) (Fc.l0 (k + 1) y0 y1))
  | 0 => fun _ _ r h => by simp [Fc.l0] at h
  | k + 1 => by
    have ih0 := Fc.mono_l k
    · intro y0 y1
      unfold Fc.l0
      repeat' first | (with_reducible first | exact ih0 _ _ | exact LeO.refl _ | exact LeO.none _ | refine LeO.ite ?_ ?_ | refine LeO.bind ?_ (fun _ => ?_)) | exact ih0 _ _ | exact LeO.none _ | refine LeO.ite ?_ ?_ | refine LeO.bind ?_ (fun _ => ?_)
theorem Fc.mono : ∀ a0 k, LeO (Fc.f k a0) (Fc.f (k + 1) a0) := by
  intro a0 k
  have ih0 := Fc.mono_l k
  unfold Fc.f
  repeat' first | (with_reducible first | exact ih0 _ _ | exact LeO.refl _ | exact LeO.none _ | refine LeO.ite ?_ ?_ | refine LeO.bind ?_ (fun _ => ?_)) | exact ih0 _ _ | exact LeO.none _ | refine LeO.ite ?_ ?_ | refine LeO.bind ?_ (fun _ => ?_)
def Fc.T4 : Bool × List (List Nat × List Nat) := (true, [([], []), ([], []), ([], []), ([2], [2]), ([1, 3], [1, 3]), ([4], [4]), ([0, 5], [0, 5]), ([], []), ([], []), ([], []), ([8, 9], [8, 9]), ([10], [10]), ([7, 11, 6], [7, 11]), ([6, 12], [6, 12])])
def Fc.B4 : List Nat := [0, 0, 0, 4, 14, 30, 63, 0, 0, 0, 768, 1792, 4095, 8191]
theorem Fc.tab4 : rtab .any (opsOf Tryd.f71 4) = Fc.T4 := by kernel_rfl
theorem Fc.bits4 : waitsOk Fc.T4.2 Fc.B4 = true := by kernel_rfl
set_option maxHeartbeats 8000000 in
set_option maxRecDepth 100000 in
theorem Fc.calls (k : Nat) (A0 : Option Addr) (c0 : Nat) (l0 : List (S41))  (r : Bool) (w : World) (hr0 : Kd.C k41 w A0 l0.length l0) (hc0 : l0.length ≤ c0) (h : Fc.f k l0 = some r) :
  Calls Tryd.prog 71 #[.slice A0 l0.length c0, .func (.func 72) #[] #[]] w fun e w' => e = .returned (.bool r) ∧ Below w.heap.size w w' := by
 have hu41 := Tryd.underlying41
 have HR0 := Ak hr0
 have HC0 := Ak hc0
 clear hr0 hc0
 have HB := Ak (Below.refl w.heap.size w)
 have H : (Fc.l0 k l0 1) = some r := h
 clear h
 have H' := Ak H
 clear H
 go_enter Tryd.func71, Tryd.ntmps71
 go_wp2
 go_loopg [5] k (fun kq v5 w' => ∃ (x5_1 : Int), v5 = .int .i64 x5_1 ∧ Aside0 (Fc.l0 kq l0 x5_1 = some r) ∧ Aside0 (kq ≤ k) ∧ Aside0 (Below w.heap.size w w'))
 case atStart => exact ⟨(1), (by first | rfl | (simp; done) | (simp [*]; done)), H', ⟨Nat.le_refl _⟩, ⟨by exact eS HB.out⟩⟩
 case round =>
  clear H'
  try clear p2
  obtain ⟨x5_1, rfl, HA, HK1, HB⟩ := hrel
  cases gk with
  | zero => exact absurd HA.out (by simp [Fc.l0])
  | succ k1 =>
   have H := HA.out
   clear HA
   simp only [Fc.l0] at H
   by_cases c3 : x5_1 < (l0.length : Int)
   rotate_left
   ·rw [if_neg c3] at H
    have c3b0 : decide (x5_1 < (l0.length : Int)) = false := decide_eq_false c3
    clear c3
    obtain rfl := Option.some.inj H
    go_wp2
    go_ret
    exact ⟨by first | rfl | (simp [errW_none, errW_some] <;> rfl) | (simp [*, errW_none, errW_some] <;> rfl), by exact eS HB.out⟩
   rw [if_pos c3] at H
   have c3b0 : decide (x5_1 < (l0.length : Int)) = true := decide_eq_true c3
   clear c3
   obtain ⟨ji4, hji4⟩ : ∃ j_ : Int, (wrap64 (x5_1 - 1)) = j_ := ⟨_, rfl⟩
   replace H : (if 0 ≤ (ji4) then (if (ji4) < (l0.length : Int) then ((Fx.f ((rd_T41 l0 (ji4)).f0) ((rd_T41 l0 (ji4)).f1) ((rd_T41 l0 (ji4)).f2) ((rd_T41 l0 (ji4)).f3) ((rd_T41 l0 (ji4)).f4) ((rd_T41 l0 (ji4)).f5) ((rd_T41 l0 (ji4)).f6) ((rd_T41 l0 (ji4)).f7)).bind fun t102 => (if 0 ≤ x5_1 then ((Fx.f ((rd_T41 l0 x5_1).f0) ((rd_T41 l0 x5_1).f1) ((rd_T41 l0 x5_1).f2) ((rd_T41 l0 x5_1).f3) ((rd_T41 l0 x5_1).f4) ((rd_T41 l0 x5_1).f5) ((rd_T41 l0 x5_1).f6) ((rd_T41 l0 x5_1).f7)).bind fun t104 => (if t102 ≥ t104 then (some false) else (Fc.l0 k1 l0 (wrap64 (x5_1 + 1))))) else (none))) else (none)) else (none)) = some r := by first | (rw [hji4] at H; exact H) | (simp only [hji4] at H ⊢; exact H)
   have hji4w : (IntKind.i64.wrap (x5_1 - 1)) = ji4 := (i64_w _).trans hji4
   by_cases c5 : 0 ≤ (ji4)
   rotate_left
   ·rw [if_neg c5] at H
    exact absurd H (by simp)
   rw [if_pos c5] at H
   have c5b0 : decide (0 ≤ (ji4)) = true := decide_eq_true c5
   clear c5
   by_cases c6 : (ji4) < (l0.length : Int)
   rotate_left
   ·rw [if_neg c6] at H
    exact absurd H (by simp)
   rw [if_pos c6] at H
   have c6b0 : decide ((ji4) < (l0.length : Int)) = true := decide_eq_true c6
   clear c6
   replace H := Option.bind_eq_some_iff.mp H
   obtain ⟨t102, A70, H⟩ := H
   (try dsimp only at H)
   have A7 := Ak A70
   clear A70
   by_cases c8 : 0 ≤ x5_1
   rotate_left
   ·rw [if_neg c8] at H
    exact absurd H (by simp)
   rw [if_pos c8] at H
   have c8b0 : decide (0 ≤ x5_1) = true := decide_eq_true c8
   clear c8
   replace H := Option.bind_eq_some_iff.mp H
   obtain ⟨t104, A90, H⟩ := H
   (try dsimp only at H)
   have A9 := Ak A90
   clear A90
   by_cases c10 : t102 ≥ t104
   ·rw [if_pos c10] at H
    have c10b0 : decide (t104 ≤ t102) = true := decide_eq_true c10
    clear c10
    obtain rfl := Option.some.inj H
    try go_wp2
    have n0_ := Ak (below_drew1 HB.out)
    clear HB; have HB := n0_; clear n0_
    have p101 : 0 ≤ ((ji4) : Int) := Dz
    have q101 : (ji4) < (l0.length : Int) := Dz
    obtain ⟨ad101, e101, hx101_0, hx101_1, hx101_2, hx101_3, hx101_4, hx101_5, hx101_6, hx101_7⟩ := at_T41 HR0.out (ji4) p101 q101
    have hw101_7 := hx101_7
    have hw101_6 := hx101_6
    have hw101_5 := hx101_5
    have hw101_4 := hx101_4
    have hw101_3 := hx101_3
    have hw101_2 := hx101_2
    have hw101_1 := hx101_1
    have hw101_0 := hx101_0
    cases e101
    replace hx101_0 := Sq.cB HB.out hx101_0
    replace hx101_1 := Sq.cB HB.out hx101_1
    replace hx101_2 := Sq.cB HB.out hx101_2
    replace hx101_3 := Sq.cB HB.out hx101_3
    replace hx101_4 := Sq.cB HB.out hx101_4
    replace hx101_5 := Sq.cB HB.out hx101_5
    replace hx101_6 := Sq.cB HB.out hx101_6
    replace hx101_7 := Sq.cB HB.out hx101_7
    replace p101 := eq_true p101; replace q101 := eq_true q101
    have p103 : 0 ≤ (x5_1 : Int) := Dz
    have q103 : x5_1 < (l0.length : Int) := Dz
    obtain ⟨ad103, e103, hx103_0, hx103_1, hx103_2, hx103_3, hx103_4, hx103_5, hx103_6, hx103_7⟩ := at_T41 HR0.out x5_1 p103 q103
    have hw103_7 := hx103_7
    have hw103_6 := hx103_6
    have hw103_5 := hx103_5
    have hw103_4 := hx103_4
    have hw103_3 := hx103_3
    have hw103_2 := hx103_2
    have hw103_1 := hx103_1
    have hw103_0 := hx103_0
    obtain rfl : ad101 = ad103 := (by injection e103)
    replace hx103_0 := Sq.cB HB.out hx103_0
    replace hx103_1 := Sq.cB HB.out hx103_1
    replace hx103_2 := Sq.cB HB.out hx103_2
    replace hx103_3 := Sq.cB HB.out hx103_3
    replace hx103_4 := Sq.cB HB.out hx103_4
    replace hx103_5 := Sq.cB HB.out hx103_5
    replace hx103_6 := Sq.cB HB.out hx103_6
    replace hx103_7 := Sq.cB HB.out hx103_7
    replace p103 := eq_true p103; replace q103 := eq_true q103
    refine start_ (n := 14) (S := fun w' => w'.cell? (ad101.add (((ji4)).toNat * 8)) = some (.int .i64 ((rd_T41 l0 (ji4)).f0)) ∧ w'.cell? ⟨(ad101.add (((ji4)).toNat * 8)).block, (ad101.add (((ji4)).toNat * 8)).off + 1, none⟩ = some (.string ((rd_T41 l0 (ji4)).f1)) ∧ w'.cell? ⟨(ad101.add (((ji4)).toNat * 8)).block, (ad101.add (((ji4)).toNat * 8)).off + 2, none⟩ = some (.int .i64 ((rd_T41 l0 (ji4)).f2)) ∧ w'.cell? ⟨(ad101.add (((ji4)).toNat * 8)).block, (ad101.add (((ji4)).toNat * 8)).off + 3, none⟩ = some (.int .i64 ((rd_T41 l0 (ji4)).f3)) ∧ w'.cell? ⟨(ad101.add (((ji4)).toNat * 8)).block, (ad101.add (((ji4)).toNat * 8)).off + 4, none⟩ = some (.int .i64 ((rd_T41 l0 (ji4)).f4)) ∧ w'.cell? ⟨(ad101.add (((ji4)).toNat * 8)).block, (ad101.add (((ji4)).toNat * 8)).off + 5, none⟩ = some (.int .i64 ((rd_T41 l0 (ji4)).f5)) ∧ w'.cell? ⟨(ad101.add (((ji4)).toNat * 8)).block, (ad101.add (((ji4)).toNat * 8)).off + 6, none⟩ = some (.int .i64 ((rd_T41 l0 (ji4)).f6)) ∧ w'.cell? ⟨(ad101.add (((ji4)).toNat * 8)).block, (ad101.add (((ji4)).toNat * 8)).off + 7, none⟩ = some (.int .i64 ((rd_T41 l0 (ji4)).f7)) ∧ w'.cell? (ad101.add ((x5_1).toNat * 8)) = some (.int .i64 ((rd_T41 l0 x5_1).f0)) ∧ w'.cell? ⟨(ad101.add ((x5_1).toNat * 8)).block, (ad101.add ((x5_1).toNat * 8)).off + 1, none⟩ = some (.string ((rd_T41 l0 x5_1).f1)) ∧ w'.cell? ⟨(ad101.add ((x5_1).toNat * 8)).block, (ad101.add ((x5_1).toNat * 8)).off + 2, none⟩ = some (.int .i64 ((rd_T41 l0 x5_1).f2)) ∧ w'.cell? ⟨(ad101.add ((x5_1).toNat * 8)).block, (ad101.add ((x5_1).toNat * 8)).off + 3, none⟩ = some (.int .i64 ((rd_T41 l0 x5_1).f3)) ∧ w'.cell? ⟨(ad101.add ((x5_1).toNat * 8)).block, (ad101.add ((x5_1).toNat * 8)).off + 4, none⟩ = some (.int .i64 ((rd_T41 l0 x5_1).f4)) ∧ w'.cell? ⟨(ad101.add ((x5_1).toNat * 8)).block, (ad101.add ((x5_1).toNat * 8)).off + 5, none⟩ = some (.int .i64 ((rd_T41 l0 x5_1).f5)) ∧ w'.cell? ⟨(ad101.add ((x5_1).toNat * 8)).block, (ad101.add ((x5_1).toNat * 8)).off + 6, none⟩ = some (.int .i64 ((rd_T41 l0 x5_1).f6)) ∧ w'.cell? ⟨(ad101.add ((x5_1).toNat * 8)).block, (ad101.add ((x5_1).toNat * 8)).off + 7, none⟩ = some (.int .i64 ((rd_T41 l0 x5_1).f7))) (ds := []) #[O,O,O,O,O,O,O,O,O,O,O,O,O,O] (by kernel_rfl) rfl rfl ⟨(Sq.cB HB.out hw101_0), (Sq.cB HB.out hw101_1), (Sq.cB HB.out hw101_2), (Sq.cB HB.out hw101_3), (Sq.cB HB.out hw101_4), (Sq.cB HB.out hw101_5), (Sq.cB HB.out hw101_6), (Sq.cB HB.out hw101_7), (Sq.cB HB.out hw103_0), (Sq.cB HB.out hw103_1), (Sq.cB HB.out hw103_2), (Sq.cB HB.out hw103_3), (Sq.cB HB.out hw103_4), (Sq.cB HB.out hw103_5), (Sq.cB HB.out hw103_6), (Sq.cB HB.out hw103_7)⟩ (fun hHeld => ?_); refine with_tabW Fc.tab4 Fc.bits4 (fun HT_ HW_ => ?_)
    generalize wr.drew = w11 at HB hx101_0 hx101_1 hx101_2 hx101_3 hx101_4 hx101_5 hx101_6 hx101_7 hx103_0 hx103_1 hx103_2 hx103_3 hx103_4 hx103_5 hx103_6 hx103_7 hHeld ⊢
    refine pure_ (i := 0) (N := some 12) (v := ?_) (a' := ?_) #[I,O,O,O,O,O,O,O,O,O,O,O,O,O] rfl rfl (any_of HT_.out (by kernel_rfl)) (fun _ _ _ h => h) (Or.inl ⟨by rfl, ?_⟩) ?_ ?_
    rotate_left; (intro w'; go_simp; with_reducible rfl); rotate_left; (simp only [Z]; rfl)
    refine pure_ (i := 1) (N := some 13) (v := ?_) (a' := ?_) #[I,I,O,O,O,O,O,O,O,O,O,O,O,O] rfl rfl (any_of HT_.out (by kernel_rfl)) (fun _ _ _ h => h) (Or.inl ⟨by rfl, ?_⟩) ?_ ?_
    rotate_left; (intro w'; go_simp; with_reducible rfl); rotate_left; (simp only [Z]; rfl)
    refine pure_ (i := 2) (N := some 14) (v := ?_) (a' := ?_) #[I,I,I,O,O,O,O,O,O,O,O,O,O,O] rfl rfl (any_of HT_.out (by kernel_rfl)) (fun _ _ _ h => h) (Or.inl ⟨by rfl, ?_⟩) ?_ ?_
    rotate_left; (intro w'; go_simp; with_reducible rfl); rotate_left; (simp only [Z]; rfl)
    refine pure_ (i := 3) (N := some 15) (v := ?_) (a' := ?_) #[I,I,I,I,O,O,O,O,O,O,O,O,O,O] rfl rfl (any_of HT_.out (by kernel_rfl)) (fun _ _ _ h => h) (Or.inl ⟨by rfl, ?_⟩) ?_ ?_
    rotate_left; (intro w'; go_simp; with_reducible rfl); rotate_left; (simp only [Z]; rfl)
    refine pure_ (i := 4) (N := some 16) (v := ?_) (a' := ?_) #[I,I,I,I,I,O,O,O,O,O,O,O,O,O] rfl rfl (any_of HT_.out (by kernel_rfl)) (fun _ _ _ h => h) (Or.inl ⟨by rfl, ?_⟩) ?_ ?_
    rotate_left; (intro w'; go_simp; with_reducible rfl); rotate_left; (simp only [Z]; rfl)
    refine pure_ (i := 7) (N := some 19) (v := ?_) (a' := ?_) #[I,I,I,I,I,O,O,I,O,O,O,O,O,O] rfl rfl (any_of HT_.out (by kernel_rfl)) (fun _ _ _ h => h) (Or.inl ⟨by rfl, ?_⟩) ?_ ?_
    rotate_left; (intro w'; go_simp; with_reducible rfl); rotate_left; (simp only [Z]; rfl)
    refine pure_ (i := 8) (N := some 20) (v := ?_) (a' := ?_) #[I,I,I,I,I,O,O,I,I,O,O,O,O,O] rfl rfl (any_of HT_.out (by kernel_rfl)) (fun _ _ _ h => h) (Or.inl ⟨by rfl, ?_⟩) ?_ ?_
    rotate_left; (intro w'; go_simp; with_reducible rfl); rotate_left; (simp only [Z]; rfl)
    refine pure_ (i := 9) (N := some 21) (v := ?_) (a' := ?_) #[I,I,I,I,I,O,O,I,I,I,O,O,O,O] rfl rfl (any_of HT_.out (by kernel_rfl)) (fun _ _ _ h => h) (Or.inl ⟨by rfl, ?_⟩) ?_ ?_
    rotate_left; (intro w'; go_simp; with_reducible rfl); rotate_left; (simp only [Z]; rfl)
    refine pure_ (i := 10) (N := some 22) (v := ?_) (a' := ?_) #[I,I,I,I,I,O,O,I,I,I,I,O,O,O] rfl rfl (any_of HT_.out (by kernel_rfl)) (fun _ _ _ h => h) (Or.inl ⟨by rfl, ?_⟩) ?_ ?_
    rotate_left; (intro w'; go_simp; with_reducible rfl); rotate_left; (simp only [Z]; rfl)
    refine take_ (i := 5) (N := some 17) (v := ?_) (a' := ?_) #[I,I,I,I,I,I,O,I,I,I,I,O,O,O] rfl rfl (take_ofW HT_.out HW_.out (by kernel_rfl)) (fun _ _ _ h => h) (Or.inl ⟨by rfl, ?_⟩) hHeld ?_ ?_
    rotate_left; (rintro w' ⟨s0, s1, s2, s3, s4, s5, s6, s7, s8, s9, s10, s11, s12, s13, s14, s15⟩; go_simp; with_reducible rfl); rotate_left; (simp only [Z]; rfl)
    refine take_ (i := 11) (N := some 23) (v := ?_) (a' := ?_) #[I,I,I,I,I,I,O,I,I,I,I,I,O,O] rfl rfl (take_ofW HT_.out HW_.out (by kernel_rfl)) (fun _ _ _ h => h) (Or.inl ⟨by rfl, ?_⟩) hHeld ?_ ?_
    rotate_left; (rintro w' ⟨s0, s1, s2, s3, s4, s5, s6, s7, s8, s9, s10, s11, s12, s13, s14, s15⟩; go_simp; with_reducible rfl); rotate_left; (simp only [Z]; rfl)
    refine one_ (i := 6) (N := some 18) #[I,I,I,I,I,I,I,I,I,I,I,I,O,O] rfl rfl (one_of HT_.out (by kernel_rfl)) (by decide) (fun K hK => ?_)
    refine Ho.goesv_ Tryd.func72 (by kernel_rfl) rfl _ _ #[.agg #[.int .i64 ((rd_T41 l0 (ji4)).f0), .string ((rd_T41 l0 (ji4)).f1), .int .i64 ((rd_T41 l0 (ji4)).f2), .int .i64 ((rd_T41 l0 (ji4)).f3), .int .i64 ((rd_T41 l0 (ji4)).f4), .int .i64 ((rd_T41 l0 (ji4)).f5), .int .i64 ((rd_T41 l0 (ji4)).f6), .int .i64 ((rd_T41 l0 (ji4)).f7)]] (by rfl) rfl rfl (by rfl) (by (try simp only [List.map_toArray, List.map_cons, List.map_nil]); first | done | (simp only [hji4]; rfl) | rfl | (simp only [List.length_drop, List.length_take]; rfl)) ?_
    with_reducible refine (Fx.calls ((rd_T41 l0 (ji4)).f0) ((rd_T41 l0 (ji4)).f1) ((rd_T41 l0 (ji4)).f2) ((rd_T41 l0 (ji4)).f3) ((rd_T41 l0 (ji4)).f4) ((rd_T41 l0 (ji4)).f5) ((rd_T41 l0 (ji4)).f6) ((rd_T41 l0 (ji4)).f7) t102 _ A7.out).mono ?_
    rintro e w12 ⟨rfl, hb⟩
    refine ⟨_, rfl, ?_⟩
    have n0_ := Ak (below_step (by exact eS HB.out) hb)
    clear HB; have HB := n0_; clear n0_
    (try clear hb)
    (try clear hb2)
    (try clear hk)
    (try clear hi)
    refine hK.out _ _ ⟨(Sq.cB HB.out hw101_0), (Sq.cB HB.out hw101_1), (Sq.cB HB.out hw101_2), (Sq.cB HB.out hw101_3), (Sq.cB HB.out hw101_4), (Sq.cB HB.out hw101_5), (Sq.cB HB.out hw101_6), (Sq.cB HB.out hw101_7), (Sq.cB HB.out hw103_0), (Sq.cB HB.out hw103_1), (Sq.cB HB.out hw103_2), (Sq.cB HB.out hw103_3), (Sq.cB HB.out hw103_4), (Sq.cB HB.out hw103_5), (Sq.cB HB.out hw103_6), (Sq.cB HB.out hw103_7)⟩ (fun hHeld => ?_)
    clear hK K
    refine norm_ (a' := ?_) ?_ ?_; rotate_left; (show Act.put _ (some 18) _ = _; simp only [Z]; rfl)
    refine one_ (i := 12) (N := some 24) #[I,I,I,I,I,I,I,I,I,I,I,I,I,O] rfl rfl (one_of HT_.out (by kernel_rfl)) (by decide) (fun K hK => ?_)
    refine Ho.goesv_ Tryd.func72 (by kernel_rfl) rfl _ _ #[.agg #[.int .i64 ((rd_T41 l0 x5_1).f0), .string ((rd_T41 l0 x5_1).f1), .int .i64 ((rd_T41 l0 x5_1).f2), .int .i64 ((rd_T41 l0 x5_1).f3), .int .i64 ((rd_T41 l0 x5_1).f4), .int .i64 ((rd_T41 l0 x5_1).f5), .int .i64 ((rd_T41 l0 x5_1).f6), .int .i64 ((rd_T41 l0 x5_1).f7)]] (by rfl) rfl rfl (by rfl) (by (try simp only [List.map_toArray, List.map_cons, List.map_nil]); first | done | rfl | (simp only [List.length_drop, List.length_take]; rfl)) ?_
    with_reducible refine (Fx.calls ((rd_T41 l0 x5_1).f0) ((rd_T41 l0 x5_1).f1) ((rd_T41 l0 x5_1).f2) ((rd_T41 l0 x5_1).f3) ((rd_T41 l0 x5_1).f4) ((rd_T41 l0 x5_1).f5) ((rd_T41 l0 x5_1).f6) ((rd_T41 l0 x5_1).f7) t104 _ A9.out).mono ?_
    rintro e w13 ⟨rfl, hb⟩
    refine ⟨_, rfl, ?_⟩
    have n0_ := Ak (below_step (by exact eS HB.out) hb)
    clear HB; have HB := n0_; clear n0_
    (try clear hb)
    (try clear hb2)
    (try clear hk)
    (try clear hi)
    refine hK.out _ _ ⟨(Sq.cB HB.out hw101_0), (Sq.cB HB.out hw101_1), (Sq.cB HB.out hw101_2), (Sq.cB HB.out hw101_3), (Sq.cB HB.out hw101_4), (Sq.cB HB.out hw101_5), (Sq.cB HB.out hw101_6), (Sq.cB HB.out hw101_7), (Sq.cB HB.out hw103_0), (Sq.cB HB.out hw103_1), (Sq.cB HB.out hw103_2), (Sq.cB HB.out hw103_3), (Sq.cB HB.out hw103_4), (Sq.cB HB.out hw103_5), (Sq.cB HB.out hw103_6), (Sq.cB HB.out hw103_7)⟩ (fun hHeld => ?_)
    clear hK K
    refine norm_ (a' := ?_) ?_ ?_; rotate_left; (show Act.put _ (some 24) _ = _; simp only [Z]; rfl)
    refine pure_ (i := 13) (N := some 25) (v := ?_) (a' := ?_) #[I,I,I,I,I,I,I,I,I,I,I,I,I,I] rfl rfl (any_of HT_.out (by kernel_rfl)) (fun _ _ _ h => h) (Or.inl ⟨by rfl, ?_⟩) ?_ ?_
    rotate_left; (intro w'; go_simp; with_reducible rfl); rotate_left; (simp only [Z]; rfl)
    refine done_ (done_of HT_.out (by kernel_rfl)) ?_
    try go_wp2
    go_ret
    exact ⟨by first | rfl | (simp [errW_none, errW_some] <;> rfl) | (simp only [← hji4]; first | rfl | (simp [errW_none, errW_some] <;> rfl)) | (simp [*, errW_none, errW_some] <;> rfl), by exact eS HB.out⟩
   rw [if_neg c10] at H
   have c10b0 : decide (t104 ≤ t102) = false := decide_eq_false c10
   clear c10
   have H' := Ak H
   clear H
   try go_wp2
   have n0_ := Ak (below_drew1 HB.out)
   clear HB; have HB := n0_; clear n0_
   have p101 : 0 ≤ ((ji4) : Int) := Dz
   have q101 : (ji4) < (l0.length : Int) := Dz
   obtain ⟨ad101, e101, hx101_0, hx101_1, hx101_2, hx101_3, hx101_4, hx101_5, hx101_6, hx101_7⟩ := at_T41 HR0.out (ji4) p101 q101
   have hw101_7 := hx101_7
   have hw101_6 := hx101_6
   have hw101_5 := hx101_5
   have hw101_4 := hx101_4
   have hw101_3 := hx101_3
   have hw101_2 := hx101_2
   have hw101_1 := hx101_1
   have hw101_0 := hx101_0
   cases e101
   replace hx101_0 := Sq.cB HB.out hx101_0
   replace hx101_1 := Sq.cB HB.out hx101_1
   replace hx101_2 := Sq.cB HB.out hx101_2
   replace hx101_3 := Sq.cB HB.out hx101_3
   replace hx101_4 := Sq.cB HB.out hx101_4
   replace hx101_5 := Sq.cB HB.out hx101_5
   replace hx101_6 := Sq.cB HB.out hx101_6
   replace hx101_7 := Sq.cB HB.out hx101_7
   replace p101 := eq_true p101; replace q101 := eq_true q101
   have p103 : 0 ≤ (x5_1 : Int) := Dz
   have q103 : x5_1 < (l0.length : Int) := Dz
   obtain ⟨ad103, e103, hx103_0, hx103_1, hx103_2, hx103_3, hx103_4, hx103_5, hx103_6, hx103_7⟩ := at_T41 HR0.out x5_1 p103 q103
   have hw103_7 := hx103_7
   have hw103_6 := hx103_6
   have hw103_5 := hx103_5
   have hw103_4 := hx103_4
   have hw103_3 := hx103_3
   have hw103_2 := hx103_2
   have hw103_1 := hx103_1
   have hw103_0 := hx103_0
   obtain rfl : ad101 = ad103 := (by injection e103)
   replace hx103_0 := Sq.cB HB.out hx103_0
   replace hx103_1 := Sq.cB HB.out hx103_1
   replace hx103_2 := Sq.cB HB.out hx103_2
   replace hx103_3 := Sq.cB HB.out hx103_3
   replace hx103_4 := Sq.cB HB.out hx103_4
   replace hx103_5 := Sq.cB HB.out hx103_5
   replace hx103_6 := Sq.cB HB.out hx103_6
   replace hx103_7 := Sq.cB HB.out hx103_7
   replace p103 := eq_true p103; replace q103 := eq_true q103
   refine start_ (n := 14) (S := fun w' => w'.cell? (ad101.add (((ji4)).toNat * 8)) = some (.int .i64 ((rd_T41 l0 (ji4)).f0)) ∧ w'.cell? ⟨(ad101.add (((ji4)).toNat * 8)).block, (ad101.add (((ji4)).toNat * 8)).off + 1, none⟩ = some (.string ((rd_T41 l0 (ji4)).f1)) ∧ w'.cell? ⟨(ad101.add (((ji4)).toNat * 8)).block, (ad101.add (((ji4)).toNat * 8)).off + 2, none⟩ = some (.int .i64 ((rd_T41 l0 (ji4)).f2)) ∧ w'.cell? ⟨(ad101.add (((ji4)).toNat * 8)).block, (ad101.add (((ji4)).toNat * 8)).off + 3, none⟩ = some (.int .i64 ((rd_T41 l0 (ji4)).f3)) ∧ w'.cell? ⟨(ad101.add (((ji4)).toNat * 8)).block, (ad101.add (((ji4)).toNat * 8)).off + 4, none⟩ = some (.int .i64 ((rd_T41 l0 (ji4)).f4)) ∧ w'.cell? ⟨(ad101.add (((ji4)).toNat * 8)).block, (ad101.add (((ji4)).toNat * 8)).off + 5, none⟩ = some (.int .i64 ((rd_T41 l0 (ji4)).f5)) ∧ w'.cell? ⟨(ad101.add (((ji4)).toNat * 8)).block, (ad101.add (((ji4)).toNat * 8)).off + 6, none⟩ = some (.int .i64 ((rd_T41 l0 (ji4)).f6)) ∧ w'.cell? ⟨(ad101.add (((ji4)).toNat * 8)).block, (ad101.add (((ji4)).toNat * 8)).off + 7, none⟩ = some (.int .i64 ((rd_T41 l0 (ji4)).f7)) ∧ w'.cell? (ad101.add ((x5_1).toNat * 8)) = some (.int .i64 ((rd_T41 l0 x5_1).f0)) ∧ w'.cell? ⟨(ad101.add ((x5_1).toNat * 8)).block, (ad101.add ((x5_1).toNat * 8)).off + 1, none⟩ = some (.string ((rd_T41 l0 x5_1).f1)) ∧ w'.cell? ⟨(ad101.add ((x5_1).toNat * 8)).block, (ad101.add ((x5_1).toNat * 8)).off + 2, none⟩ = some (.int .i64 ((rd_T41 l0 x5_1).f2)) ∧ w'.cell? ⟨(ad101.add ((x5_1).toNat * 8)).block, (ad101.add ((x5_1).toNat * 8)).off + 3, none⟩ = some (.int .i64 ((rd_T41 l0 x5_1).f3)) ∧ w'.cell? ⟨(ad101.add ((x5_1).toNat * 8)).block, (ad101.add ((x5_1).toNat * 8)).off + 4, none⟩ = some (.int .i64 ((rd_T41 l0 x5_1).f4)) ∧ w'.cell? ⟨(ad101.add ((x5_1).toNat * 8)).block, (ad101.add ((x5_1).toNat * 8)).off + 5, none⟩ = some (.int .i64 ((rd_T41 l0 x5_1).f5)) ∧ w'.cell? ⟨(ad101.add ((x5_1).toNat * 8)).block, (ad101.add ((x5_1).toNat * 8)).off + 6, none⟩ = some (.int .i64 ((rd_T41 l0 x5_1).f6)) ∧ w'.cell? ⟨(ad101.add ((x5_1).toNat * 8)).block, (ad101.add ((x5_1).toNat * 8)).off + 7, none⟩ = some (.int .i64 ((rd_T41 l0 x5_1).f7))) (ds := []) #[O,O,O,O,O,O,O,O,O,O,O,O,O,O] (by kernel_rfl) rfl rfl ⟨(Sq.cB HB.out hw101_0), (Sq.cB HB.out hw101_1), (Sq.cB HB.out hw101_2), (Sq.cB HB.out hw101_3), (Sq.cB HB.out hw101_4), (Sq.cB HB.out hw101_5), (Sq.cB HB.out hw101_6), (Sq.cB HB.out hw101_7), (Sq.cB HB.out hw103_0), (Sq.cB HB.out hw103_1), (Sq.cB HB.out hw103_2), (Sq.cB HB.out hw103_3), (Sq.cB HB.out hw103_4), (Sq.cB HB.out hw103_5), (Sq.cB HB.out hw103_6), (Sq.cB HB.out hw103_7)⟩ (fun hHeld => ?_); refine with_tabW Fc.tab4 Fc.bits4 (fun HT_ HW_ => ?_)
   generalize wr.drew = w14 at HB hx101_0 hx101_1 hx101_2 hx101_3 hx101_4 hx101_5 hx101_6 hx101_7 hx103_0 hx103_1 hx103_2 hx103_3 hx103_4 hx103_5 hx103_6 hx103_7 hHeld ⊢
   refine pure_ (i := 0) (N := some 12) (v := ?_) (a' := ?_) #[I,O,O,O,O,O,O,O,O,O,O,O,O,O] rfl rfl (any_of HT_.out (by kernel_rfl)) (fun _ _ _ h => h) (Or.inl ⟨by rfl, ?_⟩) ?_ ?_
   rotate_left; (intro w'; go_simp; with_reducible rfl); rotate_left; (simp only [Z]; rfl)
   refine pure_ (i := 1) (N := some 13) (v := ?_) (a' := ?_) #[I,I,O,O,O,O,O,O,O,O,O,O,O,O] rfl rfl (any_of HT_.out (by kernel_rfl)) (fun _ _ _ h => h) (Or.inl ⟨by rfl, ?_⟩) ?_ ?_
   rotate_left; (intro w'; go_simp; with_reducible rfl); rotate_left; (simp only [Z]; rfl)
   refine pure_ (i := 2) (N := some 14) (v := ?_) (a' := ?_) #[I,I,I,O,O,O,O,O,O,O,O,O,O,O] rfl rfl (any_of HT_.out (by kernel_rfl)) (fun _ _ _ h => h) (Or.inl ⟨by rfl, ?_⟩) ?_ ?_
   rotate_left; (intro w'; go_simp; with_reducible rfl); rotate_left; (simp only [Z]; rfl)
   refine pure_ (i := 3) (N := some 15) (v := ?_) (a' := ?_) #[I,I,I,I,O,O,O,O,O,O,O,O,O,O] rfl rfl (any_of HT_.out (by kernel_rfl)) (fun _ _ _ h => h) (Or.inl ⟨by rfl, ?_⟩) ?_ ?_
   rotate_left; (intro w'; go_simp; with_reducible rfl); rotate_left; (simp only [Z]; rfl)
   refine pure_ (i := 4) (N := some 16) (v := ?_) (a' := ?_) #[I,I,I,I,I,O,O,O,O,O,O,O,O,O] rfl rfl (any_of HT_.out (by kernel_rfl)) (fun _ _ _ h => h) (Or.inl ⟨by rfl, ?_⟩) ?_ ?_
   rotate_left; (intro w'; go_simp; with_reducible rfl); rotate_left; (simp only [Z]; rfl)
   refine pure_ (i := 7) (N := some 19) (v := ?_) (a' := ?_) #[I,I,I,I,I,O,O,I,O,O,O,O,O,O] rfl rfl (any_of HT_.out (by kernel_rfl)) (fun _ _ _ h => h) (Or.inl ⟨by rfl, ?_⟩) ?_ ?_
   rotate_left; (intro w'; go_simp; with_reducible rfl); rotate_left; (simp only [Z]; rfl)
   refine pure_ (i := 8) (N := some 20) (v := ?_) (a' := ?_) #[I,I,I,I,I,O,O,I,I,O,O,O,O,O] rfl rfl (any_of HT_.out (by kernel_rfl)) (fun _ _ _ h => h) (Or.inl ⟨by rfl, ?_⟩) ?_ ?_
   rotate_left; (intro w'; go_simp; with_reducible rfl); rotate_left; (simp only [Z]; rfl)
   refine pure_ (i := 9) (N := some 21) (v := ?_) (a' := ?_) #[I,I,I,I,I,O,O,I,I,I,O,O,O,O] rfl rfl (any_of HT_.out (by kernel_rfl)) (fun _ _ _ h => h) (Or.inl ⟨by rfl, ?_⟩) ?_ ?_
   rotate_left; (intro w'; go_simp; with_reducible rfl); rotate_left; (simp only [Z]; rfl)
   refine pure_ (i := 10) (N := some 22) (v := ?_) (a' := ?_) #[I,I,I,I,I,O,O,I,I,I,I,O,O,O] rfl rfl (any_of HT_.out (by kernel_rfl)) (fun _ _ _ h => h) (Or.inl ⟨by rfl, ?_⟩) ?_ ?_
   rotate_left; (intro w'; go_simp; with_reducible rfl); rotate_left; (simp only [Z]; rfl)
   refine take_ (i := 5) (N := some 17) (v := ?_) (a' := ?_) #[I,I,I,I,I,I,O,I,I,I,I,O,O,O] rfl rfl (take_ofW HT_.out HW_.out (by kernel_rfl)) (fun _ _ _ h => h) (Or.inl ⟨by rfl, ?_⟩) hHeld ?_ ?_
   rotate_left; (rintro w' ⟨s0, s1, s2, s3, s4, s5, s6, s7, s8, s9, s10, s11, s12, s13, s14, s15⟩; go_simp; with_reducible rfl); rotate_left; (simp only [Z]; rfl)
   refine take_ (i := 11) (N := some 23) (v := ?_) (a' := ?_) #[I,I,I,I,I,I,O,I,I,I,I,I,O,O] rfl rfl (take_ofW HT_.out HW_.out (by kernel_rfl)) (fun _ _ _ h => h) (Or.inl ⟨by rfl, ?_⟩) hHeld ?_ ?_
   rotate_left; (rintro w' ⟨s0, s1, s2, s3, s4, s5, s6, s7, s8, s9, s10, s11, s12, s13, s14, s15⟩; go_simp; with_reducible rfl); rotate_left; (simp only [Z]; rfl)
   refine one_ (i := 6) (N := some 18) #[I,I,I,I,I,I,I,I,I,I,I,I,O,O] rfl rfl (one_of HT_.out (by kernel_rfl)) (by decide) (fun K hK => ?_)
   refine Ho.goesv_ Tryd.func72 (by kernel_rfl) rfl _ _ #[.agg #[.int .i64 ((rd_T41 l0 (ji4)).f0), .string ((rd_T41 l0 (ji4)).f1), .int .i64 ((rd_T41 l0 (ji4)).f2), .int .i64 ((rd_T41 l0 (ji4)).f3), .int .i64 ((rd_T41 l0 (ji4)).f4), .int .i64 ((rd_T41 l0 (ji4)).f5), .int .i64 ((rd_T41 l0 (ji4)).f6), .int .i64 ((rd_T41 l0 (ji4)).f7)]] (by rfl) rfl rfl (by rfl) (by (try simp only [List.map_toArray, List.map_cons, List.map_nil]); first | done | (simp only [hji4]; rfl) | rfl | (simp only [List.length_drop, List.length_take]; rfl)) ?_
   with_reducible refine (Fx.calls ((rd_T41 l0 (ji4)).f0) ((rd_T41 l0 (ji4)).f1) ((rd_T41 l0 (ji4)).f2) ((rd_T41 l0 (ji4)).f3) ((rd_T41 l0 (ji4)).f4) ((rd_T41 l0 (ji4)).f5) ((rd_T41 l0 (ji4)).f6) ((rd_T41 l0 (ji4)).f7) t102 _ A7.out).mono ?_
   rintro e w15 ⟨rfl, hb⟩
   refine ⟨_, rfl, ?_⟩
   have n0_ := Ak (below_step (by exact eS HB.out) hb)
   clear HB; have HB := n0_; clear n0_
   (try clear hb)
   (try clear hb2)
   (try clear hk)
   (try clear hi)
   refine hK.out _ _ ⟨(Sq.cB HB.out hw101_0), (Sq.cB HB.out hw101_1), (Sq.cB HB.out hw101_2), (Sq.cB HB.out hw101_3), (Sq.cB HB.out hw101_4), (Sq.cB HB.out hw101_5), (Sq.cB HB.out hw101_6), (Sq.cB HB.out hw101_7), (Sq.cB HB.out hw103_0), (Sq.cB HB.out hw103_1), (Sq.cB HB.out hw103_2), (Sq.cB HB.out hw103_3), (Sq.cB HB.out hw103_4), (Sq.cB HB.out hw103_5), (Sq.cB HB.out hw103_6), (Sq.cB HB.out hw103_7)⟩ (fun hHeld => ?_)
   clear hK K
   refine norm_ (a' := ?_) ?_ ?_; rotate_left; (show Act.put _ (some 18) _ = _; simp only [Z]; rfl)
   refine one_ (i := 12) (N := some 24) #[I,I,I,I,I,I,I,I,I,I,I,I,I,O] rfl rfl (one_of HT_.out (by kernel_rfl)) (by decide) (fun K hK => ?_)
   refine Ho.goesv_ Tryd.func72 (by kernel_rfl) rfl _ _ #[.agg #[.int .i64 ((rd_T41 l0 x5_1).f0), .string ((rd_T41 l0 x5_1).f1), .int .i64 ((rd_T41 l0 x5_1).f2), .int .i64 ((rd_T41 l0 x5_1).f3), .int .i64 ((rd_T41 l0 x5_1).f4), .int .i64 ((rd_T41 l0 x5_1).f5), .int .i64 ((rd_T41 l0 x5_1).f6), .int .i64 ((rd_T41 l0 x5_1).f7)]] (by rfl) rfl rfl (by rfl) (by (try simp only [List.map_toArray, List.map_cons, List.map_nil]); first | done | rfl | (simp only [List.length_drop, List.length_take]; rfl)) ?_
   with_reducible refine (Fx.calls ((rd_T41 l0 x5_1).f0) ((rd_T41 l0 x5_1).f1) ((rd_T41 l0 x5_1).f2) ((rd_T41 l0 x5_1).f3) ((rd_T41 l0 x5_1).f4) ((rd_T41 l0 x5_1).f5) ((rd_T41 l0 x5_1).f6) ((rd_T41 l0 x5_1).f7) t104 _ A9.out).mono ?_
   rintro e w16 ⟨rfl, hb⟩
   refine ⟨_, rfl, ?_⟩
   have n0_ := Ak (below_step (by exact eS HB.out) hb)
   clear HB; have HB := n0_; clear n0_
   (try clear hb)
   (try clear hb2)
   (try clear hk)
   (try clear hi)
   refine hK.out _ _ ⟨(Sq.cB HB.out hw101_0), (Sq.cB HB.out hw101_1), (Sq.cB HB.out hw101_2), (Sq.cB HB.out hw101_3), (Sq.cB HB.out hw101_4), (Sq.cB HB.out hw101_5), (Sq.cB HB.out hw101_6), (Sq.cB HB.out hw101_7), (Sq.cB HB.out hw103_0), (Sq.cB HB.out hw103_1), (Sq.cB HB.out hw103_2), (Sq.cB HB.out hw103_3), (Sq.cB HB.out hw103_4), (Sq.cB HB.out hw103_5), (Sq.cB HB.out hw103_6), (Sq.cB HB.out hw103_7)⟩ (fun hHeld => ?_)
   clear hK K
   refine norm_ (a' := ?_) ?_ ?_; rotate_left; (show Act.put _ (some 24) _ = _; simp only [Z]; rfl)
   refine pure_ (i := 13) (N := some 25) (v := ?_) (a' := ?_) #[I,I,I,I,I,I,I,I,I,I,I,I,I,I] rfl rfl (any_of HT_.out (by kernel_rfl)) (fun _ _ _ h => h) (Or.inl ⟨by rfl, ?_⟩) ?_ ?_
   rotate_left; (intro w'; go_simp; with_reducible rfl); rotate_left; (simp only [Z]; rfl)
   refine done_ (done_of HT_.out (by kernel_rfl)) ?_
   try go_wp2
   go_roundg k1
   case measure => have := HK1.out; omega
   case rel => exact ⟨(wrap64 (x5_1 + 1)), (by first | rfl | (simp; done) | (simp [*]; done)), H', ⟨by have := HK1.out; omega⟩, ⟨by exact eS HB.out⟩⟩
/-! ### ho_idx104: function 104 -/
set_option maxHeartbeats 8000000 in
set_option maxRecDepth 100000 in
theorem ho_idx104 (p : S41 → Option Bool) (gg : Nat) (lb : Array Value) (eg : ∀ args w, (callFunc gg args).run Tryd.prog w = .ok (.enter gg args) w) (w : World) (hp : Ho.PredO Tryd.prog gg lb (fun x_ : S41 => .agg #[.int .i64 x_.f0, .string x_.f1, .int .i64 x_.f2, .int .i64 x_.f3, .int .i64 x_.f4, .int .i64 x_.f5, .int .i64 x_.f6, .int .i64 x_.f7]) p w)
    (A0 : Option Addr) (c0 : Nat) (l0 : List S41) (r : Int) (hr0 : Kd.C k41 w A0 l0.length l0) (hc0 : l0.length ≤ c0) (h : Ho.idxO p l0 0 = some r) :
    Calls Tryd.prog 104 #[.slice A0 l0.length c0, .func (.func gg) #[] lb] w fun e w' => e = .returned (.int .i64 r) ∧ Below w.heap.size w w' := by
  have hm : l0.length ≤ 9223372036854775807 := hr0.2.1
  have HR := Ak hr0
  have HP := Ak hp
  have H := Ak h
  clear hr0 hp h
  go_enter Tryd.func104, Tryd.ntmps104
  go_wp2
  go_loopg [5, 8] l0.length (fun gk _ s8 wr => ∃ x : Int, s8 = .int .i64 x ∧ Aside0 (0 ≤ x ∧ x ≤ l0.length ∧ l0.length - x.toNat ≤ gk) ∧ Aside0 (Below w.heap.size w wr) ∧ Aside0 (Ho.idxO p (l0.drop x.toNat) x = some r))
  case atStart => exact ⟨0, rfl, ⟨by omega, by omega, by simp⟩, ⟨Below.refl _ w⟩, ⟨H.out⟩⟩
  case round =>
    clear H
    obtain ⟨x, rfl, HX, BW, HI⟩ := hrel
    by_cases hlt : x < (l0.length : Int)
    · obtain ⟨b, hb, hbt, hbf⟩ := Ho.idxO_step HI.out (by have := HX.out; omega) z41
      have c1 : decide (x < (l0.length : Int)) = true := decide_eq_true hlt
      have q1 := eq_true hlt
      have p1 := eq_true HX.out.1
      have hcall : Calls Tryd.prog gg (#[.agg #[.int .i64 ((rd_T41 l0 x).f0), .string ((rd_T41 l0 x).f1), .int .i64 ((rd_T41 l0 x).f2), .int .i64 ((rd_T41 l0 x).f3), .int .i64 ((rd_T41 l0 x).f4), .int .i64 ((rd_T41 l0 x).f5), .int .i64 ((rd_T41 l0 x).f6), .int .i64 ((rd_T41 l0 x).f7)]] ++ lb) wr _ := HP.out.calls wr (rd_T41 l0 x) b BW.out hb
      obtain ⟨ad, hA, hcell0, hcell1, hcell2, hcell3, hcell4, hcell5, hcell6, hcell7⟩ := at_T41 (Kd.C_below HR.out BW.out) x HX.out.1 hlt
      cases hA
      have HI2 := Ak hbt; have HI3 := Ak hbf; have HL := Ak hlt
      clear hbt hbf hb hlt
      cases b with
      | true =>
        go_wp2_with (with_reducible refine Calls.mono hcall ?_; rintro e w' ⟨rfl, hb'⟩)
        go_ret
        refine ⟨?_, below_then BW.out BW.out.size hb'⟩
        rw [HI2.out (by trivial)]; rfl
      | false =>
        go_wp2_with (with_reducible refine Calls.mono hcall ?_; rintro e w' ⟨rfl, hb'⟩)
        have hx := HX.out; have hl := HL.out
        have hw : wrap64 (x + 1) = x + 1 := by unfold wrap64; omega
        go_roundg (l0.length - (x.toNat + 1))
        case measure => omega
        case rel => exact ⟨x + 1, by rw [hw], ⟨by omega, by omega, by omega⟩, ⟨below_then BW.out BW.out.size hb'⟩, ⟨by have h2 := HI3.out (by trivial); rwa [show (x + 1).toNat = x.toNat + 1 by omega]⟩⟩
    · have c1 : decide (x < (l0.length : Int)) = false := decide_eq_false hlt
      have hr := Ho.idxO_end HI.out (by have := HX.out; omega)
      subst hr
      clear hlt
      go_wp2
      go_ret
      exact ⟨rfl, BW.out⟩
end Go.Proofs.YtahfahlbdgbfeaaDoor.X

namespace Go.Proofs.YtahfahlbdgbfeaaDoor.X
open Ho (bS eS)
open Go.RowKit Go.Proofs.YtahfahlbdgbfeaaDoorW.PrintWords Go.Proofs.YtahfahlbdgbfeaaDoorW.PrintLast Go.Proofs.YtahfahlbdgbfeaaDoorW.PrintMore
attribute [local go_sem] max2_int min2_int max_two min_two max_three min_three max_four min_four   -- for this text's walks alone
set_option linter.unusedVariables false
set_option linter.unusedSimpArgs false
/-! ### ho_has102: function 102 -/
set_option maxHeartbeats 8000000 in
set_option maxRecDepth 100000 in
theorem ho_has102 (p : S41 → Option Bool) (gg : Nat) (lb : Array Value) (eg : ∀ args w, (callFunc gg args).run Tryd.prog w = .ok (.enter gg args) w) (w : World) (hp : Ho.PredO Tryd.prog gg lb (fun x_ : S41 => .agg #[.int .i64 x_.f0, .string x_.f1, .int .i64 x_.f2, .int .i64 x_.f3, .int .i64 x_.f4, .int .i64 x_.f5, .int .i64 x_.f6, .int .i64 x_.f7]) p w)
    (A0 : Option Addr) (c0 : Nat) (l0 : List S41) (r : Bool) (hr0 : Kd.C k41 w A0 l0.length l0) (hc0 : l0.length ≤ c0) (h : Ho.hasO p l0 = some r) :
    Calls Tryd.prog 102 #[.slice A0 l0.length c0, .func (.func gg) #[] lb] w fun e w' => e = .returned (.bool r) ∧ Below w.heap.size w w' := by
  obtain ⟨i, hi, rfl⟩ := Ho.hasO_of h
  have HC := ho_idx104 p gg lb eg w hp A0 c0 l0 i hr0 hc0 hi
  clear hp hr0 hi h
  go_enter Tryd.func102, Tryd.ntmps102
  go_wp2_with (go_at_call 104; refine HC.mono ?_; rintro e w' ⟨rfl, hb'⟩)
  go_ret
  exact ⟨rfl, hb'⟩
end Go.Proofs.YtahfahlbdgbfeaaDoor.X

namespace Go.Proofs.YtahfahlbdgbfeaaDoor.X
open Ho (bS eS RS Ak Cs Ct Cd)
open Go.RowKit Go.Proofs.YtahfahlbdgbfeaaDoorW.PrintWords Go.Proofs.YtahfahlbdgbfeaaDoorW.PrintLast Go.Proofs.YtahfahlbdgbfeaaDoorW.PrintMore
attribute [local go_sem] max2_int min2_int max_two min_two max_three min_three max_four min_four   -- for this text's walks alone
set_option linter.unusedVariables false
set_option linter.unusedSimpArgs false
/-! ### ho_all70: function 70 -/
set_option maxHeartbeats 8000000 in
set_option maxRecDepth 100000 in
theorem ho_not103 (p : S41 → Option Bool) (gg : Nat) (lb : Array Value) (eg : ∀ args w, (callFunc gg args).run Tryd.prog w = .ok (.enter gg args) w) (w : World) (hp : Ho.PredO Tryd.prog gg lb (fun x_ : S41 => .agg #[.int .i64 x_.f0, .string x_.f1, .int .i64 x_.f2, .int .i64 x_.f3, .int .i64 x_.f4, .int .i64 x_.f5, .int .i64 x_.f6, .int .i64 x_.f7]) p w)
    (gb t : Nat) (hb : w.heap[gb]? = some (.cells #[.func (.func gg) #[] lb] t (0, 0))) :
    Ho.PredO Tryd.prog 103 #[.pointer (some ⟨gb, 0, none⟩)] (fun x_ : S41 => .agg #[.int .i64 x_.f0, .string x_.f1, .int .i64 x_.f2, .int .i64 x_.f3, .int .i64 x_.f4, .int .i64 x_.f5, .int .i64 x_.f6, .int .i64 x_.f7]) (Ho.notO p) w := by
  refine ⟨fun W x b hB hx => ?_⟩
  have hcall : Calls Tryd.prog gg (#[.agg #[.int .i64 x.f0, .string x.f1, .int .i64 x.f2, .int .i64 x.f3, .int .i64 x.f4, .int .i64 x.f5, .int .i64 x.f6, .int .i64 x.f7]] ++ lb) (W.alloc (.cells #[.int .i64 x.f0, .string x.f1, .int .i64 x.f2, .int .i64 x.f3, .int .i64 x.f4, .int .i64 x.f5, .int .i64 x.f6, .int .i64 x.f7] 41)) _ := hp.calls _ x (!b) (below_alloc hB _) (Ho.notO_of hx)
  have hc : W.cell? ⟨gb, 0, none⟩ = some (.func (.func gg) #[] lb) := (blk_cell (blk_below hb hB) 0).trans rfl
  have hlt : gb < W.heap.size := blk_lt (blk_below hb hB)
  have hne : ¬ gb = W.heap.size := by omega
  have HB := Ak hB
  clear hp hb hx hB
  go_enter Tryd.func103, Tryd.ntmps103
  go_wp2_with (with_reducible refine Calls.mono hcall ?_; rintro e w' ⟨rfl, hb'⟩)
  go_ret
  exact ⟨by simp, below_then (below_alloc (Below.refl _ _) _) (by simp) hb'⟩
set_option maxHeartbeats 8000000 in
set_option maxRecDepth 100000 in
theorem ho_all70 (p : S41 → Option Bool) (gg : Nat) (lb : Array Value) (eg : ∀ args w, (callFunc gg args).run Tryd.prog w = .ok (.enter gg args) w) (w : World) (hp : Ho.PredO Tryd.prog gg lb (fun x_ : S41 => .agg #[.int .i64 x_.f0, .string x_.f1, .int .i64 x_.f2, .int .i64 x_.f3, .int .i64 x_.f4, .int .i64 x_.f5, .int .i64 x_.f6, .int .i64 x_.f7]) p w)
    (A0 : Option Addr) (c0 : Nat) (l0 : List S41) (r : Bool) (hr0 : Kd.C k41 w A0 l0.length l0) (hc0 : l0.length ≤ c0) (h : Ho.allO p l0 = some r) :
    Calls Tryd.prog 70 #[.slice A0 l0.length c0, .func (.func gg) #[] lb] w fun e w' => e = .returned (.bool r) ∧ Below w.heap.size w w' := by
  have hh := Ho.allO_of h
  have ec : ∀ args w, (callFunc 103 args).run Tryd.prog w = .ok (.enter 103 args) w := fun args w => by kernel_rfl
  have HC : ∀ W : World, Below w.heap.size w W → W.heap[w.heap.size]? = some (.cells #[.func (.func gg) #[] lb] 40 (0, 0)) → _ := fun W hB hbx => ho_has102 (Ho.notO p) 103 #[.pointer (some ⟨w.heap.size, 0, none⟩)] ec W (ho_not103 p gg lb eg W (hp.below hB) w.heap.size 40 hbx) A0 c0 l0 (!r) (Kd.C_below hr0 hB) hc0 hh
  clear hp hr0 h hh ec
  go_enter Tryd.func70, Tryd.ntmps70
  go_wp2_with (go_at_call 102; refine (HC _ (below_alloc (Below.refl _ _) _) (blk_new _ _)).mono ?_; rintro e w' ⟨rfl, hb'⟩)
  go_ret
  exact ⟨by simp, below_then (below_alloc (Below.refl _ _) _) (by simp) hb'⟩
end Go.Proofs.YtahfahlbdgbfeaaDoor.X

namespace Go.Proofs.YtahfahlbdgbfeaaDoor.X
open Ho (bS eS RS Ak Cs Ct Cd)
open Go.RowKit Go.Proofs.YtahfahlbdgbfeaaDoorW.PrintWords Go.Proofs.YtahfahlbdgbfeaaDoorW.PrintLast Go.Proofs.YtahfahlbdgbfeaaDoorW.PrintMore
attribute [local go_sem] max2_int min2_int max_two min_two max_three min_three max_four min_four   -- for this text's walks alone
set_option linter.unusedVariables false
set_option linter.unusedSimpArgs false
open Sq (I O Z Dz)
/-! ### Fz: function 68 -/
def Fz.f (a0 : Int) (a1 : Int) (a2 : Int) : Option (Bool) := if a0 ≥ a1 then (some (decide (a0 ≤ a2))) else (some false)
set_option maxHeartbeats 8000000 in
set_option maxRecDepth 100000 in
theorem Fz.calls (a0 : Int) (a1 : Int) (a2 : Int) (r : Bool) (w : World) (h : Fz.f a0 a1 a2 = some r) :
  Calls Tryd.prog 68 #[.int .i64 a0, .int .i64 a1, .int .i64 a2] w fun e w' => e = .returned (.bool r) ∧ Drawn0 w w' := by
 have H : (if a0 ≥ a1 then (some (decide (a0 ≤ a2))) else (some false)) = some r := h
 clear h
 by_cases c4 : a0 ≥ a1
 ·rw [if_pos c4] at H
  have c4b0 : decide (a1 ≤ a0) = true := decide_eq_true c4
  clear c4
  obtain rfl := Option.some.inj H
  go_enter Tryd.func68, Tryd.ntmps68
  go_wp2
  go_ret
  exact ⟨by first | rfl | (simp; done) | (simp [*]; done), by repeat (first | exact Drawn0.refl _ | apply Drawn0.step)⟩
 ·rw [if_neg c4] at H
  have c4b0 : decide (a1 ≤ a0) = false := decide_eq_false c4
  clear c4
  obtain rfl := Option.some.inj H
  go_enter Tryd.func68, Tryd.ntmps68
  go_wp2
  go_ret
  exact ⟨by first | rfl | (simp; done) | (simp [*]; done), by repeat (first | exact Drawn0.refl _ | apply Drawn0.step)⟩
/-! ### Fap: function 69 -/
def Fap.f (a0 : Int) : Option (Bool) := (Fz.f a0 0 4000).bind fun t101 => (some t101)
set_option maxHeartbeats 8000000 in
set_option maxRecDepth 100000 in
theorem Fap.calls (a0 : Int) (r : Bool) (w : World) (h : Fap.f a0 = some r) :
  Calls Tryd.prog 69 #[.int .i64 a0] w fun e w' => e = .returned (.bool r) ∧ Drawn0 w w' := by
 have H : ((Fz.f a0 0 4000).bind fun t101 => (some t101)) = some r := h
 clear h
 replace H := Option.bind_eq_some_iff.mp H
 obtain ⟨t101, A20, H⟩ := H
 replace H : (some t101) = some r := H
 have A2 := Ak A20
 clear A20
 obtain rfl := Option.some.inj H
 go_enter Tryd.func69, Tryd.ntmps69
 go_wp2_with (first | ((with_reducible refine gate_callee (f := 68) rfl ?_); refine goesL_ (some 4) rfl rfl Tryd.func68 (by kernel_rfl) rfl #[.int .i64 a0, .int .i64 0, .int .i64 4000] rfl (by (try simp only [List.map_toArray, List.map_cons, List.map_nil]); first | done | rfl | (simp only [List.length_drop, List.length_take]; rfl)) ?_; (with_reducible refine (Fz.calls a0 0 4000 t101 _ A2.out).mono ?_); rintro e w' ⟨rfl, ⟨nd, rfl⟩⟩; refine ⟨_, rfl, ?_⟩))
 go_ret
 exact ⟨by first | rfl | (simp; done) | (simp [*]; done), by repeat (first | exact Drawn0.refl _ | apply Drawn0.step)⟩
/-! ### Faj: function 63 -/
def Faj.f (a0 : Int) : Option (Bool) := (Fz.f a0 1 999).bind fun t101 => (some t101)
set_option maxHeartbeats 8000000 in
set_option maxRecDepth 100000 in
theorem Faj.calls (a0 : Int) (r : Bool) (w : World) (h : Faj.f a0 = some r) :
  Calls Tryd.prog 63 #[.int .i64 a0] w fun e w' => e = .returned (.bool r) ∧ Drawn0 w w' := by
 have H : ((Fz.f a0 1 999).bind fun t101 => (some t101)) = some r := h
 clear h
 replace H := Option.bind_eq_some_iff.mp H
 obtain ⟨t101, A20, H⟩ := H
 replace H : (some t101) = some r := H
 have A2 := Ak A20
 clear A20
 obtain rfl := Option.some.inj H
 go_enter Tryd.func63, Tryd.ntmps63
 go_wp2_with (first | ((with_reducible refine gate_callee (f := 68) rfl ?_); refine goesL_ (some 4) rfl rfl Tryd.func68 (by kernel_rfl) rfl #[.int .i64 a0, .int .i64 1, .int .i64 999] rfl (by (try simp only [List.map_toArray, List.map_cons, List.map_nil]); first | done | rfl | (simp only [List.length_drop, List.length_take]; rfl)) ?_; (with_reducible refine (Fz.calls a0 1 999 t101 _ A2.out).mono ?_); rintro e w' ⟨rfl, ⟨nd, rfl⟩⟩; refine ⟨_, rfl, ?_⟩))
 go_ret
 exact ⟨by first | rfl | (simp; done) | (simp [*]; done), by repeat (first | exact Drawn0.refl _ | apply Drawn0.step)⟩
/-! ### Fak: function 67 -/
def Fak.f (a0 : Int) : Option (Bool) := (Fz.f a0 0 10000000).bind fun t101 => (some t101)
set_option maxHeartbeats 8000000 in
set_option maxRecDepth 100000 in
theorem Fak.calls (a0 : Int) (r : Bool) (w : World) (h : Fak.f a0 = some r) :
  Calls Tryd.prog 67 #[.int .i64 a0] w fun e w' => e = .returned (.bool r) ∧ Drawn0 w w' := by
 have H : ((Fz.f a0 0 10000000).bind fun t101 => (some t101)) = some r := h
 clear h
 replace H := Option.bind_eq_some_iff.mp H
 obtain ⟨t101, A20, H⟩ := H
 replace H : (some t101) = some r := H
 have A2 := Ak A20
 clear A20
 obtain rfl := Option.some.inj H
 go_enter Tryd.func67, Tryd.ntmps67
 go_wp2_with (first | ((with_reducible refine gate_callee (f := 68) rfl ?_); refine goesL_ (some 4) rfl rfl Tryd.func68 (by kernel_rfl) rfl #[.int .i64 a0, .int .i64 0, .int .i64 10000000] rfl (by (try simp only [List.map_toArray, List.map_cons, List.map_nil]); first | done | rfl | (simp only [List.length_drop, List.length_take]; rfl)) ?_; (with_reducible refine (Fz.calls a0 0 10000000 t101 _ A2.out).mono ?_); rintro e w' ⟨rfl, ⟨nd, rfl⟩⟩; refine ⟨_, rfl, ?_⟩))
 go_ret
 exact ⟨by first | rfl | (simp; done) | (simp [*]; done), by repeat (first | exact Drawn0.refl _ | apply Drawn0.step)⟩
/-! ### Fal: function 66 -/
def Fal.f (a0 : Int) : Option (Bool) := (Fz.f a0 0 5).bind fun t101 => (some t101)
set_option maxHeartbeats 8000000 in
set_option maxRecDepth 100000 in
theorem Fal.calls (a0 : Int) (r : Bool) (w : World) (h : Fal.f a0 = some r) :
  Calls Tryd.prog 66 #[.int .i64 a0] w fun e w' => e = .returned (.bool r) ∧ Drawn0 w w' := by
 have H : ((Fz.f a0 0 5).bind fun t101 => (some t101)) = some r := h
 clear h
 replace H := Option.bind_eq_some_iff.mp H
 obtain ⟨t101, A20, H⟩ := H
 replace H : (some t101) = some r := H
 have A2 := Ak A20
 clear A20
 obtain rfl := Option.some.inj H
 go_enter Tryd.func66, Tryd.ntmps66
 go_wp2_with (first | ((with_reducible refine gate_callee (f := 68) rfl ?_); refine goesL_ (some 4) rfl rfl Tryd.func68 (by kernel_rfl) rfl #[.int .i64 a0, .int .i64 0, .int .i64 5] rfl (by (try simp only [List.map_toArray, List.map_cons, List.map_nil]); first | done | rfl | (simp only [List.length_drop, List.length_take]; rfl)) ?_; (with_reducible refine (Fz.calls a0 0 5 t101 _ A2.out).mono ?_); rintro e w' ⟨rfl, ⟨nd, rfl⟩⟩; refine ⟨_, rfl, ?_⟩))
 go_ret
 exact ⟨by first | rfl | (simp; done) | (simp [*]; done), by repeat (first | exact Drawn0.refl _ | apply Drawn0.step)⟩
/-! ### Fac: function 65 -/
def Fac.f (a0 : Int) : Option (Bool) := (Fz.f a0 30 600).bind fun t101 => (some t101)
set_option maxHeartbeats 8000000 in
set_option maxRecDepth 100000 in
theorem Fac.calls (a0 : Int) (r : Bool) (w : World) (h : Fac.f a0 = some r) :
  Calls Tryd.prog 65 #[.int .i64 a0] w fun e w' => e = .returned (.bool r) ∧ Drawn0 w w' := by
 have H : ((Fz.f a0 30 600).bind fun t101 => (some t101)) = some r := h
 clear h
 replace H := Option.bind_eq_some_iff.mp H
 obtain ⟨t101, A20, H⟩ := H
 replace H : (some t101) = some r := H
 have A2 := Ak A20
 clear A20
 obtain rfl := Option.some.inj H
 go_enter Tryd.func65, Tryd.ntmps65
 go_wp2_with (first | ((with_reducible refine gate_callee (f := 68) rfl ?_); refine goesL_ (some 4) rfl rfl Tryd.func68 (by kernel_rfl) rfl #[.int .i64 a0, .int .i64 30, .int .i64 600] rfl (by (try simp only [List.map_toArray, List.map_cons, List.map_nil]); first | done | rfl | (simp only [List.length_drop, List.length_take]; rfl)) ?_; (with_reducible refine (Fz.calls a0 30 600 t101 _ A2.out).mono ?_); rintro e w' ⟨rfl, ⟨nd, rfl⟩⟩; refine ⟨_, rfl, ?_⟩))
 go_ret
 exact ⟨by first | rfl | (simp; done) | (simp [*]; done), by repeat (first | exact Drawn0.refl _ | apply Drawn0.step)⟩
end Go.Proofs.YtahfahlbdgbfeaaDoor.X

namespace Go.Proofs
open Go.Shelf
def Tryd.lays160_ren : Go.Shelf.Ren := ⟨fun | 160 => 101 | 232 => 121 | 231 => 120 | 227 => 122 | 234 => 124 | 233 => 123 | 236 => 126 | 235 => 125 | 228 => 135 | 271 => 138 | 151 => 137 | 197 => 136 | 120 => 143 | 152 => 142 | 260 => 141 | 137 => 145 | 119 => 146 | 224 => 147 | 225 => 148 | 217 => 149 | 266 => 150 | n => n, fun | 9 => 9 | 4 => 4 | 3 => 3 | 5 => 5 | 117 => 112 | 116 => 111 | 0 => 0 | 124 => 115 | 21 => 21 | 105 => 126 | 46 => 94 | 119 => 133 | 139 => 136 | 138 => 135 | n => n, fun | 3 => 0 | 4 => 1 | n => n⟩
theorem Tryd.lays160 : Go.Proofs.Lays.n160 Tryd.prog Tryd.lays160_ren := {
  mixed := by kernel_rfl
  f119 := Tryd.func146.trans (congrArg some (by kernel_rfl))
  f120 := Tryd.func143.trans (congrArg some (by kernel_rfl))
  f137 := Tryd.func145.trans (congrArg some (by kernel_rfl))
  f151 := Tryd.func137.trans (congrArg some (by kernel_rfl))
  f152 := Tryd.func142.trans (congrArg some (by kernel_rfl))
  f160 := Tryd.func101.trans (congrArg some (by kernel_rfl))
  f197 := Tryd.func136.trans (congrArg some (by kernel_rfl))
  f217 := Tryd.func149.trans (congrArg some (by kernel_rfl))
  f224 := Tryd.func147.trans (congrArg some (by kernel_rfl))
  f225 := Tryd.func148.trans (congrArg some (by kernel_rfl))
  f227 := Tryd.func122.trans (congrArg some (by kernel_rfl))
  f228 := Tryd.func135.trans (congrArg some (by kernel_rfl))
  f231 := Tryd.func120.trans (congrArg some (by kernel_rfl))
  f232 := Tryd.func121.trans (congrArg some (by kernel_rfl))
  f233 := Tryd.func123.trans (congrArg some (by kernel_rfl))
  f234 := Tryd.func124.trans (congrArg some (by kernel_rfl))
  f235 := Tryd.func125.trans (congrArg some (by kernel_rfl))
  f236 := Tryd.func126.trans (congrArg some (by kernel_rfl))
  f260 := Tryd.func141.trans (congrArg some (by kernel_rfl))
  f266 := Tryd.func150.trans (congrArg some (by kernel_rfl))
  f271 := Tryd.func138.trans (congrArg some (by kernel_rfl))
  t0 := Tryd.underlying0
  a0 := Tryd.isAgg0
  z0 := Tryd.sizeOf0
  v0 := Tryd.zeroValue0
  t3 := Tryd.underlying3
  a3 := Tryd.isAgg3
  z3 := Tryd.sizeOf3
  v3 := Tryd.zeroValue3
  t4 := Tryd.underlying4
  a4 := Tryd.isAgg4
  z4 := Tryd.sizeOf4
  v4 := Tryd.zeroValue4
  t5 := Tryd.underlying5
  a5 := Tryd.isAgg5
  z5 := Tryd.sizeOf5
  v5 := Tryd.zeroValue5
  t9 := Tryd.underlying9
  a9 := Tryd.isAgg9
  z9 := Tryd.sizeOf9
  v9 := Tryd.zeroValue9
  t21 := Tryd.underlying21
  a21 := Tryd.isAgg21
  z21 := Tryd.sizeOf21
  v21 := Tryd.zeroValue21
  t46 := Tryd.underlying94
  a46 := Tryd.isAgg94
  z46 := Tryd.sizeOf94
  v46 := Tryd.zeroValue94
  t105 := Tryd.underlying126
  a105 := Tryd.isAgg126
  z105 := Tryd.sizeOf126
  v105 := Tryd.zeroValue126
  t116 := Tryd.underlying111
  a116 := Tryd.isAgg111
  z116 := Tryd.sizeOf111
  t117 := Tryd.underlying112
  a117 := Tryd.isAgg112
  z117 := Tryd.sizeOf112
  v117 := Tryd.zeroValue112
  t119 := Tryd.underlying133
  a119 := Tryd.isAgg133
  z119 := Tryd.sizeOf133
  t124 := Tryd.underlying115
  a124 := Tryd.isAgg115
  z124 := Tryd.sizeOf115
  v124 := Tryd.zeroValue115
  t138 := Tryd.underlying135
  a138 := Tryd.isAgg135
  z138 := Tryd.sizeOf135
  v138 := Tryd.zeroValue135
  t139 := Tryd.underlying136
  a139 := Tryd.isAgg136
  z139 := Tryd.sizeOf136
  v139 := Tryd.zeroValue136
  g3 := by kernel_rfl
  g4 := by kernel_rfl }
end Go.Proofs

namespace Go.Proofs.YtahfahlbdgbfeaaDoor.X
open Ho (bS eS RS Ak Cs Ct Cd)
open Go.RowKit Go.Proofs.YtahfahlbdgbfeaaDoorW.PrintWords Go.Proofs.YtahfahlbdgbfeaaDoorW.PrintLast Go.Proofs.YtahfahlbdgbfeaaDoorW.PrintMore
attribute [local go_sem] max2_int min2_int max_two min_two max_three min_three max_four min_four   -- for this text's walks alone
set_option linter.unusedVariables false
set_option linter.unusedSimpArgs false
open Sq (I O Z Dz)
/-! ### Fah: function 101 -/
def Fah.f (a0 : ByteArray) (a1 : ByteArray) : Option (ByteArray) := if a0.size ≤ 9223372036854775807 ∧ a1.size < 4294967281 ∧ (a1.data.toList.all fun b => decide (b.toNat < 128)) = true then some ⟨(Go.Lib.trimS a0.data.toList a1.data.toList).toArray⟩ else none
theorem Fah.calls (a0 : ByteArray) (a1 : ByteArray) (r : ByteArray) (w : World) (h : Fah.f a0 a1 = some r) :
  Calls Tryd.prog 101 #[.string a0, .string a1] w fun e w' => e = .returned (.string r) ∧ Below w.heap.size w w' := by
 unfold Fah.f at h
 split at h
 ·rename_i hc
  obtain ⟨h1, h2, h3⟩ := hc
  obtain rfl := Option.some.inj h
  exact Any.strings_Trim_laid Tryd.lays160 (by kernel_rfl) a0 a1 w h1 h2 (ascii_of_all h3)
 ·exact absurd h (by simp)
/-! ### Fam: function 64 -/
def Fam.f (a0 : ByteArray) : Option (Bool) := (Fz.f (a0.size : Int) 1 10).bind fun t101 => (if t101 = true then ((Fah.f a0 (⟨#[97, 98, 99, 100, 101, 102, 103, 104, 105, 106, 107, 108, 109, 110, 111, 112, 113, 114, 115, 116, 117, 118, 119, 120, 121, 122]⟩ : ByteArray)).bind fun t102 => (some (t102.toList == ([] : List UInt8)))) else (some false))
set_option maxHeartbeats 8000000 in
set_option maxRecDepth 100000 in
theorem Fam.calls (a0 : ByteArray) (r : Bool) (w : World) (h : Fam.f a0 = some r) :
  Calls Tryd.prog 64 #[.string a0] w fun e w' => e = .returned (.bool r) ∧ Below w.heap.size w w' := by
 have HB := Ak (Below.refl w.heap.size w)
 have H : ((Fz.f (a0.size : Int) 1 10).bind fun t101 => (if t101 = true then ((Fah.f a0 (⟨#[97, 98, 99, 100, 101, 102, 103, 104, 105, 106, 107, 108, 109, 110, 111, 112, 113, 114, 115, 116, 117, 118, 119, 120, 121, 122]⟩ : ByteArray)).bind fun t102 => (some (t102.toList == ([] : List UInt8)))) else (some false))) = some r := h
 clear h
 replace H := Option.bind_eq_some_iff.mp H
 obtain ⟨t101, A20, H⟩ := H
 replace H : (if t101 = true then ((Fah.f a0 (⟨#[97, 98, 99, 100, 101, 102, 103, 104, 105, 106, 107, 108, 109, 110, 111, 112, 113, 114, 115, 116, 117, 118, 119, 120, 121, 122]⟩ : ByteArray)).bind fun t102 => (some (t102.toList == ([] : List UInt8)))) else (some false)) = some r := H
 have A2 := Ak A20
 clear A20
 by_cases c3 : t101 = true
 ·subst c3
  have H1 : ((Fah.f a0 (⟨#[97, 98, 99, 100, 101, 102, 103, 104, 105, 106, 107, 108, 109, 110, 111, 112, 113, 114, 115, 116, 117, 118, 119, 120, 121, 122]⟩ : ByteArray)).bind fun t102 => (some (t102.toList == ([] : List UInt8)))) = some r := by rw [if_pos rfl] at H; exact H
  clear H
  have H := H1
  clear H1
  replace H := Option.bind_eq_some_iff.mp H
  obtain ⟨t102, A40, H⟩ := H
  replace H : (some (t102.toList == ([] : List UInt8))) = some r := H
  have A4 := Ak A40
  clear A40
  obtain rfl := Option.some.inj H
  go_enter Tryd.func64, Tryd.ntmps64
  go_wp2_with (first | ((with_reducible refine gate_callee (f := 68) rfl ?_); refine goesL_ (some 5) rfl rfl Tryd.func68 (by kernel_rfl) rfl #[.int .i64 (a0.size : Int), .int .i64 1, .int .i64 10] rfl (by (try simp only [List.map_toArray, List.map_cons, List.map_nil]); first | done | rfl | (simp only [List.length_drop, List.length_take]; rfl)) ?_; (with_reducible refine (Fz.calls (a0.size : Int) 1 10 true _ A2.out).mono ?_); rintro e w' ⟨rfl, ⟨nd, rfl⟩⟩; refine ⟨_, rfl, ?_⟩) | (go_at_call 101; (with_reducible refine (Fah.calls a0 (⟨#[97, 98, 99, 100, 101, 102, 103, 104, 105, 106, 107, 108, 109, 110, 111, 112, 113, 114, 115, 116, 117, 118, 119, 120, 121, 122]⟩ : ByteArray) t102 _ A4.out).mono ?_); rintro e w5 ⟨rfl, hb⟩; have n0_ := Ak (below_step (by exact eS HB.out) hb); clear HB; have HB := n0_; clear n0_; (try clear hb); (try clear hb2); (try clear hk); (try clear hi)))
  go_ret
  exact ⟨by first | rfl | (simp [errW_none, errW_some] <;> rfl) | (simp [*, errW_none, errW_some] <;> rfl), by exact eS HB.out⟩
 ·replace c3 := Bool.eq_false_iff.mpr c3
  subst c3
  have H1 : (some false) = some r := by rw [if_neg (show ¬ (false = true) by decide)] at H; exact H
  clear H
  have H := H1
  clear H1
  obtain rfl := Option.some.inj H
  go_enter Tryd.func64, Tryd.ntmps64
  go_wp2_with (first | ((with_reducible refine gate_callee (f := 68) rfl ?_); refine goesL_ (some 5) rfl rfl Tryd.func68 (by kernel_rfl) rfl #[.int .i64 (a0.size : Int), .int .i64 1, .int .i64 10] rfl (by (try simp only [List.map_toArray, List.map_cons, List.map_nil]); first | done | rfl | (simp only [List.length_drop, List.length_take]; rfl)) ?_; (with_reducible refine (Fz.calls (a0.size : Int) 1 10 false _ A2.out).mono ?_); rintro e w' ⟨rfl, ⟨nd, rfl⟩⟩; refine ⟨_, rfl, ?_⟩))
  go_ret
  exact ⟨by first | rfl | (simp [errW_none, errW_some] <;> rfl) | (simp [*, errW_none, errW_some] <;> rfl), by exact eS HB.out⟩
end Go.Proofs.YtahfahlbdgbfeaaDoor.X

namespace Go.Proofs.YtahfahlbdgbfeaaDoor.X
open Ho (bS eS RS Ak Cs Ct Cd)
open Go.RowKit Go.Proofs.YtahfahlbdgbfeaaDoorW.PrintWords Go.Proofs.YtahfahlbdgbfeaaDoorW.PrintLast Go.Proofs.YtahfahlbdgbfeaaDoorW.PrintMore
attribute [local go_sem] max2_int min2_int max_two min_two max_three min_three max_four min_four   -- for this text's walks alone
set_option linter.unusedVariables false
set_option linter.unusedSimpArgs false
attribute [local go_sem ↓] Ho.isSome_setCell_   -- a store leaves all places there
/-! ### Fg: function 29 -/
def Fg.j0 : Nat → Bool → Int → ByteArray → Int → Int → Int → Int → Int → Int → Option (Bool)
  | 0, _, _, _, _, _, _, _, _, _ => none
  | k + 1, x3, x102000, x102001, x102002, x102003, x102004, x102005, x102006, x102007 => if x3 = true then ((Fal.f x102004).bind fun t106 => (if t106 = true then ((Fak.f x102005).bind fun t107 => (if t107 = true then ((Fz.f x102006 0 x102005).bind fun t108 => (if t108 = true then ((Fap.f x102007).bind fun t109 => (some t109)) else (some false))) else (some false))) else (some false))) else (some false)
def Fg.f (k : Nat) (a0_0 : Int) (a0_1 : ByteArray) (a0_2 : Int) (a0_3 : Int) (a0_4 : Int) (a0_5 : Int) (a0_6 : Int) (a0_7 : Int) : Option (Bool) := (Faj.f a0_0).bind fun t102 => (if t102 = true then ((Fam.f a0_1).bind fun t103 => (if t103 = true then ((Fac.f a0_2).bind fun t104 => (if t104 = true then ((Fac.f a0_3).bind fun t105 => (Fg.j0 k t105 a0_0 a0_1 a0_2 a0_3 a0_4 a0_5 a0_6 a0_7)) else (Fg.j0 k false a0_0 a0_1 a0_2 a0_3 a0_4 a0_5 a0_6 a0_7))) else (Fg.j0 k false a0_0 a0_1 a0_2 a0_3 a0_4 a0_5 a0_6 a0_7))) else (Fg.j0 k false a0_0 a0_1 a0_2 a0_3 a0_4 a0_5 a0_6 a0_7))
theorem Fg.mono_l : ∀ k, (∀ y0 y1 y2 y3 y4 y5 y6 y7 y8, LeO (Fg.j0 k y0 y1 y2 y3 y4 y5 y6 y7 y8) (Fg.j0 (k + 1) y0 y1 y2 y3 y4 y5 y6 y7 y8))
  | 0 => fun _ _ _ _ _ _ _ _ _ r h => by simp [Fg.j0] at h
  | k + 1 => by
    have ih0 := Fg.mono_l k
    · intro y0 y1 y2 y3 y4 y5 y6 y7 y8
      unfold Fg.j0
      repeat' first | (with_reducible first | exact ih0 _ _ _ _ _ _ _ _ _ | exact LeO.refl _ | exact LeO.none _ | refine LeO.ite ?_ ?_ | refine LeO.bind ?_ (fun _ => ?_)) | exact ih0 _ _ _ _ _ _ _ _ _ | exact LeO.none _ | refine LeO.ite ?_ ?_ | refine LeO.bind ?_ (fun _ => ?_)
theorem Fg.mono : ∀ a0 a1 a2 a3 a4 a5 a6 a7 k, LeO (Fg.f k a0 a1 a2 a3 a4 a5 a6 a7) (Fg.f (k + 1) a0 a1 a2 a3 a4 a5 a6 a7) := by
  intro a0 a1 a2 a3 a4 a5 a6 a7 k
  have ih0 := Fg.mono_l k
  unfold Fg.f
  repeat' first | (with_reducible first | exact ih0 _ _ _ _ _ _ _ _ _ | exact LeO.refl _ | exact LeO.none _ | refine LeO.ite ?_ ?_ | refine LeO.bind ?_ (fun _ => ?_)) | exact ih0 _ _ _ _ _ _ _ _ _ | exact LeO.none _ | refine LeO.ite ?_ ?_ | refine LeO.bind ?_ (fun _ => ?_)
set_option maxHeartbeats 8000000 in
set_option maxRecDepth 100000 in
theorem Fg.calls (k : Nat) (a0_0 : Int) (a0_1 : ByteArray) (a0_2 : Int) (a0_3 : Int) (a0_4 : Int) (a0_5 : Int) (a0_6 : Int) (a0_7 : Int) (r : Bool) (w : World) (h : Fg.f k a0_0 a0_1 a0_2 a0_3 a0_4 a0_5 a0_6 a0_7 = some r) :
  Calls Tryd.prog 29 #[.agg #[.int .i64 a0_0, .string a0_1, .int .i64 a0_2, .int .i64 a0_3, .int .i64 a0_4, .int .i64 a0_5, .int .i64 a0_6, .int .i64 a0_7]] w fun e w' => e = .returned (.bool r) ∧ Below w.heap.size w w' := by
 have hu41 := Tryd.underlying41
 have HB := Ak (Below.refl w.heap.size w)
 have H : ((Faj.f a0_0).bind fun t102 => (if t102 = true then ((Fam.f a0_1).bind fun t103 => (if t103 = true then ((Fac.f a0_2).bind fun t104 => (if t104 = true then ((Fac.f a0_3).bind fun t105 => (Fg.j0 k t105 a0_0 a0_1 a0_2 a0_3 a0_4 a0_5 a0_6 a0_7)) else (Fg.j0 k false a0_0 a0_1 a0_2 a0_3 a0_4 a0_5 a0_6 a0_7))) else (Fg.j0 k false a0_0 a0_1 a0_2 a0_3 a0_4 a0_5 a0_6 a0_7))) else (Fg.j0 k false a0_0 a0_1 a0_2 a0_3 a0_4 a0_5 a0_6 a0_7))) = some r := h
 clear h
 have HC2 := Ak H
 clear H
 go_enter Tryd.func29, Tryd.ntmps29
 go_upto_region 1 with (first | ((with_reducible refine gate_dst (N := 1) rfl ?_); refine box_event ?hg (N := 1) ?hd (cs := #[.int .i64 a0_0, .string a0_1, .int .i64 a0_2, .int .i64 a0_3, .int .i64 a0_4, .int .i64 a0_5, .int .i64 a0_6, .int .i64 a0_7]) (t := 41) ?hr ?_; (case hd => rfl); (case hg => rfl); (case hr => first | (go_simp; done) | (go_simp; rfl)); intro gb101 hg w3 hbox hb; have n0_ := Ak (below_step (by exact eS HB.out) hb); have n1_ := Ak (hbox); have n2_ := Ak ((by rw [hg]; exact (below_size (by exact eS HB.out)) : w.heap.size ≤ gb101)); have n3_ := Ak ((by rw [hg]; exact (below_size (by exact eS HB.out)) : w.heap.size ≤ gb101)); clear HB; have HB := n0_; have BK101 := n1_; have GW101 := n2_; have GE101 := n3_; clear n0_ n1_ n2_ n3_; clear hb hbox hg))
 (try simp only [Act.put, List.setIfInBounds_toArray, List.set_cons_zero, List.set_cons_succ])
 go_cut [3] (fun v3 wc => ∃ (kq : Nat) (x3_1 : Bool), v3 = .bool x3_1 ∧ Aside0 (Fg.j0 kq x3_1 a0_0 a0_1 a0_2 a0_3 a0_4 a0_5 a0_6 a0_7 = some r) ∧ Aside0 (kq ≤ k) ∧ Aside0 (wc.heap[gb101]? = some (.cells #[.int .i64 a0_0, .string a0_1, .int .i64 a0_2, .int .i64 a0_3, .int .i64 a0_4, .int .i64 a0_5, .int .i64 a0_6, .int .i64 a0_7] 41 (0, 0))) ∧ Aside0 (Below w.heap.size w wc))
 case first =>
  have H := HC2.out
  clear HC2
  replace H := Option.bind_eq_some_iff.mp H
  obtain ⟨t102, A40, H⟩ := H
  (try dsimp only at H)
  have A4 := Ak A40
  clear A40
  by_cases c5 : t102 = true
  rotate_left
  ·replace c5 := Bool.eq_false_iff.mpr c5
   subst c5
   have H1 : (Fg.j0 k false a0_0 a0_1 a0_2 a0_3 a0_4 a0_5 a0_6 a0_7) = some r := by rw [if_neg (show ¬ (false = true) by decide)] at H; exact H
   clear H
   have H := H1
   clear H1
   have H' := Ak H
   clear H
   obtain ⟨hcz19_0, hcz19_1, hcz19_2, hcz19_3, hcz19_4, hcz19_5, hcz19_6, hcz19_7, hfz19_0, hfz19_1, hfz19_2, hfz19_3, hfz19_4, hfz19_5, hfz19_6, hfz19_7⟩ := Sq.c8 BK101.out
   go_wp2_with (first | ((with_reducible refine gate_callee (f := 63) rfl ?_); refine goesL_ (some 6) rfl rfl Tryd.func63 (by kernel_rfl) rfl #[.int .i64 a0_0] rfl (by (try simp only [List.map_toArray, List.map_cons, List.map_nil]); first | done | rfl | (simp only [List.length_drop, List.length_take]; rfl)) ?_; (with_reducible refine (Faj.calls a0_0 false _ A4.out).mono ?_); rintro e w' ⟨rfl, ⟨nd, rfl⟩⟩; refine ⟨_, rfl, ?_⟩))
   go_meet
   case rel => exact ⟨_, (false), (by first | rfl | (simp; done) | (simp [*]; done)), H', ⟨by first | omega | exact Nat.le_refl _⟩, ⟨by exact bS BK101.out⟩, ⟨by exact eS HB.out⟩⟩
  subst c5
  have H1 : ((Fam.f a0_1).bind fun t103 => (if t103 = true then ((Fac.f a0_2).bind fun t104 => (if t104 = true then ((Fac.f a0_3).bind fun t105 => (Fg.j0 k t105 a0_0 a0_1 a0_2 a0_3 a0_4 a0_5 a0_6 a0_7)) else (Fg.j0 k false a0_0 a0_1 a0_2 a0_3 a0_4 a0_5 a0_6 a0_7))) else (Fg.j0 k false a0_0 a0_1 a0_2 a0_3 a0_4 a0_5 a0_6 a0_7))) = some r := by rw [if_pos rfl] at H; exact H
  clear H
  have H := H1
  clear H1
  replace H := Option.bind_eq_some_iff.mp H
  obtain ⟨t103, A60, H⟩ := H
  (try dsimp only at H)
  have A6 := Ak A60
  clear A60
  by_cases c7 : t103 = true
  rotate_left
  ·replace c7 := Bool.eq_false_iff.mpr c7
   subst c7
   have H1 : (Fg.j0 k false a0_0 a0_1 a0_2 a0_3 a0_4 a0_5 a0_6 a0_7) = some r := by rw [if_neg (show ¬ (false = true) by decide)] at H; exact H
   clear H
   have H := H1
   clear H1
   have H' := Ak H
   clear H
   obtain ⟨hcz17_0, hcz17_1, hcz17_2, hcz17_3, hcz17_4, hcz17_5, hcz17_6, hcz17_7, hfz17_0, hfz17_1, hfz17_2, hfz17_3, hfz17_4, hfz17_5, hfz17_6, hfz17_7⟩ := Sq.c8 BK101.out
   go_wp2_with (first | ((with_reducible refine gate_callee (f := 63) rfl ?_); refine goesL_ (some 6) rfl rfl Tryd.func63 (by kernel_rfl) rfl #[.int .i64 a0_0] rfl (by (try simp only [List.map_toArray, List.map_cons, List.map_nil]); first | done | rfl | (simp only [List.length_drop, List.length_take]; rfl)) ?_; (with_reducible refine (Faj.calls a0_0 true _ A4.out).mono ?_); rintro e w' ⟨rfl, ⟨nd, rfl⟩⟩; refine ⟨_, rfl, ?_⟩) | (go_at_call 64; (with_reducible refine (Fam.calls a0_1 false _ A6.out).mono ?_); rintro e w18 ⟨rfl, hb⟩; have n0_ := Ak (blk_below (bS BK101.out) hb); have n1_ := Ak (below_step (by exact eS HB.out) hb); clear BK101; clear HB; have BK101 := n0_; have HB := n1_; clear n0_ n1_; (try clear hb); (try clear hb2); (try clear hk); (try clear hi)))
   go_meet
   case rel => exact ⟨_, (false), (by first | rfl | (simp; done) | (simp [*]; done)), H', ⟨by first | omega | exact Nat.le_refl _⟩, ⟨by exact bS BK101.out⟩, ⟨by exact eS HB.out⟩⟩
  subst c7
  have H1 : ((Fac.f a0_2).bind fun t104 => (if t104 = true then ((Fac.f a0_3).bind fun t105 => (Fg.j0 k t105 a0_0 a0_1 a0_2 a0_3 a0_4 a0_5 a0_6 a0_7)) else (Fg.j0 k false a0_0 a0_1 a0_2 a0_3 a0_4 a0_5 a0_6 a0_7))) = some r := by rw [if_pos rfl] at H; exact H
  clear H
  have H := H1
  clear H1
  replace H := Option.bind_eq_some_iff.mp H
  obtain ⟨t104, A80, H⟩ := H
  (try dsimp only at H)
  have A8 := Ak A80
  clear A80
  by_cases c9 : t104 = true
  rotate_left
  ·replace c9 := Bool.eq_false_iff.mpr c9
   subst c9
   have H1 : (Fg.j0 k false a0_0 a0_1 a0_2 a0_3 a0_4 a0_5 a0_6 a0_7) = some r := by rw [if_neg (show ¬ (false = true) by decide)] at H; exact H
   clear H
   have H := H1
   clear H1
   have H' := Ak H
   clear H
   obtain ⟨hcz14_0, hcz14_1, hcz14_2, hcz14_3, hcz14_4, hcz14_5, hcz14_6, hcz14_7, hfz14_0, hfz14_1, hfz14_2, hfz14_3, hfz14_4, hfz14_5, hfz14_6, hfz14_7⟩ := Sq.c8 BK101.out
   go_wp2_with (first | ((with_reducible refine gate_callee (f := 63) rfl ?_); refine goesL_ (some 6) rfl rfl Tryd.func63 (by kernel_rfl) rfl #[.int .i64 a0_0] rfl (by (try simp only [List.map_toArray, List.map_cons, List.map_nil]); first | done | rfl | (simp only [List.length_drop, List.length_take]; rfl)) ?_; (with_reducible refine (Faj.calls a0_0 true _ A4.out).mono ?_); rintro e w' ⟨rfl, ⟨nd, rfl⟩⟩; refine ⟨_, rfl, ?_⟩) | (go_at_call 64; (with_reducible refine (Fam.calls a0_1 true _ A6.out).mono ?_); rintro e w15 ⟨rfl, hb⟩; have n0_ := Ak (blk_below (bS BK101.out) hb); have n1_ := Ak (below_step (by exact eS HB.out) hb); clear BK101; clear HB; have BK101 := n0_; have HB := n1_; clear n0_ n1_; (try clear hb); (try clear hb2); (try clear hk); (try clear hi); obtain ⟨hcz16_0, hcz16_1, hcz16_2, hcz16_3, hcz16_4, hcz16_5, hcz16_6, hcz16_7, hfz16_0, hfz16_1, hfz16_2, hfz16_3, hfz16_4, hfz16_5, hfz16_6, hfz16_7⟩ := Sq.c8 BK101.out) | (go_at_call 65; (with_reducible refine (Fac.calls a0_2 false _ A8.out).mono ?_); rintro e w' ⟨rfl, ⟨nd, rfl⟩⟩))
   go_meet
   case rel => exact ⟨_, (false), (by first | rfl | (simp; done) | (simp [*]; done)), H', ⟨by first | omega | exact Nat.le_refl _⟩, ⟨by exact bS BK101.out⟩, ⟨by exact eS HB.out⟩⟩
  subst c9
  have H1 : ((Fac.f a0_3).bind fun t105 => (Fg.j0 k t105 a0_0 a0_1 a0_2 a0_3 a0_4 a0_5 a0_6 a0_7)) = some r := by rw [if_pos rfl] at H; exact H
  clear H
  have H := H1
  clear H1
  replace H := Option.bind_eq_some_iff.mp H
  obtain ⟨t105, A100, H⟩ := H
  (try dsimp only at H)
  have A10 := Ak A100
  clear A100
  have H' := Ak H
  clear H
  obtain ⟨hcz11_0, hcz11_1, hcz11_2, hcz11_3, hcz11_4, hcz11_5, hcz11_6, hcz11_7, hfz11_0, hfz11_1, hfz11_2, hfz11_3, hfz11_4, hfz11_5, hfz11_6, hfz11_7⟩ := Sq.c8 BK101.out
  go_wp2_with (first | ((with_reducible refine gate_callee (f := 63) rfl ?_); refine goesL_ (some 6) rfl rfl Tryd.func63 (by kernel_rfl) rfl #[.int .i64 a0_0] rfl (by (try simp only [List.map_toArray, List.map_cons, List.map_nil]); first | done | rfl | (simp only [List.length_drop, List.length_take]; rfl)) ?_; (with_reducible refine (Faj.calls a0_0 true _ A4.out).mono ?_); rintro e w' ⟨rfl, ⟨nd, rfl⟩⟩; refine ⟨_, rfl, ?_⟩) | (go_at_call 64; (with_reducible refine (Fam.calls a0_1 true _ A6.out).mono ?_); rintro e w12 ⟨rfl, hb⟩; have n0_ := Ak (blk_below (bS BK101.out) hb); have n1_ := Ak (below_step (by exact eS HB.out) hb); clear BK101; clear HB; have BK101 := n0_; have HB := n1_; clear n0_ n1_; (try clear hb); (try clear hb2); (try clear hk); (try clear hi); obtain ⟨hcz13_0, hcz13_1, hcz13_2, hcz13_3, hcz13_4, hcz13_5, hcz13_6, hcz13_7, hfz13_0, hfz13_1, hfz13_2, hfz13_3, hfz13_4, hfz13_5, hfz13_6, hfz13_7⟩ := Sq.c8 BK101.out) | (go_at_call 65; (with_reducible refine (Fac.calls a0_2 true _ A8.out).mono ?_); rintro e w' ⟨rfl, ⟨nd, rfl⟩⟩) | (go_at_call 65; (with_reducible refine (Fac.calls a0_3 t105 _ A10.out).mono ?_); rintro e w' ⟨rfl, ⟨nd, rfl⟩⟩))
  go_meet
  case rel => exact ⟨_, (t105), (by first | rfl | (simp; done) | (simp [*]; done)), H', ⟨by first | omega | exact Nat.le_refl _⟩, ⟨by exact bS BK101.out⟩, ⟨by exact eS HB.out⟩⟩
 case rest =>
  clear HC2
  try clear c2
  try clear p2
  try clear c5
  try clear c6
  try clear c7
  try clear c9
  try clear hcz11_0
  try clear hcz11_1
  try clear hcz11_2
  try clear hcz11_3
  try clear hcz11_4
  try clear hcz11_5
  try clear hcz11_6
  try clear hcz11_7
  try clear hcz13_0
  try clear hcz13_1
  try clear hcz13_2
  try clear hcz13_3
  try clear hcz13_4
  try clear hcz13_5
  try clear hcz13_6
  try clear hcz13_7
  try clear hcz14_0
  try clear hcz14_1
  try clear hcz14_2
  try clear hcz14_3
  try clear hcz14_4
  try clear hcz14_5
  try clear hcz14_6
  try clear hcz14_7
  try clear hcz16_0
  try clear hcz16_1
  try clear hcz16_2
  try clear hcz16_3
  try clear hcz16_4
  try clear hcz16_5
  try clear hcz16_6
  try clear hcz16_7
  try clear hcz17_0
  try clear hcz17_1
  try clear hcz17_2
  try clear hcz17_3
  try clear hcz17_4
  try clear hcz17_5
  try clear hcz17_6
  try clear hcz17_7
  try clear hcz19_0
  try clear hcz19_1
  try clear hcz19_2
  try clear hcz19_3
  try clear hcz19_4
  try clear hcz19_5
  try clear hcz19_6
  try clear hcz19_7
  try clear hfz11_0
  try clear hfz11_1
  try clear hfz11_2
  try clear hfz11_3
  try clear hfz11_4
  try clear hfz11_5
  try clear hfz11_6
  try clear hfz11_7
  try clear hfz13_0
  try clear hfz13_1
  try clear hfz13_2
  try clear hfz13_3
  try clear hfz13_4
  try clear hfz13_5
  try clear hfz13_6
  try clear hfz13_7
  try clear hfz14_0
  try clear hfz14_1
  try clear hfz14_2
  try clear hfz14_3
  try clear hfz14_4
  try clear hfz14_5
  try clear hfz14_6
  try clear hfz14_7
  try clear hfz16_0
  try clear hfz16_1
  try clear hfz16_2
  try clear hfz16_3
  try clear hfz16_4
  try clear hfz16_5
  try clear hfz16_6
  try clear hfz16_7
  try clear hfz17_0
  try clear hfz17_1
  try clear hfz17_2
  try clear hfz17_3
  try clear hfz17_4
  try clear hfz17_5
  try clear hfz17_6
  try clear hfz17_7
  try clear hfz19_0
  try clear hfz19_1
  try clear hfz19_2
  try clear hfz19_3
  try clear hfz19_4
  try clear hfz19_5
  try clear hfz19_6
  try clear hfz19_7
  obtain ⟨kq, x3_1, rfl, HA, HJ1, BK101, HB⟩ := hcut
  cases kq with
  | zero => exact absurd HA.out (by simp [Fg.j0])
  | succ kj1 =>
   have H := HA.out
   clear HA
   simp only [Fg.j0] at H
   by_cases c20 : x3_1 = true
   rotate_left
   ·replace c20 := Bool.eq_false_iff.mpr c20
    subst c20
    have H1 : (some false) = some r := by rw [if_neg (show ¬ (false = true) by decide)] at H; exact H
    clear H
    have H := H1
    clear H1
    obtain rfl := Option.some.inj H
    go_wp2
    go_ret
    exact ⟨by first | rfl | (simp [errW_none, errW_some] <;> rfl) | (simp [*, errW_none, errW_some] <;> rfl), by exact eS HB.out⟩
   subst c20
   have H1 : ((Fal.f a0_4).bind fun t106 => (if t106 = true then ((Fak.f a0_5).bind fun t107 => (if t107 = true then ((Fz.f a0_6 0 a0_5).bind fun t108 => (if t108 = true then ((Fap.f a0_7).bind fun t109 => (some t109)) else (some false))) else (some false))) else (some false))) = some r := by rw [if_pos rfl] at H; exact H
   clear H
   have H := H1
   clear H1
   replace H := Option.bind_eq_some_iff.mp H
   obtain ⟨t106, A210, H⟩ := H
   (try dsimp only at H)
   have A21 := Ak A210
   clear A210
   by_cases c22 : t106 = true
   rotate_left
   ·replace c22 := Bool.eq_false_iff.mpr c22
    subst c22
    have H1 : (some false) = some r := by rw [if_neg (show ¬ (false = true) by decide)] at H; exact H
    clear H
    have H := H1
    clear H1
    obtain rfl := Option.some.inj H
    obtain ⟨hcz31_0, hcz31_1, hcz31_2, hcz31_3, hcz31_4, hcz31_5, hcz31_6, hcz31_7, hfz31_0, hfz31_1, hfz31_2, hfz31_3, hfz31_4, hfz31_5, hfz31_6, hfz31_7⟩ := Sq.c8 BK101.out
    go_wp2_with (first | (go_at_call 66; (with_reducible refine (Fal.calls a0_4 false _ A21.out).mono ?_); rintro e w' ⟨rfl, ⟨nd, rfl⟩⟩))
    go_ret
    exact ⟨by first | rfl | (simp [errW_none, errW_some] <;> rfl) | (simp [*, errW_none, errW_some] <;> rfl), by exact eS HB.out⟩
   subst c22
   have H1 : ((Fak.f a0_5).bind fun t107 => (if t107 = true then ((Fz.f a0_6 0 a0_5).bind fun t108 => (if t108 = true then ((Fap.f a0_7).bind fun t109 => (some t109)) else (some false))) else (some false))) = some r := by rw [if_pos rfl] at H; exact H
   clear H
   have H := H1
   clear H1
   replace H := Option.bind_eq_some_iff.mp H
   obtain ⟨t107, A230, H⟩ := H
   (try dsimp only at H)
   have A23 := Ak A230
   clear A230
   by_cases c24 : t107 = true
   rotate_left
   ·replace c24 := Bool.eq_false_iff.mpr c24
    subst c24
    have H1 : (some false) = some r := by rw [if_neg (show ¬ (false = true) by decide)] at H; exact H
    clear H
    have H := H1
    clear H1
    obtain rfl := Option.some.inj H
    obtain ⟨hcz30_0, hcz30_1, hcz30_2, hcz30_3, hcz30_4, hcz30_5, hcz30_6, hcz30_7, hfz30_0, hfz30_1, hfz30_2, hfz30_3, hfz30_4, hfz30_5, hfz30_6, hfz30_7⟩ := Sq.c8 BK101.out
    go_wp2_with (first | (go_at_call 66; (with_reducible refine (Fal.calls a0_4 true _ A21.out).mono ?_); rintro e w' ⟨rfl, ⟨nd, rfl⟩⟩) | (go_at_call 67; (with_reducible refine (Fak.calls a0_5 false _ A23.out).mono ?_); rintro e w' ⟨rfl, ⟨nd, rfl⟩⟩))
    go_ret
    exact ⟨by first | rfl | (simp [errW_none, errW_some] <;> rfl) | (simp [*, errW_none, errW_some] <;> rfl), by exact eS HB.out⟩
   subst c24
   have H1 : ((Fz.f a0_6 0 a0_5).bind fun t108 => (if t108 = true then ((Fap.f a0_7).bind fun t109 => (some t109)) else (some false))) = some r := by rw [if_pos rfl] at H; exact H
   clear H
   have H := H1
   clear H1
   replace H := Option.bind_eq_some_iff.mp H
   obtain ⟨t108, A250, H⟩ := H
   (try dsimp only at H)
   have A25 := Ak A250
   clear A250
   by_cases c26 : t108 = true
   rotate_left
   ·replace c26 := Bool.eq_false_iff.mpr c26
    subst c26
    have H1 : (some false) = some r := by rw [if_neg (show ¬ (false = true) by decide)] at H; exact H
    clear H
    have H := H1
    clear H1
    obtain rfl := Option.some.inj H
    obtain ⟨hcz29_0, hcz29_1, hcz29_2, hcz29_3, hcz29_4, hcz29_5, hcz29_6, hcz29_7, hfz29_0, hfz29_1, hfz29_2, hfz29_3, hfz29_4, hfz29_5, hfz29_6, hfz29_7⟩ := Sq.c8 BK101.out
    go_wp2_with (first | (go_at_call 66; (with_reducible refine (Fal.calls a0_4 true _ A21.out).mono ?_); rintro e w' ⟨rfl, ⟨nd, rfl⟩⟩) | (go_at_call 67; (with_reducible refine (Fak.calls a0_5 true _ A23.out).mono ?_); rintro e w' ⟨rfl, ⟨nd, rfl⟩⟩) | (go_at_call 68; (with_reducible refine (Fz.calls a0_6 0 a0_5 false _ A25.out).mono ?_); rintro e w' ⟨rfl, ⟨nd, rfl⟩⟩))
    go_ret
    exact ⟨by first | rfl | (simp [errW_none, errW_some] <;> rfl) | (simp [*, errW_none, errW_some] <;> rfl), by exact eS HB.out⟩
   subst c26
   have H1 : ((Fap.f a0_7).bind fun t109 => (some t109)) = some r := by rw [if_pos rfl] at H; exact H
   clear H
   have H := H1
   clear H1
   replace H := Option.bind_eq_some_iff.mp H
   obtain ⟨t109, A270, H⟩ := H
   (try dsimp only at H)
   have A27 := Ak A270
   clear A270
   obtain rfl := Option.some.inj H
   obtain ⟨hcz28_0, hcz28_1, hcz28_2, hcz28_3, hcz28_4, hcz28_5, hcz28_6, hcz28_7, hfz28_0, hfz28_1, hfz28_2, hfz28_3, hfz28_4, hfz28_5, hfz28_6, hfz28_7⟩ := Sq.c8 BK101.out
   go_wp2_with (first | (go_at_call 66; (with_reducible refine (Fal.calls a0_4 true _ A21.out).mono ?_); rintro e w' ⟨rfl, ⟨nd, rfl⟩⟩) | (go_at_call 67; (with_reducible refine (Fak.calls a0_5 true _ A23.out).mono ?_); rintro e w' ⟨rfl, ⟨nd, rfl⟩⟩) | (go_at_call 68; (with_reducible refine (Fz.calls a0_6 0 a0_5 true _ A25.out).mono ?_); rintro e w' ⟨rfl, ⟨nd, rfl⟩⟩) | (go_at_call 69; (with_reducible refine (Fap.calls a0_7 t109 _ A27.out).mono ?_); rintro e w' ⟨rfl, ⟨nd, rfl⟩⟩))
   go_ret
   exact ⟨by first | rfl | (simp [errW_none, errW_some] <;> rfl) | (simp [*, errW_none, errW_some] <;> rfl), by exact eS HB.out⟩
end Go.Proofs.YtahfahlbdgbfeaaDoor.X

namespace Go.Proofs.YtahfahlbdgbfeaaDoor.X
open Ho (bS eS RS Ak Cs Ct Cd)
open Go.RowKit Go.Proofs.YtahfahlbdgbfeaaDoorW.PrintWords Go.Proofs.YtahfahlbdgbfeaaDoorW.PrintLast Go.Proofs.YtahfahlbdgbfeaaDoorW.PrintMore
attribute [local go_sem] max2_int min2_int max_two min_two max_three min_three max_four min_four   -- for this text's walks alone
set_option linter.unusedVariables false
set_option linter.unusedSimpArgs false
open Sq (I O Z Dz)
/-! ### Fr: function 100000 -/
def Fr.f (k : Nat) (l0 : List (S41))  : Option Bool := Ho.allO (fun x_ => Fg.f k x_.f0 x_.f1 x_.f2 x_.f3 x_.f4 x_.f5 x_.f6 x_.f7) l0
theorem Fr.mono : ∀ a0 k, LeO (Fr.f k a0) (Fr.f (k + 1) a0) := by
  intro a0 k
  exact Ho.allO_mono (fun x_ => Fg.mono _ _ _ _ _ _ _ _ k) _
theorem Fr.calls (k : Nat) (A0 : Option Addr) (c0 : Nat) (l0 : List (S41))  (r : Bool) (w : World) (hr0 : Kd.C k41 w A0 l0.length l0) (hc0 : l0.length ≤ c0) (h : Fr.f k l0 = some r) :
  Calls Tryd.prog 70 #[.slice A0 l0.length c0, .func (.func 29) #[] #[]] w fun e w' => e = .returned (.bool r) ∧ Below w.heap.size w w' := by
 have ec : ∀ args w, (callFunc 29 args).run Tryd.prog w = .ok (.enter 29 args) w := fun args w => by kernel_rfl
 have hp : Ho.PredO Tryd.prog 29 #[] (fun x_ : S41 => .agg #[.int .i64 x_.f0, .string x_.f1, .int .i64 x_.f2, .int .i64 x_.f3, .int .i64 x_.f4, .int .i64 x_.f5, .int .i64 x_.f6, .int .i64 x_.f7]) (fun x_ => Fg.f k x_.f0 x_.f1 x_.f2 x_.f3 x_.f4 x_.f5 x_.f6 x_.f7) w := ⟨fun W x_ b_ hB_ hx_ => (Fg.calls k x_.f0 x_.f1 x_.f2 x_.f3 x_.f4 x_.f5 x_.f6 x_.f7 b_ W  hx_).mono fun _ _ h_ => ⟨h_.1, h_.2⟩⟩
 exact ho_all70 _ 29 _ ec w hp _ _ _ _ hr0 hc0 h
/-! ### Fw: function 31 -/
def Fw.f (k : Nat) (l0 : List (S41)) : Option (Bool) := if (l0.length : Int) ≤ 10 then ((Fr.f k l0).bind fun t105 => (if t105 = true then ((Fc.f k l0).bind fun t106 => (some t106)) else (some false))) else (some false)
theorem Fw.mono : ∀ a0 k, LeO (Fw.f k a0) (Fw.f (k + 1) a0) := by
  intro a0 k
  unfold Fw.f
  repeat' first | (with_reducible first | exact Fc.mono _ _ | exact Fr.mono _ _ | exact LeO.refl _ | exact LeO.none _ | refine LeO.ite ?_ ?_ | refine LeO.bind ?_ (fun _ => ?_)) | exact Fc.mono _ _ | exact Fr.mono _ _ | exact LeO.none _ | refine LeO.ite ?_ ?_ | refine LeO.bind ?_ (fun _ => ?_)
set_option maxHeartbeats 8000000 in
set_option maxRecDepth 100000 in
theorem Fw.calls (k : Nat) (A0 : Option Addr) (c0 : Nat) (l0 : List (S41)) (r : Bool) (w : World) (hr0 : Kd.C k41 w A0 l0.length l0) (hc0 : l0.length ≤ c0) (h : Fw.f k l0 = some r) :
  Calls Tryd.prog 31 #[.slice A0 l0.length c0] w fun e w' => e = .returned (.bool r) ∧ Below w.heap.size w w' := by
 have HR0 := Ak hr0
 have HC0 := Ak hc0
 clear hr0 hc0
 have HB := Ak (Below.refl w.heap.size w)
 have H : (if (l0.length : Int) ≤ 10 then ((Fr.f k l0).bind fun t105 => (if t105 = true then ((Fc.f k l0).bind fun t106 => (some t106)) else (some false))) else (some false)) = some r := h
 clear h
 by_cases c2 : (l0.length : Int) ≤ 10
 ·rw [if_pos c2] at H
  have c2b0 : decide ((l0.length : Int) ≤ 10) = true := decide_eq_true c2
  have c2b1 : decide (l0.length ≤ 10) = true := decide_eq_true (by omega)
  clear c2
  replace H := Option.bind_eq_some_iff.mp H
  obtain ⟨t105, A30, H⟩ := H
  replace H : (if t105 = true then ((Fc.f k l0).bind fun t106 => (some t106)) else (some false)) = some r := H
  have A3 := Ak A30
  clear A30
  by_cases c4 : t105 = true
  ·subst c4
   have H1 : ((Fc.f k l0).bind fun t106 => (some t106)) = some r := by rw [if_pos rfl] at H; exact H
   clear H
   have H := H1
   clear H1
   replace H := Option.bind_eq_some_iff.mp H
   obtain ⟨t106, A50, H⟩ := H
   replace H : (some t106) = some r := H
   have A5 := Ak A50
   clear A50
   obtain rfl := Option.some.inj H
   go_enter Tryd.func31, Tryd.ntmps31
   go_wp2_with (first | (go_at_call 70; (refine (Fr.calls k _ _ l0  true _ ?side1 ?side2 A3.out).mono ?_); (case side1 => exact Cs HR0.out); (case side2 => exact HC0.out); rintro e w6 ⟨rfl, hb⟩; have n0_ := Ak (below_step (by exact eS HB.out) hb); clear HB; have HB := n0_; clear n0_; (try clear hb); (try clear hb2); (try clear hk); (try clear hi)) | (go_at_call 71; (refine (Fc.calls k _ _ l0  t106 _ ?side1 ?side2 A5.out).mono ?_); (case side1 => repeat (first | exact (Kd.C_below HR0.out HB.out) | (with_reducible refine Kd.C_alloc ?_ _) | (with_reducible refine Kd.C_drewN ?_ _) | (with_reducible refine Kd.C_drew ?_))); (case side2 => exact HC0.out); rintro e w7 ⟨rfl, hb⟩; have n0_ := Ak (below_step (by exact eS HB.out) hb); clear HB; have HB := n0_; clear n0_; (try clear hb); (try clear hb2); (try clear hk); (try clear hi)))
   go_ret
   exact ⟨by first | rfl | (simp [errW_none, errW_some] <;> rfl) | (simp [*, errW_none, errW_some] <;> rfl), by exact eS HB.out⟩
  ·replace c4 := Bool.eq_false_iff.mpr c4
   subst c4
   have H1 : (some false) = some r := by rw [if_neg (show ¬ (false = true) by decide)] at H; exact H
   clear H
   have H := H1
   clear H1
   obtain rfl := Option.some.inj H
   go_enter Tryd.func31, Tryd.ntmps31
   go_wp2_with (first | (go_at_call 70; (refine (Fr.calls k _ _ l0  false _ ?side1 ?side2 A3.out).mono ?_); (case side1 => exact Cs HR0.out); (case side2 => exact HC0.out); rintro e w8 ⟨rfl, hb⟩; have n0_ := Ak (below_step (by exact eS HB.out) hb); clear HB; have HB := n0_; clear n0_; (try clear hb); (try clear hb2); (try clear hk); (try clear hi)))
   go_ret
   exact ⟨by first | rfl | (simp [errW_none, errW_some] <;> rfl) | (simp [*, errW_none, errW_some] <;> rfl), by exact eS HB.out⟩
 ·rw [if_neg c2] at H
  have c2b0 : decide ((l0.length : Int) ≤ 10) = false := decide_eq_false c2
  have c2b1 : decide (l0.length ≤ 10) = false := decide_eq_false (by omega)
  clear c2
  obtain rfl := Option.some.inj H
  go_enter Tryd.func31, Tryd.ntmps31
  go_wp2
  go_ret
  exact ⟨by first | rfl | (simp [errW_none, errW_some] <;> rfl) | (simp [*, errW_none, errW_some] <;> rfl), by exact eS HB.out⟩
end Go.Proofs.YtahfahlbdgbfeaaDoor.X

namespace Go.Proofs
open Go.Shelf
def Tryd.sort55_ren : Go.Shelf.Ren := ⟨fun | 6 => 55 | 15 => 98 | 14 => 97 | 28 => 118 | 29 => 119 | 20 => 110 | 21 => 111 | 22 => 112 | 23 => 113 | 24 => 114 | 25 => 115 | 26 => 116 | 27 => 117 | 46 => 130 | 47 => 131 | 48 => 132 | 49 => 133 | 50 => 134 | 57 => 140 | n => n, fun | 22 => 24 | 24 => 9 | 25 => 68 | 3 => 3 | 39 => 94 | 0 => 0 | 53 => 107 | 55 => 85 | 4 => 4 | 46 => 101 | 45 => 100 | 50 => 45 | 5 => 5 | 9 => 9 | 66 => 119 | 70 => 123 | 76 => 129 | 77 => 130 | n => n, fun | n => n⟩
theorem Tryd.sort55 : Go.Proofs.SlLaysF.n6 Tryd.prog Tryd.sort55_ren := {
  mixed := by kernel_rfl
  f6 := ⟨Tryd.f55.name, by decide, Tryd.func55.trans (congrArg some (by kernel_rfl))⟩
  f14 := ⟨Tryd.f97.name, by decide, Tryd.func97.trans (congrArg some (by kernel_rfl))⟩
  f15 := Tryd.func98.trans (congrArg some (by kernel_rfl))
  f20 := ⟨Tryd.f110.name, by decide, Tryd.func110.trans (congrArg some (by kernel_rfl))⟩
  f21 := ⟨Tryd.f111.name, by decide, Tryd.func111.trans (congrArg some (by kernel_rfl))⟩
  f22 := ⟨Tryd.f112.name, by decide, Tryd.func112.trans (congrArg some (by kernel_rfl))⟩
  f23 := ⟨Tryd.f113.name, by decide, Tryd.func113.trans (congrArg some (by kernel_rfl))⟩
  f24 := ⟨Tryd.f114.name, by decide, Tryd.func114.trans (congrArg some (by kernel_rfl))⟩
  f25 := ⟨Tryd.f115.name, by decide, Tryd.func115.trans (congrArg some (by kernel_rfl))⟩
  f26 := ⟨Tryd.f116.name, by decide, Tryd.func116.trans (congrArg some (by kernel_rfl))⟩
  f27 := ⟨Tryd.f117.name, by decide, Tryd.func117.trans (congrArg some (by kernel_rfl))⟩
  f28 := Tryd.func118.trans (congrArg some (by kernel_rfl))
  f29 := Tryd.func119.trans (congrArg some (by kernel_rfl))
  f46 := ⟨Tryd.f130.name, by decide, Tryd.func130.trans (congrArg some (by kernel_rfl))⟩
  f47 := Tryd.func131.trans (congrArg some (by kernel_rfl))
  f48 := Tryd.func132.trans (congrArg some (by kernel_rfl))
  f49 := ⟨Tryd.f133.name, by decide, Tryd.func133.trans (congrArg some (by kernel_rfl))⟩
  f50 := ⟨Tryd.f134.name, by decide, Tryd.func134.trans (congrArg some (by kernel_rfl))⟩
  f57 := ⟨Tryd.f140.name, by decide, Tryd.func140.trans (congrArg some (by kernel_rfl))⟩
  t0 := Tryd.underlying0
  a0 := Tryd.isAgg0
  z0 := Tryd.sizeOf0
  v0 := Tryd.zeroValue0
  t3 := Tryd.underlying3
  a3 := Tryd.isAgg3
  z3 := Tryd.sizeOf3
  v3 := Tryd.zeroValue3
  t4 := Tryd.underlying4
  a4 := Tryd.isAgg4
  z4 := Tryd.sizeOf4
  v4 := Tryd.zeroValue4
  t5 := Tryd.underlying5
  a5 := Tryd.isAgg5
  z5 := Tryd.sizeOf5
  v5 := Tryd.zeroValue5
  t9 := Tryd.underlying9
  a9 := Tryd.isAgg9
  z9 := Tryd.sizeOf9
  v9 := Tryd.zeroValue9
  t22 := Tryd.underlying24
  a22 := Tryd.isAgg24
  z22 := Tryd.sizeOf24
  v22 := Tryd.zeroValue24
  a24 := Tryd.isAgg9
  z24 := Tryd.sizeOf9
  t25 := Tryd.underlying68
  a25 := Tryd.isAgg68
  z25 := Tryd.sizeOf68
  v25 := Tryd.zeroValue68
  t39 := Tryd.underlying94
  a39 := Tryd.isAgg94
  z39 := Tryd.sizeOf94
  v39 := Tryd.zeroValue94
  t45 := Tryd.underlying100
  a45 := Tryd.isAgg100
  z45 := Tryd.sizeOf100
  v45 := Tryd.zeroValue100
  t46 := Tryd.underlying101
  a46 := Tryd.isAgg101
  z46 := Tryd.sizeOf101
  v46 := Tryd.zeroValue101
  t50 := Tryd.underlying45
  a50 := Tryd.isAgg45
  z50 := Tryd.sizeOf45
  v50 := Tryd.zeroValue45
  t53 := Tryd.underlying107
  a53 := Tryd.isAgg107
  z53 := Tryd.sizeOf107
  v53 := Tryd.zeroValue107
  t55 := Tryd.underlying85
  a55 := Tryd.isAgg85
  z55 := Tryd.sizeOf85
  v55 := Tryd.zeroValue85
  t66 := Tryd.underlying119
  a66 := Tryd.isAgg119
  z66 := Tryd.sizeOf119
  v66 := Tryd.zeroValue119
  t70 := Tryd.underlying123
  a70 := Tryd.isAgg123
  z70 := Tryd.sizeOf123
  v70 := Tryd.zeroValue123
  t76 := Tryd.underlying129
  a76 := Tryd.isAgg129
  z76 := Tryd.sizeOf129
  v76 := Tryd.zeroValue129
  t77 := Tryd.underlying130
  a77 := Tryd.isAgg130
  z77 := Tryd.sizeOf130
  v77 := Tryd.zeroValue130 }
end Go.Proofs

namespace Go.Proofs.YtahfahlbdgbfeaaDoor.X
open Ho (bS eS RS Ak Cs Ct Cd)
open Go.RowKit Go.Proofs.YtahfahlbdgbfeaaDoorW.PrintWords Go.Proofs.YtahfahlbdgbfeaaDoorW.PrintLast Go.Proofs.YtahfahlbdgbfeaaDoorW.PrintMore
attribute [local go_sem] max2_int min2_int max_two min_two max_three min_three max_four min_four   -- for this text's walks alone
set_option linter.unusedVariables false
set_option linter.unusedSimpArgs false
open Sq (I O Z Dz)
/-! ### Fae: function 99 -/
def Fae.f (a0 : Int) : Option (Bool) := some (a0 != a0)
set_option maxHeartbeats 8000000 in
set_option maxRecDepth 100000 in
theorem Fae.calls (a0 : Int) (r : Bool) (w : World) (h : Fae.f a0 = some r) :
  Calls Tryd.prog 99 #[.int .i64 a0] w fun e w' => e = .returned (.bool r) ∧ Drawn0 w w' := by
 have H : (some (a0 != a0)) = some r := h
 clear h
 obtain rfl := Option.some.inj H
 go_enter Tryd.func99, Tryd.ntmps99
 go_wp2
 go_ret
 exact ⟨by first | rfl | (simp; done) | (simp [*]; done), by repeat (first | exact Drawn0.refl _ | apply Drawn0.step)⟩
end Go.Proofs.YtahfahlbdgbfeaaDoor.X

namespace Go.Proofs.YtahfahlbdgbfeaaDoor.X
open Ho (bS eS RS Ak Cs Ct Cd)
open Go.RowKit Go.Proofs.YtahfahlbdgbfeaaDoorW.PrintWords Go.Proofs.YtahfahlbdgbfeaaDoorW.PrintLast Go.Proofs.YtahfahlbdgbfeaaDoorW.PrintMore
attribute [local go_sem] max2_int min2_int max_two min_two max_three min_three max_four min_four   -- for this text's walks alone
set_option linter.unusedVariables false
set_option linter.unusedSimpArgs false
/-! ### Fao: function 58 -/
def Fao.f (a0 : Int) (a1 : Int) : Option (Int) := (Fae.f a0).bind fun t101 => ((Fae.f a1).bind fun t102 => (if t101 = true then (if t102 = true then (some 0) else (some (-1))) else (if t102 = true then (some 1) else (if a0 < a1 then (some (-1)) else (if a0 > a1 then (some 1) else (some 0))))))
set_option maxHeartbeats 8000000 in
set_option maxRecDepth 100000 in
theorem Fao.calls (a0 : Int) (a1 : Int) (r : Int) (w : World) (h : Fao.f a0 a1 = some r) :
  Calls Tryd.prog 58 #[.int .i64 a0, .int .i64 a1] w fun e w' => e = .returned (.int .i64 r) ∧ Drawn0 w w' := by
 have H : ((Fae.f a0).bind fun t101 => ((Fae.f a1).bind fun t102 => (if t101 = true then (if t102 = true then (some 0) else (some (-1))) else (if t102 = true then (some 1) else (if a0 < a1 then (some (-1)) else (if a0 > a1 then (some 1) else (some 0))))))) = some r := h
 clear h
 replace H := Option.bind_eq_some_iff.mp H
 obtain ⟨t101, A30, H⟩ := H
 (try dsimp only at H)
 have A3 := Ak A30
 clear A30
 replace H := Option.bind_eq_some_iff.mp H
 obtain ⟨t102, A40, H⟩ := H
 (try dsimp only at H)
 have A4 := Ak A40
 clear A40
 by_cases c5 : t101 = true
 subst c5
 have H1 : (if t102 = true then (some 0) else (some (-1))) = some r := by rw [if_pos rfl] at H; exact H
 clear H
 have H := H1
 clear H1
 by_cases c6 : t102 = true
 subst c6
 have H1 : (some 0) = some r := by rw [if_pos rfl] at H; exact H
 clear H
 have H := H1
 clear H1
 obtain rfl := Option.some.inj H
 have WAY0 := True.intro
 rotate_left
 replace c6 := Bool.eq_false_iff.mpr c6
 subst c6
 have H1 : (some (-1)) = some r := by rw [if_neg (show ¬ (false = true) by decide)] at H; exact H
 clear H
 have H := H1
 clear H1
 obtain rfl := Option.some.inj H
 have WAY1 := True.intro
 rotate_left
 replace c5 := Bool.eq_false_iff.mpr c5
 subst c5
 have H1 : (if t102 = true then (some 1) else (if a0 < a1 then (some (-1)) else (if a0 > a1 then (some 1) else (some 0)))) = some r := by rw [if_neg (show ¬ (false = true) by decide)] at H; exact H
 clear H
 have H := H1
 clear H1
 by_cases c7 : t102 = true
 subst c7
 have H1 : (some 1) = some r := by rw [if_pos rfl] at H; exact H
 clear H
 have H := H1
 clear H1
 obtain rfl := Option.some.inj H
 have WAY2 := True.intro
 rotate_left
 replace c7 := Bool.eq_false_iff.mpr c7
 subst c7
 have H1 : (if a0 < a1 then (some (-1)) else (if a0 > a1 then (some 1) else (some 0))) = some r := by rw [if_neg (show ¬ (false = true) by decide)] at H; exact H
 clear H
 have H := H1
 clear H1
 by_cases c8 : a0 < a1
 rw [if_pos c8] at H
 have c8b0 : decide (a0 < a1) = true := decide_eq_true c8
 clear c8
 obtain rfl := Option.some.inj H
 have WAY3 := True.intro
 rotate_left
 rw [if_neg c8] at H
 have c8b0 : decide (a0 < a1) = false := decide_eq_false c8
 clear c8
 by_cases c9 : a0 > a1
 rw [if_pos c9] at H
 have c9b0 : decide (a1 < a0) = true := decide_eq_true c9
 clear c9
 obtain rfl := Option.some.inj H
 have WAY4 := True.intro
 rotate_left
 rw [if_neg c9] at H
 have c9b0 : decide (a1 < a0) = false := decide_eq_false c9
 clear c9
 obtain rfl := Option.some.inj H
 have WAY5 := True.intro
 rotate_left
 all_goals
  go_enter Tryd.func58, Tryd.ntmps58
  go_wp2_with (first | ((first | guard_hyp WAY0 : True | guard_hyp WAY1 : True); ((with_reducible refine gate_callee (f := 99) rfl ?_); refine goesL_ (some 8) rfl rfl Tryd.func99 (by kernel_rfl) rfl #[.int .i64 a0] rfl (by (try simp only [List.map_toArray, List.map_cons, List.map_nil]); first | done | rfl | (simp only [List.length_drop, List.length_take]; rfl)) ?_; (with_reducible refine (Fae.calls a0 true _ A3.out).mono ?_); rintro e w' ⟨rfl, ⟨nd, rfl⟩⟩; refine ⟨_, rfl, ?_⟩)) | ((first | guard_hyp WAY0 : True | guard_hyp WAY2 : True); ((with_reducible refine gate_callee (f := 99) rfl ?_); refine goesL_ (some 10) rfl rfl Tryd.func99 (by kernel_rfl) rfl #[.int .i64 a1] rfl (by (try simp only [List.map_toArray, List.map_cons, List.map_nil]); first | done | rfl | (simp only [List.length_drop, List.length_take]; rfl)) ?_; (with_reducible refine (Fae.calls a1 true _ A4.out).mono ?_); rintro e w' ⟨rfl, ⟨nd, rfl⟩⟩; refine ⟨_, rfl, ?_⟩)) | ((first | guard_hyp WAY1 : True | guard_hyp WAY3 : True | guard_hyp WAY4 : True | guard_hyp WAY5 : True); ((with_reducible refine gate_callee (f := 99) rfl ?_); refine goesL_ (some 10) rfl rfl Tryd.func99 (by kernel_rfl) rfl #[.int .i64 a1] rfl (by (try simp only [List.map_toArray, List.map_cons, List.map_nil]); first | done | rfl | (simp only [List.length_drop, List.length_take]; rfl)) ?_; (with_reducible refine (Fae.calls a1 false _ A4.out).mono ?_); rintro e w' ⟨rfl, ⟨nd, rfl⟩⟩; refine ⟨_, rfl, ?_⟩)) | ((first | guard_hyp WAY2 : True | guard_hyp WAY3 : True | guard_hyp WAY4 : True | guard_hyp WAY5 : True); ((with_reducible refine gate_callee (f := 99) rfl ?_); refine goesL_ (some 8) rfl rfl Tryd.func99 (by kernel_rfl) rfl #[.int .i64 a0] rfl (by (try simp only [List.map_toArray, List.map_cons, List.map_nil]); first | done | rfl | (simp only [List.length_drop, List.length_take]; rfl)) ?_; (with_reducible refine (Fae.calls a0 false _ A3.out).mono ?_); rintro e w' ⟨rfl, ⟨nd, rfl⟩⟩; refine ⟨_, rfl, ?_⟩)))
  go_ret
  exact ⟨by first | rfl | (simp; done) | (simp [*]; done), by repeat (first | exact Drawn0.refl _ | apply Drawn0.step)⟩
end Go.Proofs.YtahfahlbdgbfeaaDoor.X

namespace Go.Proofs.YtahfahlbdgbfeaaDoor.X
open Ho (bS eS RS Ak Cs Ct Cd)
open Go.RowKit Go.Proofs.YtahfahlbdgbfeaaDoorW.PrintWords Go.Proofs.YtahfahlbdgbfeaaDoorW.PrintLast Go.Proofs.YtahfahlbdgbfeaaDoorW.PrintMore
attribute [local go_sem] max2_int min2_int max_two min_two max_three min_three max_four min_four   -- for this text's walks alone
set_option linter.unusedVariables false
set_option linter.unusedSimpArgs false
open Sq (I O Z Dz)
/-! ### Fab: function 100 -/
def Fab.f (a0 : ByteArray) : Option (Bool) := some (a0.toList != a0.toList)
set_option maxHeartbeats 8000000 in
set_option maxRecDepth 100000 in
theorem Fab.calls (a0 : ByteArray) (r : Bool) (w : World) (h : Fab.f a0 = some r) :
  Calls Tryd.prog 100 #[.string a0] w fun e w' => e = .returned (.bool r) ∧ Drawn0 w w' := by
 have H : (some (a0.toList != a0.toList)) = some r := h
 clear h
 obtain rfl := Option.some.inj H
 go_enter Tryd.func100, Tryd.ntmps100
 go_wp2
 go_ret
 exact ⟨by first | rfl | (simp; done) | (simp [*]; done), by repeat (first | exact Drawn0.refl _ | apply Drawn0.step)⟩
end Go.Proofs.YtahfahlbdgbfeaaDoor.X

namespace Go.Proofs.YtahfahlbdgbfeaaDoor.X
open Ho (bS eS RS Ak Cs Ct Cd)
open Go.RowKit Go.Proofs.YtahfahlbdgbfeaaDoorW.PrintWords Go.Proofs.YtahfahlbdgbfeaaDoorW.PrintLast Go.Proofs.YtahfahlbdgbfeaaDoorW.PrintMore
attribute [local go_sem] max2_int min2_int max_two min_two max_three min_three max_four min_four   -- for this text's walks alone
set_option linter.unusedVariables false
set_option linter.unusedSimpArgs false
/-! ### Fy: function 59 -/
def Fy.f (a0 : ByteArray) (a1 : ByteArray) : Option (Int) := (Fab.f a0).bind fun t101 => ((Fab.f a1).bind fun t102 => (if t101 = true then (if t102 = true then (some 0) else (some (-1))) else (if t102 = true then (some 1) else (if (Op.bytesLess a0.toList a1.toList) = true then (some (-1)) else (if (Op.bytesLess a1.toList a0.toList) = true then (some 1) else (some 0))))))
theorem Fy.gtrL_ : ∀ x y : List UInt8, (!(Op.bytesLess x y || x == y)) = Op.bytesLess y x
  | [], [] => rfl
  | [], _ :: _ => rfl
  | _ :: _, [] => rfl
  | a :: x, b :: y => by
    have ih := Fy.gtrL_ x y
    simp only [Op.bytesLess]
    rcases Nat.lt_trichotomy a.toNat b.toNat with h | h | h
    · have h1 : a < b := h
      have h2 : ¬ b < a := fun h' => absurd (Nat.lt_trans h h') (Nat.lt_irrefl _)
      have h3 : (b == a) = false := by rw [beq_eq_false_iff_ne]; rintro rfl; exact Nat.lt_irrefl _ h
      simp [h1, h2, h3]
    · have h1 : a = b := UInt8.toNat_inj.mp h
      subst h1
      have h2 : ¬ a < a := fun h' => absurd h' (Nat.lt_irrefl _)
      rw [← ih]; simp [h2]
    · have h1 : b < a := h
      have h2 : ¬ a < b := fun h' => absurd (Nat.lt_trans h h') (Nat.lt_irrefl _)
      have h3 : (a == b) = false := by rw [beq_eq_false_iff_ne]; rintro rfl; exact Nat.lt_irrefl _ h
      simp [h1, h2, h3]
theorem Fy.gtr_ (t : TypeId) (a b : ByteArray) : binOp .gtr t (.string a) (.string b) = pure (.bool (Op.bytesLess b.toList a.toList)) := by
  rw [← Fy.gtrL_]; simp [binOp, Op.stringOp]
attribute [local go_sem] Fy.gtr_
set_option maxHeartbeats 8000000 in
set_option maxRecDepth 100000 in
theorem Fy.calls (a0 : ByteArray) (a1 : ByteArray) (r : Int) (w : World) (h : Fy.f a0 a1 = some r) :
  Calls Tryd.prog 59 #[.string a0, .string a1] w fun e w' => e = .returned (.int .i64 r) ∧ Drawn0 w w' := by
 have H : ((Fab.f a0).bind fun t101 => ((Fab.f a1).bind fun t102 => (if t101 = true then (if t102 = true then (some 0) else (some (-1))) else (if t102 = true then (some 1) else (if (Op.bytesLess a0.toList a1.toList) = true then (some (-1)) else (if (Op.bytesLess a1.toList a0.toList) = true then (some 1) else (some 0))))))) = some r := h
 clear h
 replace H := Option.bind_eq_some_iff.mp H
 obtain ⟨t101, A30, H⟩ := H
 (try dsimp only at H)
 have A3 := Ak A30
 clear A30
 replace H := Option.bind_eq_some_iff.mp H
 obtain ⟨t102, A40, H⟩ := H
 (try dsimp only at H)
 have A4 := Ak A40
 clear A40
 by_cases c5 : t101 = true
 subst c5
 have H1 : (if t102 = true then (some 0) else (some (-1))) = some r := by rw [if_pos rfl] at H; exact H
 clear H
 have H := H1
 clear H1
 by_cases c6 : t102 = true
 subst c6
 have H1 : (some 0) = some r := by rw [if_pos rfl] at H; exact H
 clear H
 have H := H1
 clear H1
 obtain rfl := Option.some.inj H
 have WAY0 := True.intro
 rotate_left
 replace c6 := Bool.eq_false_iff.mpr c6
 subst c6
 have H1 : (some (-1)) = some r := by rw [if_neg (show ¬ (false = true) by decide)] at H; exact H
 clear H
 have H := H1
 clear H1
 obtain rfl := Option.some.inj H
 have WAY1 := True.intro
 rotate_left
 replace c5 := Bool.eq_false_iff.mpr c5
 subst c5
 have H1 : (if t102 = true then (some 1) else (if (Op.bytesLess a0.toList a1.toList) = true then (some (-1)) else (if (Op.bytesLess a1.toList a0.toList) = true then (some 1) else (some 0)))) = some r := by rw [if_neg (show ¬ (false = true) by decide)] at H; exact H
 clear H
 have H := H1
 clear H1
 by_cases c7 : t102 = true
 subst c7
 have H1 : (some 1) = some r := by rw [if_pos rfl] at H; exact H
 clear H
 have H := H1
 clear H1
 obtain rfl := Option.some.inj H
 have WAY2 := True.intro
 rotate_left
 replace c7 := Bool.eq_false_iff.mpr c7
 subst c7
 have H1 : (if (Op.bytesLess a0.toList a1.toList) = true then (some (-1)) else (if (Op.bytesLess a1.toList a0.toList) = true then (some 1) else (some 0))) = some r := by rw [if_neg (show ¬ (false = true) by decide)] at H; exact H
 clear H
 have H := H1
 clear H1
 by_cases c8 : (Op.bytesLess a0.toList a1.toList) = true
 rw [if_pos c8] at H
 have c8b0 : (Op.bytesLess a0.toList a1.toList) = true := c8
 clear c8
 obtain rfl := Option.some.inj H
 have WAY3 := True.intro
 rotate_left
 rw [if_neg c8] at H
 have c8b0 : (Op.bytesLess a0.toList a1.toList) = false := by simpa using c8
 clear c8
 by_cases c9 : (Op.bytesLess a1.toList a0.toList) = true
 rw [if_pos c9] at H
 have c9b0 : (Op.bytesLess a1.toList a0.toList) = true := c9
 clear c9
 obtain rfl := Option.some.inj H
 have WAY4 := True.intro
 rotate_left
 rw [if_neg c9] at H
 have c9b0 : (Op.bytesLess a1.toList a0.toList) = false := by simpa using c9
 clear c9
 obtain rfl := Option.some.inj H
 have WAY5 := True.intro
 rotate_left
 all_goals
  go_enter Tryd.func59, Tryd.ntmps59
  go_wp2_with (first | ((first | guard_hyp WAY0 : True | guard_hyp WAY1 : True); ((with_reducible refine gate_callee (f := 100) rfl ?_); refine goesL_ (some 8) rfl rfl Tryd.func100 (by kernel_rfl) rfl #[.string a0] rfl (by (try simp only [List.map_toArray, List.map_cons, List.map_nil]); first | done | rfl | (simp only [List.length_drop, List.length_take]; rfl)) ?_; (with_reducible refine (Fab.calls a0 true _ A3.out).mono ?_); rintro e w' ⟨rfl, ⟨nd, rfl⟩⟩; refine ⟨_, rfl, ?_⟩)) | ((first | guard_hyp WAY0 : True | guard_hyp WAY2 : True); ((with_reducible refine gate_callee (f := 100) rfl ?_); refine goesL_ (some 10) rfl rfl Tryd.func100 (by kernel_rfl) rfl #[.string a1] rfl (by (try simp only [List.map_toArray, List.map_cons, List.map_nil]); first | done | rfl | (simp only [List.length_drop, List.length_take]; rfl)) ?_; (with_reducible refine (Fab.calls a1 true _ A4.out).mono ?_); rintro e w' ⟨rfl, ⟨nd, rfl⟩⟩; refine ⟨_, rfl, ?_⟩)) | ((first | guard_hyp WAY1 : True | guard_hyp WAY3 : True | guard_hyp WAY4 : True | guard_hyp WAY5 : True); ((with_reducible refine gate_callee (f := 100) rfl ?_); refine goesL_ (some 10) rfl rfl Tryd.func100 (by kernel_rfl) rfl #[.string a1] rfl (by (try simp only [List.map_toArray, List.map_cons, List.map_nil]); first | done | rfl | (simp only [List.length_drop, List.length_take]; rfl)) ?_; (with_reducible refine (Fab.calls a1 false _ A4.out).mono ?_); rintro e w' ⟨rfl, ⟨nd, rfl⟩⟩; refine ⟨_, rfl, ?_⟩)) | ((first | guard_hyp WAY2 : True | guard_hyp WAY3 : True | guard_hyp WAY4 : True | guard_hyp WAY5 : True); ((with_reducible refine gate_callee (f := 100) rfl ?_); refine goesL_ (some 8) rfl rfl Tryd.func100 (by kernel_rfl) rfl #[.string a0] rfl (by (try simp only [List.map_toArray, List.map_cons, List.map_nil]); first | done | rfl | (simp only [List.length_drop, List.length_take]; rfl)) ?_; (with_reducible refine (Fab.calls a0 false _ A3.out).mono ?_); rintro e w' ⟨rfl, ⟨nd, rfl⟩⟩; refine ⟨_, rfl, ?_⟩)))
  go_ret
  exact ⟨by first | rfl | (simp; done) | (simp [*]; done), by repeat (first | exact Drawn0.refl _ | apply Drawn0.step)⟩
end Go.Proofs.YtahfahlbdgbfeaaDoor.X

namespace Go.Proofs.YtahfahlbdgbfeaaDoor.X
open Ho (bS eS RS Ak Cs Ct Cd)
open Go.RowKit Go.Proofs.YtahfahlbdgbfeaaDoorW.PrintWords Go.Proofs.YtahfahlbdgbfeaaDoorW.PrintLast Go.Proofs.YtahfahlbdgbfeaaDoorW.PrintMore
attribute [local go_sem] max2_int min2_int max_two min_two max_three min_three max_four min_four   -- for this text's walks alone
set_option linter.unusedVariables false
set_option linter.unusedSimpArgs false
open Sq (I O Z Dz)
/-! ### Fv: function 57 -/
def Fv.l0 : Nat → Int → List Int → Int → Int → Option (Int)
  | 0, _, _, _, _ => none
  | k + 1, x3, x6, x7, x8 => if x8 < x7 then (if 0 ≤ x8 then (if x8 < (x6.length : Int) then (if (rd x6 x8) = x3 then (Fv.l0 k x3 x6 x7 (wrap64 (x8 + 1))) else (some (rd x6 x8))) else (none)) else (none)) else (some x3)
def Fv.f (k : Nat) (l0 : List Int) : Option (Int) := Fv.l0 k 0 l0 (l0.length : Int) 0
theorem Fv.mono_l : ∀ k, (∀ y0 y1 y2 y3, LeO (Fv.l0 k y0 y1 y2 y3) (Fv.l0 (k + 1) y0 y1 y2 y3))
  | 0 => fun _ _ _ _ r h => by simp [Fv.l0] at h
  | k + 1 => by
    have ih0 := Fv.mono_l k
    · intro y0 y1 y2 y3
      unfold Fv.l0
      repeat' first | (with_reducible first | exact ih0 _ _ _ _ | exact LeO.refl _ | exact LeO.none _ | refine LeO.ite ?_ ?_ | refine LeO.bind ?_ (fun _ => ?_)) | exact ih0 _ _ _ _ | exact LeO.none _ | refine LeO.ite ?_ ?_ | refine LeO.bind ?_ (fun _ => ?_)
theorem Fv.mono : ∀ a0 k, LeO (Fv.f k a0) (Fv.f (k + 1) a0) := by
  intro a0 k
  have ih0 := Fv.mono_l k
  unfold Fv.f
  repeat' first | (with_reducible first | exact ih0 _ _ _ _ | exact LeO.refl _ | exact LeO.none _ | refine LeO.ite ?_ ?_ | refine LeO.bind ?_ (fun _ => ?_)) | exact ih0 _ _ _ _ | exact LeO.none _ | refine LeO.ite ?_ ?_ | refine LeO.bind ?_ (fun _ => ?_)
set_option maxHeartbeats 8000000 in
set_option maxRecDepth 100000 in
theorem Fv.calls (k : Nat) (A0 : Option Addr) (c0 : Nat) (l0 : List Int) (r : Int) (w : World) (hr0 : Kd.C (Kd.int .i64) w A0 l0.length l0) (hc0 : l0.length ≤ c0) (h : Fv.f k l0 = some r) :
  Calls Tryd.prog 57 #[.slice A0 l0.length c0] w fun e w' => e = .returned (.int .i64 r) ∧ Drawn0 w w' := by
 have HR0 := Ak hr0
 have HC0 := Ak hc0
 clear hr0 hc0
 have H : (Fv.l0 k 0 l0 (l0.length : Int) 0) = some r := h
 clear h
 have H' := Ak H
 clear H
 go_enter Tryd.func57, Tryd.ntmps57
 go_wp2
 go_loopg [8] k (fun kq v8 w' => ∃ (x8_1 : Int), v8 = .int .i64 x8_1 ∧ Aside0 (Fv.l0 kq 0 l0 (l0.length : Int) x8_1 = some r) ∧ Aside0 (kq ≤ k) ∧ Drawn0 w w')
 case atStart => exact ⟨(0), (by first | rfl | (simp; done) | (simp [*]; done)), H', ⟨Nat.le_refl _⟩, by repeat (first | exact Drawn0.refl _ | apply Drawn0.step)⟩
 case round =>
  clear H'
  obtain ⟨x8_1, rfl, HA, HK1, ⟨m1, rfl⟩⟩ := hrel
  cases gk with
  | zero => exact absurd HA.out (by simp [Fv.l0])
  | succ k1 =>
   have H := HA.out
   clear HA
   simp only [Fv.l0] at H
   by_cases c2 : x8_1 < (l0.length : Int)
   ·rw [if_pos c2] at H
    have c2b0 : decide (x8_1 < (l0.length : Int)) = true := decide_eq_true c2
    clear c2
    by_cases c3 : 0 ≤ x8_1
    ·rw [if_pos c3] at H
     have c3b0 : decide (0 ≤ x8_1) = true := decide_eq_true c3
     clear c3
     by_cases c4 : x8_1 < (l0.length : Int)
     ·rw [if_pos c4] at H
      have c4b0 : decide (x8_1 < (l0.length : Int)) = true := decide_eq_true c4
      clear c4
      by_cases c5 : (rd l0 x8_1) = 0
      ·rw [if_pos c5] at H
       have c5b0 : ((rd l0 x8_1) == 0) = true := beq_iff_eq.mpr c5
       have c5b1 : ((rd l0 x8_1) != 0) = false := bne_eq_false_iff_eq.mpr c5
       clear c5
       have H' := Ak H
       clear H
       have p101 : 0 ≤ (x8_1 : Int) := Dz
       have q101 : x8_1 < (l0.length : Int) := Dz
       obtain ⟨ad101, e101, hx101_0⟩ := Kd.at_int HR0.out x8_1 p101 q101
       cases e101
       replace p101 := eq_true p101; replace q101 := eq_true q101
       go_wp2
       go_roundg k1
       case measure => have := HK1.out; omega
       case rel => exact ⟨(wrap64 (x8_1 + 1)), (by first | rfl | (simp; done) | (simp [*]; done)), H', ⟨by have := HK1.out; omega⟩, by repeat (first | exact Drawn0.refl _ | apply Drawn0.step)⟩
      ·rw [if_neg c5] at H
       have c5b0 : ((rd l0 x8_1) == 0) = false := beq_eq_false_iff_ne.mpr c5
       have c5b1 : ((rd l0 x8_1) != 0) = true := bne_iff_ne.mpr c5
       obtain rfl := Option.some.inj H
       have p101 : 0 ≤ (x8_1 : Int) := Dz
       have q101 : x8_1 < (l0.length : Int) := Dz
       obtain ⟨ad101, e101, hx101_0⟩ := Kd.at_int HR0.out x8_1 p101 q101
       cases e101
       replace p101 := eq_true p101; replace q101 := eq_true q101
       go_wp2
       go_ret
       exact ⟨by first | rfl | (simp; done) | (simp [*]; done), by repeat (first | exact Drawn0.refl _ | apply Drawn0.step)⟩
     ·rw [if_neg c4] at H
      exact absurd H (by simp)
    ·rw [if_neg c3] at H
     exact absurd H (by simp)
   ·rw [if_neg c2] at H
    have c2b0 : decide (x8_1 < (l0.length : Int)) = false := decide_eq_false c2
    clear c2
    obtain rfl := Option.some.inj H
    go_wp2
    go_ret
    exact ⟨by first | rfl | (simp; done) | (simp [*]; done), by repeat (first | exact Drawn0.refl _ | apply Drawn0.step)⟩
end Go.Proofs.YtahfahlbdgbfeaaDoor.X

namespace Go.Proofs.YtahfahlbdgbfeaaDoor.X
open Ho (bS eS)
open Go.RowKit Go.Proofs.YtahfahlbdgbfeaaDoorW.PrintWords Go.Proofs.YtahfahlbdgbfeaaDoorW.PrintLast Go.Proofs.YtahfahlbdgbfeaaDoorW.PrintMore
open Go.Maps Go.WideMaps
set_option linter.unusedVariables false
set_option linter.unusedSimpArgs false
theorem CbLaw : Keyed Tryd.prog 9 := string_keyed Tryd.underlying9
theorem CbZero (w : World) : (zeroValue 3).run Tryd.prog w = .ok (.int .i64 0) w := by kernel_rfl
/-- what the map holds at a text -/
def CbAt (D : DataW Unit) (x : ByteArray) : Int := match D.atKey (.string x.data.toList) (.lit (.int .i64 0)) with | .lit (.int _ c) => c | _ => 0
theorem CbAt_of {D : DataW Unit} {x : ByteArray} {c : Int} (h : D.atKey (.string x.data.toList) (.lit (.int .i64 0)) = .lit (.int .i64 c)) : CbAt D x = c := by simp only [CbAt, h]
theorem CbRow {w : World} {g e : Nat} {r1 r2 : Int} (h : w.heap[g]? = some (.cells #[.int .i64 r1, .int .i64 r2] e (0, 0))) : Kd.C (Kd.int .i64) w (some ⟨g, 0, none⟩) 2 [r1, r2] := by
  refine ⟨rfl, by omega, fun _ => ⟨_, rfl, fun j p hj => ⟨[.int .i64 p], rfl, rfl, fun i u hu => ?_⟩⟩⟩
  obtain rfl : i = 0 := by
    rcases i with _ | i
    · rfl
    · simp at hu
  obtain rfl : Value.int .i64 p = u := by simpa using hu
  rcases j with _ | _ | j
  · obtain rfl : r1 = p := by simpa using hj
    exact blk_cell h 0
  · obtain rfl : r2 = p := by simpa using hj
    exact blk_cell h 1
  · simp at hj
set_option maxHeartbeats 4000000 in
set_option maxRecDepth 100000 in
theorem Faq.calls (k : Nat) (x y : ByteArray) (hx : x.size ≤ maxLen) (hy : y.size ≤ maxLen) (p : Addr) (b n : Nat) (D : DataW Unit) (W : World) (r1 r2 r : Int) (hc : W.cell? p = some (.map (some b))) (hown : W.ownsMap Tryd.prog 9 (plainElem Tryd.prog 3) b n D)
    (h1 : Fao.f (CbAt D y) (CbAt D x) = some r1) (h2 : Fy.f x y = some r2) (h3 : Fv.f k [r1, r2] = some r) :
    Calls Tryd.prog 56 #[.string x, .string y, .pointer (some p)] W fun e w' => e = .returned (.int .i64 r) ∧ ∃ q os, w' = Sort.grow (W.drewN q) os := by
  have H1_ := Aside0.mk h1
  have H2_ := Aside0.mk h2
  have H3_ := Aside0.mk h3
  clear h1 h2 h3
  go_enter Tryd.func56, Tryd.ntmps56
  go_wp2_with (first
    | (at_lookup; refine wpList_lookup_own_int _ rfl _ _ 64 rfl 9 3 .i64 CbLaw Tryd.underlying64 Tryd.underlying3 (CbZero _) b n _ rfl hown _ _ rfl (keyOf_string_mk Tryd.underlying9 hy) ?_; intro cy hcy _)
    | (at_lookup; refine wpList_lookup_own_int _ rfl _ _ 64 rfl 9 3 .i64 CbLaw Tryd.underlying64 Tryd.underlying3 (CbZero _) b n _ rfl hown _ _ rfl (keyOf_string_mk Tryd.underlying9 hx) ?_; intro cx hcx _)
    | (go_at_call 58; (refine (Fao.calls cy cx r1 _ (by rw [← CbAt_of hcy, ← CbAt_of hcx]; exact H1_.out)).mono ?_); rintro e w' ⟨rfl, ⟨⟨nd1, rfl⟩⟩⟩)
    | (go_at_call 59; (refine (Fy.calls x y r2 _ H2_.out).mono ?_); rintro e w' ⟨rfl, ⟨⟨nd2, rfl⟩⟩⟩)
    | (go_at_call 57; (refine (Fv.calls k _ 2 [r1, r2] r _ (CbRow (blk_new _ _)) (Nat.le_refl _) H3_.out).mono ?_); rintro e w' ⟨rfl, ⟨⟨nd3, rfl⟩⟩⟩)
    | go_in)
  go_ret
  exact ⟨rfl, nd1 + nd2 + nd3, #[_], by rw [Sort.alloc_eq_grow]; show Sort.grow ((W.drewN (nd1 + nd2)).drewN nd3) _ = _; rw [World.drewN_drewN]⟩
end Go.Proofs.YtahfahlbdgbfeaaDoor.X

namespace Go.Proofs.YtahfahlbdgbfeaaDoor.X
open Go.RowKit Go.Proofs.YtahfahlbdgbfeaaDoorW.PrintWords Go.Proofs.YtahfahlbdgbfeaaDoorW.PrintLast Go.Proofs.YtahfahlbdgbfeaaDoorW.PrintMore
open Go.Sort
set_option linter.unusedVariables false
set_option linter.unusedSimpArgs false
section
variable {α : Type} [Inhabited α] {enc : α → Value} {w : World} {blk n : Nat} {d : Array α} {os : Array Obj}
theorem Csw_heap : (sortWorld enc w blk 0 n d os).heap = (w.heap.modify blk (onCells (putCells enc 0 d))) ++ os := rfl
theorem Csw_size : w.heap.size ≤ (sortWorld enc w blk 0 n d os).heap.size := by rw [Csw_heap, Array.size_append, Array.size_modify]; omega
theorem Csw_block {j : Nat} (hj : j < w.heap.size) (hne : j ≠ blk) : (sortWorld enc w blk 0 n d os).heap[j]? = w.heap[j]? := by
  rw [Csw_heap, Array.getElem?_append, if_pos (by rw [Array.size_modify]; exact hj), Array.getElem?_modify, if_neg (fun e => hne e.symm)]
theorem Csw_row {cur : Array Value} {e : TypeId} (h : w.heap[blk]? = some (.cells cur e (0, 0))) : (sortWorld enc w blk 0 n d os).heap[blk]? = some (.cells (putCells enc 0 d cur) e (0, 0)) := by
  rw [Csw_heap, Array.getElem?_append, if_pos (by rw [Array.size_modify]; exact blk_lt h), Array.getElem?_modify, if_pos rfl, h]; rfl
theorem Csw_take {cur : Array Value} (h : d.size ≤ cur.size) : (putCells enc 0 d cur).toList.take d.size = d.toList.map enc := by
  apply List.ext_getElem?
  intro i
  rw [List.getElem?_take, List.getElem?_map]
  by_cases hi : i < d.size
  · rw [if_pos hi, Array.getElem?_toList, Array.getElem?_toList]
    unfold putCells
    rw [Array.getElem?_mapIdx, Array.getElem?_eq_getElem (show i < cur.size by omega), Array.getElem?_eq_getElem hi]
    simp [hi]
  · rw [if_neg hi, List.getElem?_eq_none (by simpa using hi)]; rfl
theorem Csw_keep {base : Nat} {w0 : World} (h : Below base w0 w) (hb : base ≤ blk) (hl : base ≤ w.heap.size) : Below base w0 (sortWorld enc w blk 0 n d os) :=
  ⟨h.os, h.tape, h.output, Nat.le_trans h.size Csw_size, fun k hk => (Csw_block (by omega) (by omega)).trans (h.block k hk)⟩
end
theorem Csw_reps {α : Type} {enc : α → Value} : ∀ {ps : List α} {cs : List Value}, Reps (fun x c => c = [enc x]) 1 ps cs → cs = ps.map enc := by
  intro ps cs h
  apply List.ext_getElem?
  intro i
  rw [List.getElem?_map]
  rcases hp : ps[i]? with _ | p
  · rw [List.getElem?_eq_none (by have := List.getElem?_eq_none_iff.mp hp; have := h.1; omega)]; rfl
  · have h2 := h.2 i p hp
    rw [Nat.mul_one] at h2
    have h3 := congrArg (fun l => l[0]?) h2
    simpa [List.getElem?_take, List.getElem?_drop] using h3
theorem Csw_reps' {α : Type} {enc : α → Value} (ps : List α) : Reps (fun x c => c = [enc x]) 1 ps (ps.map enc) := by
  refine ⟨by simp, fun j p hp => ?_⟩
  rw [Nat.mul_one]
  apply List.ext_getElem?
  intro i
  rcases i with _ | i
  · simp [List.getElem?_take, List.getElem?_drop, hp]
  · simp [List.getElem?_take]
abbrev CbT := {s : ByteArray // s.size ≤ maxLen}
instance : Inhabited CbT := ⟨⟨ByteArray.empty, by decide⟩⟩
def CbE (s : CbT) : Value := .string s.val
def CbMk (s : ByteArray) : CbT := if h : s.size ≤ maxLen then ⟨s, h⟩ else default
theorem CbMk_val {s : ByteArray} (h : s.size ≤ maxLen) : (CbMk s).val = s := by unfold CbMk; rw [dif_pos h]
/-- sums falling, then names rising -/
def CbCf (D : DataW Unit) (x y : CbT) : Int := if CbAt D y.1 < CbAt D x.1 then -1 else if CbAt D x.1 < CbAt D y.1 then 1 else if Op.bytesLess x.1.toList y.1.toList = true then -1 else if Op.bytesLess y.1.toList x.1.toList = true then 1 else 0
theorem CbL_irrefl : ∀ x : List UInt8, Op.bytesLess x x = false
  | [] => rfl
  | a :: x => by
    have ih := CbL_irrefl x
    have h2 : ¬ a < a := fun h' => absurd h' (Nat.lt_irrefl _)
    simp [Op.bytesLess, h2, ih]
theorem CbL_trans : ∀ x y z : List UInt8, Op.bytesLess x y = true → Op.bytesLess y z = true → Op.bytesLess x z = true
  | _, [], _ => fun h => by cases ‹List UInt8› <;> simp [Op.bytesLess] at h
  | _, _ :: _, [] => fun _ h => by simp [Op.bytesLess] at h
  | [], _ :: _, _ :: _ => fun _ _ => rfl
  | a :: x, b :: y, c :: z => fun h1 h2 => by
    have ih := CbL_trans x y z
    simp only [Op.bytesLess, Bool.or_eq_true, decide_eq_true_eq, Bool.and_eq_true, beq_iff_eq] at h1 h2 ⊢
    rcases h1 with h1 | ⟨rfl, h1⟩
    · rcases h2 with h2 | ⟨rfl, h2⟩
      · exact .inl (show a.toNat < c.toNat from Nat.lt_trans (show a.toNat < b.toNat from h1) (show b.toNat < c.toNat from h2))
      · exact .inl h1
    · rcases h2 with h2 | ⟨rfl, h2⟩
      · exact .inl h2
      · exact .inr ⟨rfl, ih h1 h2⟩
theorem CbL_total (x y : List UInt8) (h1 : Op.bytesLess x y = false) (h2 : Op.bytesLess y x = false) : x = y := by
  have h := Fy.gtrL_ x y
  rw [h1, h2] at h
  simpa using h
theorem CbLt_iff (D : DataW Unit) (x y : CbT) : ltOf (CbCf D) x y = true ↔ (CbAt D y.1 < CbAt D x.1 ∨ CbAt D y.1 = CbAt D x.1 ∧ Op.bytesLess x.1.toList y.1.toList = true) := by
  unfold ltOf CbCf
  by_cases h1 : CbAt D y.1 < CbAt D x.1
  · simp [h1]
  · by_cases h2 : CbAt D x.1 < CbAt D y.1
    · simp [h1, h2]; omega
    · have h3 : CbAt D y.1 = CbAt D x.1 := by omega
      by_cases h4 : Op.bytesLess x.1.toList y.1.toList = true
      · simp [h3, h4]
      · by_cases h5 : Op.bytesLess y.1.toList x.1.toList = true <;> simp [h3, h4, h5]
theorem CbLt_total (D : DataW Unit) (x y : CbT) (h1 : ltOf (CbCf D) x y = false) (h2 : ltOf (CbCf D) y x = false) : x.1.toList = y.1.toList := by
  have g1 := mt (CbLt_iff D x y).mpr (by rw [h1]; decide)
  have g2 := mt (CbLt_iff D y x).mpr (by rw [h2]; decide)
  have e : CbAt D y.1 = CbAt D x.1 := by omega
  refine CbL_total _ _ ?_ ?_
  · exact Bool.eq_false_iff.mpr fun h => g1 (.inr ⟨e, h⟩)
  · exact Bool.eq_false_iff.mpr fun h => g2 (.inr ⟨e.symm, h⟩)
theorem CbSWO (D : DataW Unit) : SWO (ltOf (CbCf D)) where
  irrefl x := Bool.eq_false_iff.mpr fun h => by
    rcases (CbLt_iff D x x).mp h with h | ⟨_, h⟩
    · omega
    · rw [CbL_irrefl] at h; cases h
  trans x y z h1 h2 := by
    rw [CbLt_iff] at h1 h2 ⊢
    rcases h1 with h1 | ⟨e1, h1⟩ <;> rcases h2 with h2 | ⟨e2, h2⟩
    · exact .inl (by omega)
    · exact .inl (by omega)
    · exact .inl (by omega)
    · exact .inr ⟨by omega, CbL_trans _ _ _ h1 h2⟩
  ntrans x y z h1 h2 := by
    refine Bool.eq_false_iff.mpr fun h3 => ?_
    have g1 := mt (CbLt_iff D x y).mpr (by rw [h1]; decide)
    have g2 := mt (CbLt_iff D y z).mpr (by rw [h2]; decide)
    rw [CbLt_iff] at h3
    rcases h3 with h3 | ⟨e3, h3⟩
    · omega
    · have e1 : CbAt D y.1 = CbAt D x.1 := by omega
      have e2 : CbAt D z.1 = CbAt D y.1 := by omega
      have b1 : Op.bytesLess x.1.toList y.1.toList = false := Bool.eq_false_iff.mpr fun h => g1 (.inr ⟨e1, h⟩)
      have b2 : Op.bytesLess y.1.toList z.1.toList = false := Bool.eq_false_iff.mpr fun h => g2 (.inr ⟨e2, h⟩)
      rcases hb : Op.bytesLess y.1.toList x.1.toList with _ | _
      · have := CbL_total _ _ b1 hb
        rw [this, b2] at h3; cases h3
      · have := CbL_trans _ _ _ hb h3
        rw [b2] at this; cases this
theorem CbCmp (D : DataW Unit) (x y : CbT) : ∃ r1 r2, Fao.f (CbAt D y.1) (CbAt D x.1) = some r1 ∧ Fy.f x.1 y.1 = some r2 ∧ Fv.f 5 [r1, r2] = some (CbCf D x y) := by
  refine ⟨if CbAt D y.1 < CbAt D x.1 then -1 else if CbAt D x.1 < CbAt D y.1 then 1 else 0, if Op.bytesLess x.1.toList y.1.toList = true then -1 else if Op.bytesLess y.1.toList x.1.toList = true then 1 else 0, ?_, ?_, ?_⟩
  · simp only [Fao.f, Fae.f, Option.bind_some, bne_self_eq_false, Bool.false_eq_true, if_false, gt_iff_lt]
    by_cases h1 : CbAt D y.1 < CbAt D x.1
    · simp only [if_pos h1]
    · by_cases h2 : CbAt D x.1 < CbAt D y.1
      · simp only [if_neg h1, if_pos h2]
      · simp only [if_neg h1, if_neg h2]
  · simp only [Fy.f, Fab.f, Option.bind_some, bne_self_eq_false, Bool.false_eq_true, if_false]
    by_cases h1 : Op.bytesLess x.1.toList y.1.toList = true
    · simp only [if_pos h1]
    · by_cases h2 : Op.bytesLess y.1.toList x.1.toList = true
      · simp only [if_neg h1, if_pos h2]
      · simp only [if_neg h1, if_neg h2]
  · have r0 : ∀ a b : Int, Go.Proofs.YtahfahlbdgbfeaaDoorW.PrintWords.rd [a, b] 0 = a := fun _ _ => rfl
    have r1_ : ∀ a b : Int, Go.Proofs.YtahfahlbdgbfeaaDoorW.PrintWords.rd [a, b] 1 = b := fun _ _ => rfl
    have q1 : ∀ b : Int, Fv.f 5 [-1, b] = some (-1) := fun b => by simp [Fv.f, Fv.l0, r0 _ _]
    have q2 : ∀ b : Int, Fv.f 5 [1, b] = some 1 := fun b => by simp [Fv.f, Fv.l0, r0 _ _]
    have q3 : ∀ b : Int, Fv.f 5 [0, b] = some b := fun b => by
      have w1 : wrap64 1 = 1 := by unfold wrap64; omega
      have w2 : wrap64 2 = 2 := by unfold wrap64; omega
      by_cases hb : b = 0
      · subst hb; simp [Fv.f, Fv.l0, r0, r1_, w1, w2]
      · simp [Fv.f, Fv.l0, r0, r1_, w1, w2, hb]
    unfold CbCf
    by_cases h1 : CbAt D y.1 < CbAt D x.1
    · simp only [if_pos h1]; exact q1 _
    · by_cases h2 : CbAt D x.1 < CbAt D y.1
      · simp only [if_neg h1, if_pos h2]; exact q2 _
      · simp only [if_neg h1, if_neg h2]; exact q3 _
theorem Cb_eg : ∀ args w, (callFunc 56 args).run Tryd.prog w = .ok (.enter 56 args) w := enters_of Tryd.func56 (by kernel_rfl) rfl
theorem CbLays {W : World} {b n pb g sz : Nat} {D : DataW Unit} (hM : W.ownsMap Tryd.prog 9 (plainElem Tryd.prog 3) b n D) (hP : W.heap[pb]? = some (.cells #[.map (some b)] 64 (0, 0))) (hb : b ≠ g) (hp : pb ≠ g) :
    CmpLays1 Tryd.prog 56 #[.pointer (some ⟨pb, 0, none⟩)] CbE (CbCf D) g 0 sz W := by
  intro m os dk hs x y
  obtain ⟨r1, r2, h1, h2, h3⟩ := CbCmp D x y
  refine (Faq.calls 5 x.1 y.1 x.2 y.2 ⟨pb, 0, none⟩ b n D _ r1 r2 _ ?_ ?_ h1 h2 h3)
  · exact (blk_cell ((Csw_block (blk_lt hP) hp).trans hP) 0).trans rfl
  · obtain ⟨es, clock, hbl, r⟩ := hM
    exact ⟨es, clock, (Csw_block (blk_lt hbl) hb).trans hbl, r⟩
theorem CbBytes {x y : ByteArray} (h : x.toList = y.toList) : x = y := by
  rw [ByteArray.toList_eq, ByteArray.toList_eq] at h
  exact Go.WideShapes.bytes_inj h
def CbSorted (D : DataW Unit) (acc : List ByteArray) : List ByteArray := ((acc.map CbMk).mergeSort fun x y => !(ltOf (CbCf D)) y x).map Subtype.val
theorem CbSorted_len (D : DataW Unit) (acc : List ByteArray) : (CbSorted D acc).length = acc.length := by simp [CbSorted]
set_option maxHeartbeats 2000000 in
theorem CbSort {W w0 : World} {base b n pb : Nat} {D : DataW Unit} {acc : List ByteArray} {v : Value} (hR : Kd.R Kd.string 9 W base (fun k => k ≠ b) v acc) (hM : W.ownsMap Tryd.prog 9 (plainElem Tryd.prog 3) b n D) (hP : W.heap[pb]? = some (.cells #[.map (some b)] 64 (0, 0)))
    (hsz : ∀ s ∈ acc, s.size ≤ maxLen) (hn : acc.length ≤ 1001) (hB : Below base w0 W) (hbase : base ≤ W.heap.size) :
    Calls Tryd.prog 55 #[v, .func (.func 56) #[] #[.pointer (some ⟨pb, 0, none⟩)]] W fun e w' => e = .returned (.tuple #[]) ∧ Kd.R Kd.string 9 w' base (fun k => k ≠ b) v (CbSorted D acc) ∧ Below base w0 w' ∧ W.grownBy w' v.ownBlock := by
  obtain ⟨hok, inner, ⟨hlen, hown⟩, hreps⟩ := hR
  rcases hown with ⟨rfl, h0⟩ | ⟨g, cap, cur, rfl, hg, hblk, hncap, hcap, hcur, htake⟩
  · obtain rfl : acc = [] := List.length_eq_zero_iff.mp h0
    have hcon := AnyF.slices_SortFunc_none (P := Tryd.prog) (ρ := Tryd.sort55_ren) { Tryd.sort55 with } none 0 (.func (.func 56) #[] #[.pointer (some ⟨pb, 0, none⟩)]) W
    refine hcon.mono ?_
    rintro e w' ⟨rfl, rfl⟩
    rw [show CbSorted D [] = [] by simp [CbSorted]]
    exact ⟨rfl, ⟨hok, inner, ⟨hlen, .inl ⟨rfl, rfl⟩⟩, hreps⟩, hB, ⟨rfl, rfl, rfl, Nat.le_refl _, fun _ _ _ => rfl⟩⟩
  · have hgb : g ≠ b := hok g rfl
    have hgp : pb ≠ g := by
      rintro rfl
      rw [hP] at hblk
      injection hblk with h1
      injection h1 with h2 h3
      exact absurd h3 (by decide)
    have hin : inner = acc.map Value.string := Csw_reps hreps
    have hd : ((acc.map CbMk).toArray).size = acc.length := by simp
    have hval : (acc.map CbMk).map CbE = acc.map Value.string := by
      rw [List.map_map]
      exact List.map_congr_left fun s hs => by simp only [Function.comp, CbE, CbMk_val (hsz s hs)]
    have hH : Holds CbE W g 0 (acc.map CbMk).toArray := by
      intro j hj
      have hj' : j < acc.length := by rw [hd] at hj; exact hj
      refine ⟨?_, blk_frozen hblk (0 + j)⟩
      refine (blk_cell hblk (0 + j)).trans ?_
      have h1 := congrArg (fun l => l[j]?) (htake.trans (hin.trans hval.symm))
      simp only [List.getElem?_take] at h1
      rw [if_pos (show j < acc.length * Kd.string.sz by show j < acc.length * 1; omega), Array.getElem?_toList, List.getElem?_map, List.getElem?_eq_getElem (by simpa using hj')] at h1
      rw [Nat.zero_add, h1, getElem!_pos _ j hj]
      simp
    have hcon := Any.slices_SortFunc_total Tryd.sort55 CbE (fun _ => rfl) (CbCf D) (CbSWO D) 56 #[.pointer (some ⟨pb, 0, none⟩)] g 0 cap (acc.map CbMk).toArray W Cb_eg (CbLays hM hP hgb.symm hgp) hH (blk_lt hblk) (by rw [hd]; omega) (fun x y h1 h2 => Subtype.ext (CbBytes (CbLt_total D x y h1 h2)))
    rw [hd] at hcon
    refine hcon.mono ?_
    rintro e w' ⟨rfl, m, os, rfl⟩
    have hs : ((acc.map CbMk).mergeSort fun x y => !(ltOf (CbCf D)) y x).length = acc.length := by simp
    have hmap : (CbSorted D acc).map Value.string = ((acc.map CbMk).mergeSort fun x y => !(ltOf (CbCf D)) y x).map CbE := by unfold CbSorted; rw [List.map_map]; rfl
    refine ⟨rfl, ⟨hok, (CbSorted D acc).map Value.string, ⟨by rw [List.length_map]; exact (Nat.mul_one _).symm, .inr ⟨g, cap, _, by rw [CbSorted_len], hg, Csw_row hblk, by rw [CbSorted_len]; exact hncap, hcap, ?_, ?_⟩⟩, Csw_reps' _⟩, Csw_keep hB hg hbase, ⟨rfl, rfl, rfl, Csw_size, fun j hj hne => Csw_block hj (fun e_ => hne (by rw [e_]; rfl))⟩⟩
    · exact (by simp [putCells] : (putCells CbE 0 _ cur).size = cur.size).trans hcur
    · rw [hmap]
      have hcs : cur.size = cap * 1 := hcur
      have h2 := Csw_take (enc := CbE) (d := ((acc.map CbMk).mergeSort fun x y => !(ltOf (CbCf D)) y x).toArray) (cur := cur) (by rw [List.size_toArray, hs]; omega)
      rw [List.size_toArray, hs] at h2
      rw [CbSorted_len]
      refine Eq.trans ?_ h2
      show List.take (acc.length * 1) _ = _
      rw [Nat.mul_one]
end Go.Proofs.YtahfahlbdgbfeaaDoor.X

namespace Go.Proofs.YtahfahlbdgbfeaaDoor.X
open Ho (bS eS)
open Go.RowKit Go.Proofs.YtahfahlbdgbfeaaDoorW.PrintWords Go.Proofs.YtahfahlbdgbfeaaDoorW.PrintLast Go.Proofs.YtahfahlbdgbfeaaDoorW.PrintMore
attribute [local go_sem] max2_int min2_int max_two min_two max_three min_three max_four min_four   -- for this text's walks alone
set_option linter.unusedVariables false
set_option linter.unusedSimpArgs false

attribute [local go_sem ↓] Ho.isSome_setCell_   -- a store leaves all places there
/-! ### Fp: function 17 -/
section Cb
open Ho (bS eS)
open Go.Maps Go.WideMaps
set_option linter.unusedVariables false
set_option linter.unusedSimpArgs false
/-- the key that a text is -/
abbrev CbKey (x : ByteArray) : Lit := .string x.data.toList
/-- one order more -/
def CbStep (s : DataW Unit × List ByteArray) (o : S41) : DataW Unit × List ByteArray :=
  (s.1.put (CbKey o.f1) (.lit (.int .i64 (wrap64 (CbAt s.1 o.f1 + o.f6)))), if Maps.has s.1 (CbKey o.f1) then s.2 else s.2 ++ [o.f1])
def CbRun (l : List S41) : DataW Unit × List ByteArray := l.foldl CbStep (.map [], [])
theorem CbRun_step {l : List S41} {kk : Nat} {o : S41} (h : l[kk]? = some o) : CbRun (l.take (kk + 1)) = CbStep (CbRun (l.take kk)) o := by
  unfold CbRun
  rw [List.take_add_one, h, Option.toList_some, List.foldl_append]
  rfl
theorem CbRun_len (l : List S41) : (CbRun l).2.length ≤ l.length := by
  unfold CbRun
  suffices h : ∀ (l : List S41) s, (l.foldl CbStep s).2.length ≤ s.2.length + l.length by simpa using h l (.map [], [])
  intro l
  induction l with
  | nil => intro s; simp
  | cons o l ih =>
    intro s
    simp only [List.foldl_cons, List.length_cons]
    refine Nat.le_trans (ih _) ?_
    unfold CbStep
    dsimp only
    split
    · omega
    · simp; omega
/-- the map's block, and what it holds -/
def CbM (es : Array (Value × Value × Nat)) : Prop := True
theorem CbFar {w : World} {g : Nat} {o : Obj} (h : w.heap[g]? = some o) {p : Addr} (hp : g ≠ p.block) (u : Value) : (w.setCell p u).heap[g]? = some o := (Below.heap_setCell w p u g hp).trans h
theorem CbMove {w w' : World} {b n : Nat} {D : DataW Unit} (h : w.ownsMap Tryd.prog 9 (plainElem Tryd.prog 3) b n D) (e : w'.heap[b]? = w.heap[b]?) : w'.ownsMap Tryd.prog 9 (plainElem Tryd.prog 3) b n D := by
  obtain ⟨es, clock, hb, r⟩ := h
  exact ⟨es, clock, e.trans hb, r⟩
section
variable {P : Program} {ops : Array Oper} {Q : Exit → Act → World → Prop} {rest : List Oper} {o : Oper} {a : Act}
theorem CbMake {W : World} (hgd : o.guard = none) (hop : o.op = .makeMap 64 none)
    (h : ∀ b, b = W.heap.size → ∀ w1, w1.ownsMap Tryd.prog 9 (plainElem (H := Unit) Tryd.prog 3) b 0 (.map []) → Below W.heap.size W w1 → b < w1.heap.size → wpList P ops Q rest (a.put o.dst (.map (some b))) w1) : wpList P ops Q (o :: rest) a W :=
  Kd.event_run hgd (by unfold execOp; rw [hop]; rfl) (h _ rfl _ (World.ownsMap_made _ _ _ _) (below_alloc (Below.refl _ _) _) (by simp))
end

theorem CbGen {P : Program} {ops : Array Oper} {Q : Exit → Act → World → Prop} {rest : List Oper} {a : Act} {W : World} {R : World → Prop} (h : R W) (k : ∀ w1, R w1 → wpList P ops Q rest a w1) : wpList P ops Q rest a W := k W h
theorem CbLt {w : World} {b n : Nat} {D : DataW Unit} (h : w.ownsMap Tryd.prog 9 (plainElem Tryd.prog 3) b n D) : b < w.heap.size := by
  obtain ⟨es, clock, hb, r⟩ := h
  exact blk_lt hb
theorem CbSet {w : World} {b n g : Nat} {D : DataW Unit} (h : w.ownsMap Tryd.prog 9 (plainElem Tryd.prog 3) b n D) (hne : b ≠ g) (i : Nat) (u : Value) : (w.setCell ⟨g, i, none⟩ u).ownsMap Tryd.prog 9 (plainElem Tryd.prog 3) b n D := CbMove h (Below.heap_setCell w _ u b hne)
theorem CbAl {w : World} {b n : Nat} {D : DataW Unit} (h : w.ownsMap Tryd.prog 9 (plainElem Tryd.prog 3) b n D) (o : Obj) : (w.alloc o).ownsMap Tryd.prog 9 (plainElem Tryd.prog 3) b n D := h.alloc o

theorem CbRun_mem {l : List S41} {x : ByteArray} (h : x ∈ (CbRun l).2) : ∃ o ∈ l, x = o.f1 := by
  unfold CbRun at h
  suffices hh : ∀ (l : List S41) s, x ∈ (l.foldl CbStep s).2 → x ∈ s.2 ∨ ∃ o ∈ l, x = o.f1 by
    rcases hh l _ h with h | h
    · simp at h
    · exact h
  intro l
  induction l with
  | nil => intro s h; exact .inl h
  | cons o l ih =>
    intro s h
    rcases ih _ h with h | ⟨o', ho, e⟩
    · unfold CbStep at h
      dsimp only at h
      split at h
      · exact .inl h
      · rcases List.mem_append.mp h with h | h
        · exact .inl h
        · exact .inr ⟨o, List.mem_cons_self, by simpa using h⟩
    · exact .inr ⟨o', List.mem_cons_of_mem _ ho, e⟩

theorem CbSorted_mem (D : DataW Unit) (acc : List ByteArray) (x : ByteArray) (h : x ∈ CbSorted D acc) : x.size ≤ maxLen := by
  unfold CbSorted at h
  obtain ⟨t, _, rfl⟩ := List.mem_map.mp h
  exact t.2

def CbOk (l : List S41) : Prop := l.length ≤ 1000 ∧ ∀ o ∈ l, o.f1.size ≤ 1000
instance (l : List S41) : Decidable (CbOk l) := inferInstanceAs (Decidable (_ ∧ _))
set_option maxHeartbeats 400000 in
set_option maxRecDepth 100000 in
theorem Fp.part (k : Nat) (A0 : Option Addr) (c0 : Nat) (l0 : List (S41)) (w : World) (hr0 : Kd.C k41 w A0 l0.length l0) (hc0 : l0.length ≤ c0) (h : Fw.f k l0 = some true) (hok : CbOk l0) :
  Calls Tryd.prog 17 #[.slice A0 l0.length c0] w fun e w' => ∃ v0_ v1_ : Value, e = .returned (.tuple #[v0_, v1_, .bool true]) ∧ Kd.R Kd.string 9 w' w.heap.size (fun _ => True) v0_ (CbSorted (CbRun l0).1 (CbRun l0).2) ∧ Kd.R (Kd.int .i64) 3 w' w.heap.size (fun _ => True) v1_ ((CbSorted (CbRun l0).1 (CbRun l0).2).map (CbAt (CbRun l0).1)) ∧ Below w.heap.size w w' := by
 have hu41 := Tryd.underlying41
 have HR0 := Aside0.mk hr0
 have HC0 := Aside0.mk hc0
 have HOK := Aside0.mk hok
 clear hr0 hc0 hok
 have HB := Aside0.mk (Below.refl w.heap.size w)
 have A2 := Aside0.mk h
 clear h
 go_enter Tryd.func17, Tryd.ntmps17
 go_wp2_with (first
   | ((with_reducible refine gate_callee (f := 31) rfl ?_); refine goesL_ (some 15) rfl rfl Tryd.func31 (by kernel_rfl) rfl #[.slice A0 l0.length c0] rfl (by (try simp only [List.map_toArray, List.map_cons, List.map_nil]); first | done | rfl | (simp only [List.length_drop, List.length_take]; rfl)) ?_; (with_reducible refine (Fw.calls k _ _ l0 true _ ?side1 ?side2 A2.out).mono ?_); (case side1 => repeat (first | exact HR0.out | (with_reducible refine Kd.C_alloc ?_ _) | (with_reducible refine Kd.C_drewN ?_ _) | (with_reducible refine Kd.C_drew ?_))); (case side2 => exact HC0.out); rintro e w4 ⟨rfl, hb⟩; refine ⟨_, rfl, ?_⟩; have n0_ := Aside0.mk (below_step (by exact eS HB.out) hb); clear HB; have HB := n0_; clear n0_; (try clear hb); (try clear hb2); (try clear hk); (try clear hi))
   | ((with_reducible refine gate_dst (N := 17) rfl ?_); refine CbMake rfl rfl ?_; intro b hbe w5 hown hb hlt; have n0_ := Aside0.mk (below_step (by exact eS HB.out) hb); have n1_ := Aside0.mk (show w.heap.size ≤ b by rw [hbe]; exact (below_size (by exact eS HB.out))); have HM := Aside0.mk hown; have HL := Aside0.mk hlt; clear HB; have HB := n0_; have GB := n1_; clear n0_ n1_; clear hown hb hlt hbe)
   | ((with_reducible refine gate_dst (N := 18) rfl ?_); refine Kd.R_lit Kd.string _ 9 ?hg (N := 18) ?hd (xs := ([] : List ByteArray)) (inner := []) (ok := fun k => k ≠ b) (okp := fun _ => False) ?hr ?hp (fun _ hk => hk.elim) ?hf (Below.refl _ _) (Nat.le_refl _) (by simp) ?_; (case hd => rfl); (case hg => rfl); (case hr => first | (go_simp; done) | (go_simp; rfl)); (case hp => exact (Reps.none _ _)); (case hf => exact Nat.ne_of_gt HL.out); intro v102 w6 ho145 hb hg_ hnew_; have n0_ := Aside0.mk (Kd.R_lower ho145 (below_size (by exact eS HB.out))); have n1_ := Aside0.mk (below_step (by exact eS HB.out) hb); have n2_ := Aside0.mk (CbMove HM.out (hb.block _ HL.out)); have n3_ := Aside0.mk (Nat.lt_of_lt_of_le HL.out hb.size); clear HB HM HL hg_ hnew_; have HO6 := n0_; have HB := n1_; have HM := n2_; have HL := n3_; clear n0_ n1_ n2_ n3_; clear hb ho145)
   | ((with_reducible refine gate_dst (N := 19) rfl ?_); refine Kd.R_lit (Kd.int .i64) _ 3 ?hg (N := 19) ?hd (xs := ([] : List Int)) (inner := []) (ok := fun k => k ≠ b) (okp := fun _ => False) ?hr ?hp (fun _ hk => hk.elim) ?hf (Below.refl _ _) (Nat.le_refl _) (by simp) ?_; (case hd => rfl); (case hg => rfl); (case hr => first | (go_simp; done) | (go_simp; rfl)); (case hp => exact (Reps.none _ _)); (case hf => exact Nat.ne_of_gt HL.out); intro v103 w7 ho145 hb hg_ hnew_; have n0_ := Aside0.mk (Kd.R_lower ho145 (below_size (by exact eS HB.out))); have n1_ := Aside0.mk (below_step (by exact eS HB.out) hb); have n2_ := Aside0.mk (CbMove HM.out (hb.block _ HL.out)); have n3_ := Aside0.mk (Nat.lt_of_lt_of_le HL.out hb.size); have n4_ := Aside0.mk (Kd.R_below HO6.out hb); clear HB HM HL HO6 hg_ hnew_; have HO7 := n0_; have HB := n1_; have HM := n2_; have HL := n3_; have HO6 := n4_; clear n0_ n1_ n2_ n3_ n4_; clear hb ho145)
   | ((with_reducible refine gate_dst (N := 5) rfl ?_); refine box_event ?hg (N := 5) ?hd (cs := #[.map none]) (t := 64) ?hr ?_; (case hd => rfl); (case hg => rfl); (case hr => first | (go_simp; done) | (go_simp; rfl)); intro pb hg w8 hbox hb; have n0_ := Aside0.mk (below_step (by exact eS HB.out) hb); have n1_ := Aside0.mk (hbox); have n2_ := Aside0.mk ((by rw [hg]; exact (below_size (by exact eS HB.out)) : w.heap.size ≤ pb)); have n3_ := Aside0.mk (CbMove HM.out (hb.block _ HL.out)); have n4_ := Aside0.mk (Nat.lt_of_lt_of_le HL.out hb.size); have n5_ := Aside0.mk (Kd.R_below HO6.out hb); have n6_ := Aside0.mk (Kd.R_below HO7.out hb); have HN := Aside0.mk (show b ≠ pb by rw [hg]; exact Nat.ne_of_lt HL.out); clear HB HM HL HO6 HO7; have HB := n0_; have BKP := n1_; have GP := n2_; have HM := n3_; have HL := n4_; have HO6 := n5_; have HO7 := n6_; clear n0_ n1_ n2_ n3_ n4_ n5_ n6_; have hcz0 := blk_cell BKP.out 0; have hfz0 := blk_frozen BKP.out 0; clear hb hbox hg)
   | go_in)
 have HM0 := Aside0.mk (CbMove HM.out (Below.heap_setCell w8 ⟨pb, 0, none⟩ (.map (some b)) b HN.out))
 go_loopg [6, 22] (l0.length + 1) (fun kq v6 v22 w' => ∃ (kk : Nat) (x22 : Int), v22 = .int .i64 x22 ∧ Aside0 (x22 = (kk : Int)) ∧ Aside0 (kk + kq = l0.length + 1 ∧ kk ≤ l0.length) ∧ Aside0 (Kd.R Kd.string 9 w' w.heap.size (fun k => k ≠ b) v6 (CbRun (l0.take kk)).2) ∧ Aside0 (w'.ownsMap Tryd.prog 9 (plainElem Tryd.prog 3) b kk (CbRun (l0.take kk)).1) ∧ Aside0 (w'.heap[pb]? = some (.cells #[.map (some b)] 64 (0, 0))) ∧ Aside0 (Kd.R (Kd.int .i64) 3 w' w.heap.size (fun k => k ≠ b) v103 []) ∧ Aside0 (Below w.heap.size w w'))
 case atStart => exact ⟨0, 0, rfl, ⟨rfl⟩, ⟨by omega, Nat.zero_le _⟩, ⟨by exact Kd.R_mono (Kd.R_far (p := ⟨pb, 0, none⟩) (Kd.R_types HO6.out BKP.out (by decide)) (fun _ hk => hk.2) _) (fun _ h_ => h_.1)⟩, ⟨HM0.out⟩, ⟨blk_put BKP.out 0 _ rfl⟩, ⟨by exact Kd.R_mono (Kd.R_far (p := ⟨pb, 0, none⟩) (Kd.R_types HO7.out BKP.out (by decide)) (fun _ hk => hk.2) _) (fun _ h_ => h_.1)⟩, ⟨below_set HB.out GP.out⟩⟩
 case round =>
  clear HM0 HO6 HO7 HM BKP HB hcz0 hfz0 HL
  obtain ⟨kk, x22, rfl, HX, HK1, HO6, HM, BKP, HO7, HB⟩ := hrel
  cases gk with
  | zero => exact absurd HK1.out (by omega)
  | succ k1 =>
   have HLEN := Aside0.mk (show kk < 1000 + 1 from by have := HK1.out; have := HOK.out.1; omega)
   by_cases c4 : x22 < (l0.length : Int)
   rotate_left
   ·have c4b0 : decide (x22 < (l0.length : Int)) = false := decide_eq_false c4
    obtain rfl : kk = l0.length := by have := HX.out; have := HK1.out; omega
    have q1_ := Aside0.mk (show Kd.R Kd.string 9 wr w.heap.size (fun k => k ≠ b) u6 (CbRun l0).2 by have h_ := HO6.out; rwa [List.take_length] at h_)
    have q2_ := Aside0.mk (show wr.ownsMap Tryd.prog 9 (plainElem Tryd.prog 3) b l0.length (CbRun l0).1 by have h_ := HM.out; rwa [List.take_length] at h_)
    clear HO6 HM
    have HO6 := q1_
    have HM := q2_
    clear q1_ q2_
    have HS := Aside0.mk (show ∀ s ∈ (CbRun l0).2, s.size ≤ maxLen from fun s hs => by obtain ⟨o, ho, rfl⟩ := CbRun_mem hs; exact Nat.le_trans (HOK.out.2 _ ho) (by unfold maxLen; omega))
    have HN2 := Aside0.mk (show (CbRun l0).2.length ≤ 1001 from Nat.le_trans (CbRun_len _) (by have := HOK.out.1; omega))
    obtain ⟨Ao, co, rfl, hlo_, hrd_⟩ := Kd.R_reads HO6.out
    clear hrd_
    have HLO := Aside0.mk hlo_
    clear hlo_
    have hcp : wr.cell? ⟨pb, 0, none⟩ = some (.map (some b)) := (blk_cell BKP.out 0).trans rfl
    go_wp2_with (first | (go_at_call 55; refine (CbSort HO6.out HM.out BKP.out HS.out HN2.out HB.out (below_size HB.out)).mono ?_; rintro e w20 ⟨rfl, hr, hb, hg⟩; have n0_ := Aside0.mk (CbMove HM.out (hg.block b (CbLt HM.out) (fun e_ => HO6.out.1 b e_.symm rfl))); have n1_ := Aside0.mk (blk_grown BKP.out hg (Kd.R_ne HO6.out BKP.out (by decide))); have n3_ := Aside0.mk (by obtain ⟨_, inner_, hown_, _⟩ := HO7.out; exact Kd.R_grown2 HO7.out rfl hg (fun k e he => by obtain ⟨cs_, h7_⟩ := own_typed hown_ k he.symm; exact Kd.R_ne HO6.out h7_ (by decide) e.symm)); clear HM BKP HO7 HO6 HB hcp; have HM := n0_; have BKP := n1_; have HO7 := n3_; have HB := Aside0.mk hb; have HO6 := Aside0.mk hr; clear n0_ n1_ n3_ hr hb hg) | go_in)
    have HDL := Aside0.mk (CbSorted_len (CbRun l0).1 (CbRun l0).2)
    go_loopg [7, 53] ((CbRun l0).2.length + 1) (fun kq v7 v53 w' => ∃ (kk : Nat) (x53 : Int), v53 = .int .i64 x53 ∧ Aside0 (x53 = (kk : Int)) ∧ Aside0 (kk + kq = (CbRun l0).2.length + 1 ∧ kk ≤ (CbRun l0).2.length) ∧ Aside0 (Kd.R (Kd.int .i64) 3 w' w.heap.size (fun k => k ≠ b) v7 (((CbSorted (CbRun l0).1 (CbRun l0).2).take kk).map (CbAt (CbRun l0).1))) ∧ Aside0 (Kd.R Kd.string 9 w' w.heap.size (fun k => k ≠ b) (.slice Ao (CbRun l0).2.length co) (CbSorted (CbRun l0).1 (CbRun l0).2)) ∧ Aside0 (w'.ownsMap Tryd.prog 9 (plainElem Tryd.prog 3) b l0.length (CbRun l0).1) ∧ Aside0 (w'.heap[pb]? = some (.cells #[.map (some b)] 64 (0, 0))) ∧ Aside0 (Below w.heap.size w w'))
    case atStart => exact ⟨0, 0, rfl, ⟨rfl⟩, ⟨by omega, Nat.zero_le _⟩, ⟨by exact HO7.out⟩, HO6, HM, BKP, HB⟩
    case round =>
     clear HO6 HO7 HM BKP HB HX HK1
     obtain ⟨kk, x53, rfl, HX, HK1, HO7, HO6, HM, BKP, HB⟩ := hrel
     cases gk with
     | zero => exact absurd HK1.out (by omega)
     | succ k2 =>
      have HLK := Aside0.mk (show kk ≤ 1002 from by have := HK1.out; have := HN2.out; omega)
      by_cases c5 : x53 < ((CbRun l0).2.length : Int)
      rotate_left
      ·have c5b0 : decide (x53 < ((CbRun l0).2.length : Int)) = false := decide_eq_false c5
       go_wp2
       go_ret3
       have e_ : (CbSorted (CbRun l0).1 (CbRun l0).2).take kk = (CbSorted (CbRun l0).1 (CbRun l0).2) := List.take_of_length_le (by have := HX.out; have := HDL.out; omega)
       exact ⟨_, _, rfl, Kd.R_mono HO6.out (fun _ _ => trivial), by have h_ := Kd.R_mono HO7.out (ok' := fun _ => True) (fun _ _ => trivial); rwa [e_] at h_, HB.out⟩
      have c5b0 : decide (x53 < ((CbRun l0).2.length : Int)) = true := decide_eq_true c5
      have p104 : 0 ≤ (x53 : Int) := by have := HX.out; omega
      have q104 : x53 < ((CbSorted (CbRun l0).1 (CbRun l0).2).length : Int) := by rw [HDL.out]; exact c5
      obtain ⟨ad104, e104, hx⟩ := Kd.at_string (Kd.R_reads' HO6.out).2.2 x53 p104 q104
      cases e104
      have HSZ2 := Aside0.mk (show (rdOf ByteArray.empty (CbSorted (CbRun l0).1 (CbRun l0).2) x53).size ≤ maxLen from by
        have hlt_ : kk < (CbSorted (CbRun l0).1 (CbRun l0).2).length := by have := HX.out; have := HDL.out; omega
        rw [HX.out, show rdOf ByteArray.empty (CbSorted (CbRun l0).1 (CbRun l0).2) (kk : Int) = (CbSorted (CbRun l0).1 (CbRun l0).2)[kk] by simp [rdOf, List.getElem?_eq_getElem hlt_]]
        exact CbSorted_mem _ _ _ (List.getElem_mem hlt_))
      have HTK := Aside0.mk (show ((CbSorted (CbRun l0).1 (CbRun l0).2).take (kk + 1)).map (CbAt (CbRun l0).1) = ((CbSorted (CbRun l0).1 (CbRun l0).2).take kk).map (CbAt (CbRun l0).1) ++ [(CbAt (CbRun l0).1) (rdOf ByteArray.empty (CbSorted (CbRun l0).1 (CbRun l0).2) x53)] from by
        have hlt_ : kk < (CbSorted (CbRun l0).1 (CbRun l0).2).length := by have := HX.out; have := HDL.out; omega
        rw [List.take_add_one, List.getElem?_eq_getElem hlt_, HX.out, show rdOf ByteArray.empty (CbSorted (CbRun l0).1 (CbRun l0).2) (kk : Int) = (CbSorted (CbRun l0).1 (CbRun l0).2)[kk] by simp [rdOf, List.getElem?_eq_getElem hlt_], Option.toList_some, List.map_append, List.map_singleton])
      have hcp : wr.cell? ⟨pb, 0, none⟩ = some (.map (some b)) := (blk_cell BKP.out 0).trans rfl
      have p104_ := eq_true p104
      have q104_ := eq_true c5
      clear p104 q104
      go_wp2_with (first | ((with_reducible refine gate_dst (N := 60) rfl ?_); at_lookup; refine wpList_lookup_own_int _ rfl _ _ 64 rfl 9 3 .i64 CbLaw Tryd.underlying64 Tryd.underlying3 (CbZero _) b l0.length _ rfl (by with_reducible exact HM.out) _ _ rfl (keyOf_string_mk Tryd.underlying9 HSZ2.out) ?_; intro cy hcy _) | ((with_reducible refine gate_builtin (b := .append) (xs := #[.tmp 57, .tmp 61]) rfl ?_); at_builtin; refine Kd.R_append (Kd.int .i64) (w0 := w) w.heap.size rfl (.tmp 57) (.tmp 61) 25 3 (.int .i64 0) 8 rfl Tryd.underlying25 info3 rfl (by decide) (by omega) u7 ((CbSorted (CbRun l0).1 (CbRun l0).2).take kk |>.map (CbAt (CbRun l0).1)) cy [.int .i64 cy] (fun k => k ≠ b) (fun _ => False) rfl (by first | (go_simp; done) | (go_simp; rfl)) ?aP (fun _ hk => hk.elim) ?aF ?aO ?aB ?aS ?aL ?_; (case aP => exact rfl); (case aB => exact HB.out); (case aF => exact (fun k_ hk_ e_ => by have := CbLt HM.out; omega)); (case aO => exact HO7.out); (case aS => exact (below_size HB.out)); (case aL => have := HN2.out; have := HLK.out; rw [List.length_map, List.length_take]; omega); intro v107 w12 ho hb hg hat; have n0_ := Aside0.mk (CbMove HM.out (hg.block b (CbLt HM.out) (fun e_ => HO7.out.1 b e_.symm rfl))); have n1_ := Aside0.mk (blk_grown BKP.out hg (Kd.R_ne HO7.out BKP.out (by decide))); have n3_ := Aside0.mk (by obtain ⟨_, inner_, hown_, _⟩ := HO6.out; exact Kd.R_grown2 HO6.out rfl hg (fun k e he => by obtain ⟨cs_, h7_⟩ := own_typed hown_ k he.symm; exact Kd.R_ne HO7.out h7_ (by decide) e.symm)); clear HM BKP HO7 HO6 HB hcp hx; have HM := n0_; have BKP := n1_; have HO6 := n3_; have HB := Aside0.mk hb; have HO7 := Aside0.mk ho; clear n0_ n1_ n3_ ho hb hg hat) | go_in)
      go_roundg k2
      case measure => have := HK1.out; omega
      case rel => exact ⟨kk + 1, wrap64 (x53 + 1), rfl, ⟨by rw [HX.out]; have := HLK.out; unfold wrap64; omega⟩, ⟨by have := HK1.out; omega, by have := HX.out; omega⟩, ⟨by rw [HTK.out, CbAt_of hcy]; exact HO7.out⟩, HO6, HM, BKP, HB⟩
   have c4b0 : decide (x22 < (l0.length : Int)) = true := decide_eq_true c4
   have hkk : l0[kk]? = some (rd_T41 l0 x22) := by
    have hlt_ : kk < l0.length := by have := HX.out; omega
    rw [HX.out]; simp only [rd_T41, Int.toNat_natCast, List.getD_eq_getElem?_getD, List.getElem?_eq_getElem hlt_, Option.getD_some]
   have HSZ := Aside0.mk (show ((rd_T41 l0 x22).f1).size ≤ maxLen from Nat.le_trans (HOK.out.2 _ (List.mem_of_getElem? hkk)) (by unfold maxLen; omega))
   have HST := Aside0.mk (CbRun_step hkk)
   clear hkk
   have p104 : 0 ≤ (x22 : Int) := by have := HX.out; omega
   have q104 : x22 < (l0.length : Int) := c4
   obtain ⟨ad104, e104, hx0, hx1, hx2, hx3, hx4, hx5, hx6, hx7⟩ := at_T41 HR0.out x22 p104 q104
   cases e104
   replace hx0 := Sq.cB HB.out hx0
   replace hx1 := Sq.cB HB.out hx1
   replace hx2 := Sq.cB HB.out hx2
   replace hx3 := Sq.cB HB.out hx3
   replace hx4 := Sq.cB HB.out hx4
   replace hx5 := Sq.cB HB.out hx5
   replace hx6 := Sq.cB HB.out hx6
   replace hx7 := Sq.cB HB.out hx7
   have p104_ := eq_true p104
   have q104_ := eq_true q104
   clear p104 q104
   by_cases hmet : Maps.has (CbRun (l0.take kk)).1 (CbKey ((rd_T41 l0 x22).f1)) = true
   ·have HMET := Aside0.mk hmet
    clear hmet
    go_wp2_with (first | ((with_reducible refine gate_dst (N := 9) rfl ?_); refine box_event ?hg (N := 9) ?hd (cs := #[.int .i64 0, .string (⟨#[]⟩ : ByteArray), .int .i64 0, .int .i64 0, .int .i64 0, .int .i64 0, .int .i64 0, .int .i64 0]) (t := 41) ?hr ?_; (case hd => rfl); (case hg => rfl); (case hr => first | (go_simp; done) | (go_simp; rfl)); intro gb hg w9 hbox hb; have n0_ := Aside0.mk (below_step (by exact eS HB.out) hb); have n1_ := Aside0.mk hbox; have n2_ := Aside0.mk ((by rw [hg]; exact (below_size (by exact eS HB.out)) : w.heap.size ≤ gb)); have n3_ := Aside0.mk (CbMove HM.out (hb.block _ (CbLt HM.out))); have HNg := Aside0.mk (show b ≠ gb by rw [hg]; exact Nat.ne_of_lt (CbLt HM.out)); have hpg1 := eq_false (show ¬ gb = pb by rw [hg]; exact (Nat.ne_of_lt (blk_lt BKP.out)).symm); have hpg2 := eq_false (show ¬ pb = gb by rw [hg]; exact (Nat.ne_of_lt (blk_lt BKP.out))); have n4_ := Aside0.mk (Kd.R_below HO6.out hb); have n5_ := Aside0.mk (Kd.R_below HO7.out hb); have n6_ := Aside0.mk (blk_below BKP.out hb); clear HB HM HO6 HO7 BKP; have HB := n0_; have BK := n1_; have GE := n2_; have HM := n3_; have HO6 := n4_; have HO7 := n5_; have BKP := n6_; clear n0_ n1_ n2_ n3_ n4_ n5_ n6_; have hcp : w9.cell? ⟨pb, 0, none⟩ = some (.map (some b)) := (blk_cell BKP.out 0).trans rfl; clear hb hbox hg; obtain ⟨hcz0, hcz1, hcz2, hcz3, hcz4, hcz5, hcz6, hcz7, hfz0, hfz1, hfz2, hfz3, hfz4, hfz5, hfz6, hfz7⟩ := Sq.c8 BK.out) | ((with_reducible refine gate_dst (N := 27) rfl ?_); (fail_if_success guard_hyp GEN_ : True); refine CbGen (R := fun w1 => w1.heap[gb]? = some (.cells #[.int .i64 ((rd_T41 l0 x22).f0), .string ((rd_T41 l0 x22).f1), .int .i64 ((rd_T41 l0 x22).f2), .int .i64 ((rd_T41 l0 x22).f3), .int .i64 ((rd_T41 l0 x22).f4), .int .i64 ((rd_T41 l0 x22).f5), .int .i64 ((rd_T41 l0 x22).f6), .int .i64 ((rd_T41 l0 x22).f7)] 41 (0, 0)) ∧ w1.heap[pb]? = some (.cells #[.map (some b)] 64 (0, 0)) ∧ w1.ownsMap Tryd.prog 9 (plainElem Tryd.prog 3) b kk (CbRun (l0.take kk)).1 ∧ Kd.R Kd.string 9 w1 w.heap.size (fun k => k ≠ b) u6 (CbRun (l0.take kk)).2 ∧ Kd.R (Kd.int .i64) 3 w1 w.heap.size (fun k => k ≠ b) v103 [] ∧ Below w.heap.size w w1) ⟨Sq.put8 BK.out, (by repeat (first | (with_reducible exact BKP.out) | (with_reducible refine CbFar ?_ (of_eq_false hpg2) _))), (by with_reducible repeat (first | exact HM.out | refine CbSet ?_ HNg.out _ _)), (by exact Kd.R_mono (Kd.R_far (p := ⟨gb, 7, none⟩) (Kd.R_far (p := ⟨gb, 6, none⟩) (Kd.R_far (p := ⟨gb, 5, none⟩) (Kd.R_far (p := ⟨gb, 4, none⟩) (Kd.R_far (p := ⟨gb, 3, none⟩) (Kd.R_far (p := ⟨gb, 2, none⟩) (Kd.R_far (p := ⟨gb, 1, none⟩) (Kd.R_far (p := ⟨gb, 0, none⟩) (Kd.R_types HO6.out BK.out (by decide)) (fun _ hk => hk.2) _) (fun _ hk => hk.2) _) (fun _ hk => hk.2) _) (fun _ hk => hk.2) _) (fun _ hk => hk.2) _) (fun _ hk => hk.2) _) (fun _ hk => hk.2) _) (fun _ hk => hk.2) _) (fun _ h_ => h_.1)), (by exact Kd.R_mono (Kd.R_far (p := ⟨gb, 7, none⟩) (Kd.R_far (p := ⟨gb, 6, none⟩) (Kd.R_far (p := ⟨gb, 5, none⟩) (Kd.R_far (p := ⟨gb, 4, none⟩) (Kd.R_far (p := ⟨gb, 3, none⟩) (Kd.R_far (p := ⟨gb, 2, none⟩) (Kd.R_far (p := ⟨gb, 1, none⟩) (Kd.R_far (p := ⟨gb, 0, none⟩) (Kd.R_types HO7.out BK.out (by decide)) (fun _ hk => hk.2) _) (fun _ hk => hk.2) _) (fun _ hk => hk.2) _) (fun _ hk => hk.2) _) (fun _ hk => hk.2) _) (fun _ hk => hk.2) _) (fun _ hk => hk.2) _) (fun _ hk => hk.2) _) (fun _ h_ => h_.1)), (by repeat (first | (with_reducible first | exact HB.out | apply below_alloc | apply pw_below_drewN | apply below_drew1 | refine below_set ?_ GE.out) | exact HB.out))⟩ ?_; intro w10 hR_; have GEN_ := True.intro; obtain ⟨g1_, g2_, g3_, g4_, g5_, g6_⟩ := hR_; clear HB HM HO6 HO7 BKP BK hcz0 hcz1 hcz2 hcz3 hcz4 hcz5 hcz6 hcz7 hfz0 hfz1 hfz2 hfz3 hfz4 hfz5 hfz6 hfz7 hcp; have BK := Aside0.mk g1_; have BKP := Aside0.mk g2_; have HM := Aside0.mk g3_; have HO6 := Aside0.mk g4_; have HO7 := Aside0.mk g5_; have HB := Aside0.mk g6_; clear g1_ g2_ g3_ g4_ g5_ g6_ hx0 hx1 hx2 hx3 hx4 hx5 hx6 hx7; have hcp : w10.cell? ⟨pb, 0, none⟩ = some (.map (some b)) := (blk_cell BKP.out 0).trans rfl; obtain ⟨hcz0, hcz1, hcz2, hcz3, hcz4, hcz5, hcz6, hcz7, hfz0, hfz1, hfz2, hfz3, hfz4, hfz5, hfz6, hfz7⟩ := Sq.c8 BK.out) | ((with_reducible refine gate_dst (N := 30) rfl ?_); at_lookup; refine wpList_lookup_own_ok_int _ rfl _ _ 64 rfl 9 3 .i64 CbLaw Tryd.underlying64 Tryd.underlying3 (CbZero _) b kk _ rfl (by with_reducible repeat (first | exact HM.out | refine CbAl ?_ _)) _ _ rfl (keyOf_string_mk Tryd.underlying9 HSZ.out) ?_; intro cm_ _ _; (try rw [HMET.out])) | ((with_reducible refine gate_dst (N := 43) rfl ?_); at_lookup; refine wpList_lookup_own_int _ rfl _ _ 64 rfl 9 3 .i64 CbLaw Tryd.underlying64 Tryd.underlying3 (CbZero _) b kk _ rfl (by with_reducible repeat (first | exact HM.out | refine CbAl ?_ _)) _ _ rfl (keyOf_string_mk Tryd.underlying9 HSZ.out) ?_; intro cy hcy _) | (at_mapUpdate; refine wpList_mapUpdate_own _ rfl _ _ _ 64 rfl 9 3 CbLaw Tryd.underlying64 _ b kk _ rfl (by with_reducible repeat (first | exact HM.out | refine CbAl ?_ _)) (by have := HLEN.out; unfold maxLen; omega) _ _ _ rfl rfl (keyOf_string_mk Tryd.underlying9 HSZ.out) _ [] (plainElem_int Tryd.underlying3 (wrap64_wf _)) ?_; intro w11 hown1 hgrow1; skip) | go_in)
    go_roundg k1
    case measure => have := HK1.out; omega
    case rel => exact ⟨kk + 1, wrap64 (x22 + 1), rfl, ⟨by rw [HX.out]; have := HLEN.out; unfold wrap64; omega⟩, ⟨by have := HK1.out; omega, by have := HX.out; omega⟩, ⟨by rw [HST.out]; simp only [CbStep, HMET.out, if_true]; exact Kd.R_grown HO6.out hgrow1 (fun k_ hk_ e_ => hk_ (Option.some.inj e_))⟩, ⟨by rw [HST.out]; simp only [CbStep]; rw [CbAt_of hcy]; exact hown1⟩, ⟨blk_grown BKP.out hgrow1 (fun e_ => HN.out (Option.some.inj e_).symm)⟩, ⟨Kd.R_grown HO7.out hgrow1 (fun k_ hk_ e_ => hk_ (Option.some.inj e_))⟩, ⟨HB.out.grown hgrow1 HB.out.size (fun j_ hj_ => by cases hj_; exact GB.out)⟩⟩
   ·have HMET := Aside0.mk (Bool.eq_false_iff.mpr hmet)
    clear hmet
    have HAL := Aside0.mk (show (CbRun (l0.take kk)).2.length ≤ 1001 from Nat.le_trans (CbRun_len _) (by have := HLEN.out; rw [List.length_take]; omega))
    go_wp2_with (first | ((with_reducible refine gate_dst (N := 9) rfl ?_); refine box_event ?hg (N := 9) ?hd (cs := #[.int .i64 0, .string (⟨#[]⟩ : ByteArray), .int .i64 0, .int .i64 0, .int .i64 0, .int .i64 0, .int .i64 0, .int .i64 0]) (t := 41) ?hr ?_; (case hd => rfl); (case hg => rfl); (case hr => first | (go_simp; done) | (go_simp; rfl)); intro gb hg w9 hbox hb; have n0_ := Aside0.mk (below_step (by exact eS HB.out) hb); have n1_ := Aside0.mk hbox; have n2_ := Aside0.mk ((by rw [hg]; exact (below_size (by exact eS HB.out)) : w.heap.size ≤ gb)); have n3_ := Aside0.mk (CbMove HM.out (hb.block _ (CbLt HM.out))); have HNg := Aside0.mk (show b ≠ gb by rw [hg]; exact Nat.ne_of_lt (CbLt HM.out)); have hpg1 := eq_false (show ¬ gb = pb by rw [hg]; exact (Nat.ne_of_lt (blk_lt BKP.out)).symm); have hpg2 := eq_false (show ¬ pb = gb by rw [hg]; exact (Nat.ne_of_lt (blk_lt BKP.out))); have n4_ := Aside0.mk (Kd.R_below HO6.out hb); have n5_ := Aside0.mk (Kd.R_below HO7.out hb); have n6_ := Aside0.mk (blk_below BKP.out hb); clear HB HM HO6 HO7 BKP; have HB := n0_; have BK := n1_; have GE := n2_; have HM := n3_; have HO6 := n4_; have HO7 := n5_; have BKP := n6_; clear n0_ n1_ n2_ n3_ n4_ n5_ n6_; have hcp : w9.cell? ⟨pb, 0, none⟩ = some (.map (some b)) := (blk_cell BKP.out 0).trans rfl; clear hb hbox hg; obtain ⟨hcz0, hcz1, hcz2, hcz3, hcz4, hcz5, hcz6, hcz7, hfz0, hfz1, hfz2, hfz3, hfz4, hfz5, hfz6, hfz7⟩ := Sq.c8 BK.out) | ((with_reducible refine gate_dst (N := 27) rfl ?_); (fail_if_success guard_hyp GEN_ : True); refine CbGen (R := fun w1 => w1.heap[gb]? = some (.cells #[.int .i64 ((rd_T41 l0 x22).f0), .string ((rd_T41 l0 x22).f1), .int .i64 ((rd_T41 l0 x22).f2), .int .i64 ((rd_T41 l0 x22).f3), .int .i64 ((rd_T41 l0 x22).f4), .int .i64 ((rd_T41 l0 x22).f5), .int .i64 ((rd_T41 l0 x22).f6), .int .i64 ((rd_T41 l0 x22).f7)] 41 (0, 0)) ∧ w1.heap[pb]? = some (.cells #[.map (some b)] 64 (0, 0)) ∧ w1.ownsMap Tryd.prog 9 (plainElem Tryd.prog 3) b kk (CbRun (l0.take kk)).1 ∧ Kd.R Kd.string 9 w1 w.heap.size (fun k => k ≠ b) u6 (CbRun (l0.take kk)).2 ∧ Kd.R (Kd.int .i64) 3 w1 w.heap.size (fun k => k ≠ b) v103 [] ∧ Below w.heap.size w w1) ⟨Sq.put8 BK.out, (by repeat (first | (with_reducible exact BKP.out) | (with_reducible refine CbFar ?_ (of_eq_false hpg2) _))), (by with_reducible repeat (first | exact HM.out | refine CbSet ?_ HNg.out _ _)), (by exact Kd.R_mono (Kd.R_far (p := ⟨gb, 7, none⟩) (Kd.R_far (p := ⟨gb, 6, none⟩) (Kd.R_far (p := ⟨gb, 5, none⟩) (Kd.R_far (p := ⟨gb, 4, none⟩) (Kd.R_far (p := ⟨gb, 3, none⟩) (Kd.R_far (p := ⟨gb, 2, none⟩) (Kd.R_far (p := ⟨gb, 1, none⟩) (Kd.R_far (p := ⟨gb, 0, none⟩) (Kd.R_types HO6.out BK.out (by decide)) (fun _ hk => hk.2) _) (fun _ hk => hk.2) _) (fun _ hk => hk.2) _) (fun _ hk => hk.2) _) (fun _ hk => hk.2) _) (fun _ hk => hk.2) _) (fun _ hk => hk.2) _) (fun _ hk => hk.2) _) (fun _ h_ => h_.1)), (by exact Kd.R_mono (Kd.R_far (p := ⟨gb, 7, none⟩) (Kd.R_far (p := ⟨gb, 6, none⟩) (Kd.R_far (p := ⟨gb, 5, none⟩) (Kd.R_far (p := ⟨gb, 4, none⟩) (Kd.R_far (p := ⟨gb, 3, none⟩) (Kd.R_far (p := ⟨gb, 2, none⟩) (Kd.R_far (p := ⟨gb, 1, none⟩) (Kd.R_far (p := ⟨gb, 0, none⟩) (Kd.R_types HO7.out BK.out (by decide)) (fun _ hk => hk.2) _) (fun _ hk => hk.2) _) (fun _ hk => hk.2) _) (fun _ hk => hk.2) _) (fun _ hk => hk.2) _) (fun _ hk => hk.2) _) (fun _ hk => hk.2) _) (fun _ hk => hk.2) _) (fun _ h_ => h_.1)), (by repeat (first | (with_reducible first | exact HB.out | apply below_alloc | apply pw_below_drewN | apply below_drew1 | refine below_set ?_ GE.out) | exact HB.out))⟩ ?_; intro w10 hR_; have GEN_ := True.intro; obtain ⟨g1_, g2_, g3_, g4_, g5_, g6_⟩ := hR_; clear HB HM HO6 HO7 BKP BK hcz0 hcz1 hcz2 hcz3 hcz4 hcz5 hcz6 hcz7 hfz0 hfz1 hfz2 hfz3 hfz4 hfz5 hfz6 hfz7 hcp; have BK := Aside0.mk g1_; have BKP := Aside0.mk g2_; have HM := Aside0.mk g3_; have HO6 := Aside0.mk g4_; have HO7 := Aside0.mk g5_; have HB := Aside0.mk g6_; clear g1_ g2_ g3_ g4_ g5_ g6_ hx0 hx1 hx2 hx3 hx4 hx5 hx6 hx7; have hcp : w10.cell? ⟨pb, 0, none⟩ = some (.map (some b)) := (blk_cell BKP.out 0).trans rfl; obtain ⟨hcz0, hcz1, hcz2, hcz3, hcz4, hcz5, hcz6, hcz7, hfz0, hfz1, hfz2, hfz3, hfz4, hfz5, hfz6, hfz7⟩ := Sq.c8 BK.out) | ((with_reducible refine gate_dst (N := 30) rfl ?_); at_lookup; refine wpList_lookup_own_ok_int _ rfl _ _ 64 rfl 9 3 .i64 CbLaw Tryd.underlying64 Tryd.underlying3 (CbZero _) b kk _ rfl (by with_reducible repeat (first | exact HM.out | refine CbAl ?_ _)) _ _ rfl (keyOf_string_mk Tryd.underlying9 HSZ.out) ?_; intro cm_ _ _; (try rw [HMET.out])) | ((with_reducible refine gate_builtin (b := .append) (xs := #[.tmp 35, .tmp 38]) rfl ?_); at_builtin; refine Kd.R_append Kd.string (w0 := w) w.heap.size rfl (.tmp 35) (.tmp 38) 24 9 (.string ⟨#[]⟩) 16 rfl Tryd.underlying24 info9 rfl (by decide) (by omega) u6 (CbRun (l0.take kk)).2 ((rd_T41 l0 x22).f1) [.string ((rd_T41 l0 x22).f1)] (fun k => k ≠ b) (fun _ => False) rfl (by first | (go_simp; done) | (go_simp; rfl)) ?aP (fun _ hk => hk.elim) ?aF ?aO ?aB ?aS ?aL ?_; (case aP => exact rfl); (case aB => exact HB.out); (case aF => exact (fun k_ hk_ e_ => by have := CbLt HM.out; omega)); (case aO => exact HO6.out); (case aS => exact (below_size HB.out)); (case aL => have := HAL.out; omega); intro v107 w12 ho hb hg hat; have n0_ := Aside0.mk (CbMove HM.out (hg.block b (CbLt HM.out) (fun e_ => HO6.out.1 b e_.symm rfl))); have n1_ := Aside0.mk (blk_grown BKP.out hg (Kd.R_ne HO6.out BKP.out (by decide))); have n2_ := Aside0.mk (blk_grown BK.out hg (Kd.R_ne HO6.out BK.out (by decide))); have n3_ := Aside0.mk (by obtain ⟨_, inner_, hown_, _⟩ := HO7.out; exact Kd.R_grown2 HO7.out rfl hg (fun k e he => by obtain ⟨cs_, h7_⟩ := own_typed hown_ k he.symm; exact Kd.R_ne HO6.out h7_ (by decide) e.symm)); clear HM BKP BK HO7 HO6 HB hcp hcz0 hcz1 hcz2 hcz3 hcz4 hcz5 hcz6 hcz7 hfz0 hfz1 hfz2 hfz3 hfz4 hfz5 hfz6 hfz7; have HM := n0_; have BKP := n1_; have BK := n2_; have HO7 := n3_; have HB := Aside0.mk hb; have HO6 := Aside0.mk ho; clear n0_ n1_ n2_ n3_ ho hb hg hat; have hcp : w12.cell? ⟨pb, 0, none⟩ = some (.map (some b)) := (blk_cell BKP.out 0).trans rfl; obtain ⟨hcz0, hcz1, hcz2, hcz3, hcz4, hcz5, hcz6, hcz7, hfz0, hfz1, hfz2, hfz3, hfz4, hfz5, hfz6, hfz7⟩ := Sq.c8 BK.out) | ((with_reducible refine gate_dst (N := 43) rfl ?_); at_lookup; refine wpList_lookup_own_int _ rfl _ _ 64 rfl 9 3 .i64 CbLaw Tryd.underlying64 Tryd.underlying3 (CbZero _) b kk _ rfl (by with_reducible repeat (first | exact HM.out | refine CbAl ?_ _)) _ _ rfl (keyOf_string_mk Tryd.underlying9 HSZ.out) ?_; intro cy hcy _) | (at_mapUpdate; refine wpList_mapUpdate_own _ rfl _ _ _ 64 rfl 9 3 CbLaw Tryd.underlying64 _ b kk _ rfl (by with_reducible repeat (first | exact HM.out | refine CbAl ?_ _)) (by have := HLEN.out; unfold maxLen; omega) _ _ _ rfl rfl (keyOf_string_mk Tryd.underlying9 HSZ.out) _ [] (plainElem_int Tryd.underlying3 (wrap64_wf _)) ?_; intro w11 hown1 hgrow1; skip) | go_in)
    go_roundg k1
    case measure => have := HK1.out; omega
    case rel => exact ⟨kk + 1, wrap64 (x22 + 1), rfl, ⟨by rw [HX.out]; have := HLEN.out; unfold wrap64; omega⟩, ⟨by have := HK1.out; omega, by have := HX.out; omega⟩, ⟨by rw [HST.out]; simp only [CbStep, HMET.out, Bool.false_eq_true, if_false]; exact Kd.R_grown HO6.out hgrow1 (fun k_ hk_ e_ => hk_ (Option.some.inj e_))⟩, ⟨by rw [HST.out]; simp only [CbStep]; rw [CbAt_of hcy]; exact hown1⟩, ⟨blk_grown BKP.out hgrow1 (fun e_ => HN.out (Option.some.inj e_).symm)⟩, ⟨Kd.R_grown HO7.out hgrow1 (fun k_ hk_ e_ => hk_ (Option.some.inj e_))⟩, ⟨HB.out.grown hgrow1 HB.out.size (fun j_ hj_ => by cases hj_; exact GB.out)⟩⟩
set_option maxHeartbeats 400000 in
set_option maxRecDepth 100000 in
theorem Fp.no (k : Nat) (A0 : Option Addr) (c0 : Nat) (l0 : List (S41)) (w : World) (hr0 : Kd.C k41 w A0 l0.length l0) (hc0 : l0.length ≤ c0) (h : Fw.f k l0 = some false) :
  Calls Tryd.prog 17 #[.slice A0 l0.length c0] w fun e w' => ∃ v0_ v1_ : Value, e = .returned (.tuple #[v0_, v1_, .bool false]) ∧ Kd.R Kd.string 9 w' w.heap.size (fun _ => True) v0_ [] ∧ Kd.R (Kd.int .i64) 3 w' w.heap.size (fun _ => True) v1_ [] ∧ Below w.heap.size w w' := by
 have hu41 := Tryd.underlying41
 have HR0 := Aside0.mk hr0
 have HC0 := Aside0.mk hc0
 clear hr0 hc0
 have HB := Aside0.mk (Below.refl w.heap.size w)
 have A2 := Aside0.mk h
 clear h
 go_enter Tryd.func17, Tryd.ntmps17
 go_wp2_with (first
   | ((with_reducible refine gate_callee (f := 31) rfl ?_); refine goesL_ (some 15) rfl rfl Tryd.func31 (by kernel_rfl) rfl #[.slice A0 l0.length c0] rfl (by (try simp only [List.map_toArray, List.map_cons, List.map_nil]); first | done | rfl | (simp only [List.length_drop, List.length_take]; rfl)) ?_; (with_reducible refine (Fw.calls k _ _ l0 false _ ?side1 ?side2 A2.out).mono ?_); (case side1 => repeat (first | exact HR0.out | (with_reducible refine Kd.C_alloc ?_ _) | (with_reducible refine Kd.C_drewN ?_ _) | (with_reducible refine Kd.C_drew ?_))); (case side2 => exact HC0.out); rintro e w4 ⟨rfl, hb⟩; refine ⟨_, rfl, ?_⟩; have n0_ := Aside0.mk (below_step (by exact eS HB.out) hb); clear HB; have HB := n0_; clear n0_; (try clear hb); (try clear hb2); (try clear hk); (try clear hi))
   | go_in)
 go_ret3
 exact ⟨_, _, rfl, ⟨fun k hk => trivial, OwnRow.none_ _ _ _ _ _⟩, ⟨fun k hk => trivial, OwnRow.none_ _ _ _ _ _⟩, HB.out⟩
def Fp.f (k : Nat) (l0 : List (S41)) : Option (List ByteArray × List Int × Bool) := (Fw.f k l0).bind fun t => (if t = true then (if CbOk l0 then some (CbSorted (CbRun l0).1 (CbRun l0).2, (CbSorted (CbRun l0).1 (CbRun l0).2).map (CbAt (CbRun l0).1), true) else none) else some ([], [], false))
theorem Fp.mono : ∀ a0 k, LeO (Fp.f k a0) (Fp.f (k + 1) a0) := by
  intro a0 k
  unfold Fp.f
  exact LeO.bind (Fw.mono _ _) (fun _ => LeO.refl _)
theorem Fp.calls (k : Nat) (A0 : Option Addr) (c0 : Nat) (l0 : List (S41)) (r1 : List ByteArray) (r2 : List Int) (r3 : Bool) (w : World) (hr0 : Kd.C k41 w A0 l0.length l0) (hc0 : l0.length ≤ c0) (h : Fp.f k l0 = some (r1, r2, r3)) :
  Calls Tryd.prog 17 #[.slice A0 l0.length c0] w fun e w' => ∃ v0_ v1_ : Value, e = .returned (.tuple #[v0_, v1_, .bool r3]) ∧ Kd.R Kd.string 9 w' w.heap.size (fun _ => True) v0_ r1 ∧ Kd.R (Kd.int .i64) 3 w' w.heap.size (fun _ => True) v1_ r2 ∧ Below w.heap.size w w' := by
  unfold Fp.f at h
  obtain ⟨t, ht, h⟩ := Option.bind_eq_some_iff.mp h
  cases t with
  | false =>
    rw [if_neg (by decide)] at h
    simp only [Option.some.injEq, Prod.mk.injEq] at h
    obtain ⟨rfl, rfl, rfl⟩ := h
    exact Fp.no k A0 c0 l0 w hr0 hc0 ht
  | true =>
    rw [if_pos rfl] at h
    by_cases hok : CbOk l0
    · rw [if_pos hok] at h
      simp only [Option.some.injEq, Prod.mk.injEq] at h
      obtain ⟨rfl, rfl, rfl⟩ := h
      exact Fp.part k A0 c0 l0 w hr0 hc0 ht hok
    · rw [if_neg hok] at h; cases h
end Cb

end Go.Proofs.YtahfahlbdgbfeaaDoor.X

namespace Go.Proofs.YtahfahlbdgbfeaaDoor.X
open Ho (bS eS RS Ak Cs Ct Cd)
open Go.RowKit Go.Proofs.YtahfahlbdgbfeaaDoorW.PrintWords Go.Proofs.YtahfahlbdgbfeaaDoorW.PrintLast Go.Proofs.YtahfahlbdgbfeaaDoorW.PrintMore
attribute [local go_sem] max2_int min2_int max_two min_two max_three min_three max_four min_four   -- for this text's walks alone
set_option linter.unusedVariables false
set_option linter.unusedSimpArgs false
attribute [local go_sem ↓] Ho.isSome_setCell_   -- a store leaves all places there
/-! ### Faf: function 60 -/
def Faf.f (a0_0 : Int) (a0_1 : ByteArray) (a0_2 : Int) (a0_3 : Int) (a0_4 : Int) (a0_5 : Int) (a0_6 : Int) (a0_7 : Int) (a1_0 : Int) (a1_1 : ByteArray) (a1_2 : Int) (a1_3 : Int) (a1_4 : Int) (a1_5 : Int) (a1_6 : Int) (a1_7 : Int) : Option (Bool) := if a0_0 = a1_0 then (if a0_1.toList = a1_1.toList then (if a0_2 = a1_2 then (if a0_3 = a1_3 then (if a0_4 = a1_4 then (if a0_5 = a1_5 then (if a0_6 = a1_6 then (if a0_7 = a1_7 then (some true) else (some false)) else (some false)) else (some false)) else (some false)) else (some false)) else (some false)) else (some false)) else (some false)
set_option maxHeartbeats 8000000 in
set_option maxRecDepth 100000 in
theorem Faf.calls (a0_0 : Int) (a0_1 : ByteArray) (a0_2 : Int) (a0_3 : Int) (a0_4 : Int) (a0_5 : Int) (a0_6 : Int) (a0_7 : Int) (a1_0 : Int) (a1_1 : ByteArray) (a1_2 : Int) (a1_3 : Int) (a1_4 : Int) (a1_5 : Int) (a1_6 : Int) (a1_7 : Int) (r : Bool) (w : World) (h : Faf.f a0_0 a0_1 a0_2 a0_3 a0_4 a0_5 a0_6 a0_7 a1_0 a1_1 a1_2 a1_3 a1_4 a1_5 a1_6 a1_7 = some r) :
  Calls Tryd.prog 60 #[.agg #[.int .i64 a0_0, .string a0_1, .int .i64 a0_2, .int .i64 a0_3, .int .i64 a0_4, .int .i64 a0_5, .int .i64 a0_6, .int .i64 a0_7], .agg #[.int .i64 a1_0, .string a1_1, .int .i64 a1_2, .int .i64 a1_3, .int .i64 a1_4, .int .i64 a1_5, .int .i64 a1_6, .int .i64 a1_7]] w fun e w' => e = .returned (.bool r) ∧ Below w.heap.size w w' := by
 have hu41 := Tryd.underlying41
 have HB := Ak (Below.refl w.heap.size w)
 have H : (if a0_0 = a1_0 then (if a0_1.toList = a1_1.toList then (if a0_2 = a1_2 then (if a0_3 = a1_3 then (if a0_4 = a1_4 then (if a0_5 = a1_5 then (if a0_6 = a1_6 then (if a0_7 = a1_7 then (some true) else (some false)) else (some false)) else (some false)) else (some false)) else (some false)) else (some false)) else (some false)) else (some false)) = some r := h
 clear h
 by_cases c3 : a0_0 = a1_0
 rw [if_pos c3] at H
 have c3b0 : (a0_0 == a1_0) = true := beq_iff_eq.mpr c3
 have c3b1 : (a0_0 != a1_0) = false := bne_eq_false_iff_eq.mpr c3
 clear c3
 by_cases c4 : a0_1.toList = a1_1.toList
 rw [if_pos c4] at H
 have c4b0 : (a0_1.toList == a1_1.toList) = true := beq_iff_eq.mpr c4
 have c4b1 : (a0_1.toList != a1_1.toList) = false := bne_eq_false_iff_eq.mpr c4
 clear c4
 by_cases c5 : a0_2 = a1_2
 rw [if_pos c5] at H
 have c5b0 : (a0_2 == a1_2) = true := beq_iff_eq.mpr c5
 have c5b1 : (a0_2 != a1_2) = false := bne_eq_false_iff_eq.mpr c5
 clear c5
 by_cases c6 : a0_3 = a1_3
 rw [if_pos c6] at H
 have c6b0 : (a0_3 == a1_3) = true := beq_iff_eq.mpr c6
 have c6b1 : (a0_3 != a1_3) = false := bne_eq_false_iff_eq.mpr c6
 clear c6
 by_cases c7 : a0_4 = a1_4
 rw [if_pos c7] at H
 have c7b0 : (a0_4 == a1_4) = true := beq_iff_eq.mpr c7
 have c7b1 : (a0_4 != a1_4) = false := bne_eq_false_iff_eq.mpr c7
 clear c7
 by_cases c8 : a0_5 = a1_5
 rw [if_pos c8] at H
 have c8b0 : (a0_5 == a1_5) = true := beq_iff_eq.mpr c8
 have c8b1 : (a0_5 != a1_5) = false := bne_eq_false_iff_eq.mpr c8
 clear c8
 by_cases c9 : a0_6 = a1_6
 rw [if_pos c9] at H
 have c9b0 : (a0_6 == a1_6) = true := beq_iff_eq.mpr c9
 have c9b1 : (a0_6 != a1_6) = false := bne_eq_false_iff_eq.mpr c9
 clear c9
 by_cases c10 : a0_7 = a1_7
 rw [if_pos c10] at H
 have c10b0 : (a0_7 == a1_7) = true := beq_iff_eq.mpr c10
 have c10b1 : (a0_7 != a1_7) = false := bne_eq_false_iff_eq.mpr c10
 clear c10
 obtain rfl := Option.some.inj H
 rotate_left
 rw [if_neg c10] at H
 have c10b0 : (a0_7 == a1_7) = false := beq_eq_false_iff_ne.mpr c10
 have c10b1 : (a0_7 != a1_7) = true := bne_iff_ne.mpr c10
 obtain rfl := Option.some.inj H
 rotate_left
 rw [if_neg c9] at H
 have c9b0 : (a0_6 == a1_6) = false := beq_eq_false_iff_ne.mpr c9
 have c9b1 : (a0_6 != a1_6) = true := bne_iff_ne.mpr c9
 obtain rfl := Option.some.inj H
 rotate_left
 rw [if_neg c8] at H
 have c8b0 : (a0_5 == a1_5) = false := beq_eq_false_iff_ne.mpr c8
 have c8b1 : (a0_5 != a1_5) = true := bne_iff_ne.mpr c8
 obtain rfl := Option.some.inj H
 rotate_left
 rw [if_neg c7] at H
 have c7b0 : (a0_4 == a1_4) = false := beq_eq_false_iff_ne.mpr c7
 have c7b1 : (a0_4 != a1_4) = true := bne_iff_ne.mpr c7
 obtain rfl := Option.some.inj H
 rotate_left
 rw [if_neg c6] at H
 have c6b0 : (a0_3 == a1_3) = false := beq_eq_false_iff_ne.mpr c6
 have c6b1 : (a0_3 != a1_3) = true := bne_iff_ne.mpr c6
 obtain rfl := Option.some.inj H
 rotate_left
 rw [if_neg c5] at H
 have c5b0 : (a0_2 == a1_2) = false := beq_eq_false_iff_ne.mpr c5
 have c5b1 : (a0_2 != a1_2) = true := bne_iff_ne.mpr c5
 obtain rfl := Option.some.inj H
 rotate_left
 rw [if_neg c4] at H
 have c4b0 : (a0_1.toList == a1_1.toList) = false := beq_eq_false_iff_ne.mpr c4
 have c4b1 : (a0_1.toList != a1_1.toList) = true := bne_iff_ne.mpr c4
 obtain rfl := Option.some.inj H
 rotate_left
 rw [if_neg c3] at H
 have c3b0 : (a0_0 == a1_0) = false := beq_eq_false_iff_ne.mpr c3
 have c3b1 : (a0_0 != a1_0) = true := bne_iff_ne.mpr c3
 obtain rfl := Option.some.inj H
 rotate_left
 all_goals
  go_enter Tryd.func60, Tryd.ntmps60
  go_wp2_with (first | ((with_reducible refine gate_dst (N := 2) rfl ?_); refine box_event ?hg (N := 2) ?hd (cs := #[.int .i64 a0_0, .string a0_1, .int .i64 a0_2, .int .i64 a0_3, .int .i64 a0_4, .int .i64 a0_5, .int .i64 a0_6, .int .i64 a0_7]) (t := 41) ?hr ?_; (case hd => rfl); (case hg => rfl); (case hr => first | (go_simp; done) | (go_simp; rfl)); intro gb101 hg w11 hbox hb; have n0_ := Ak (below_step (by exact eS HB.out) hb); have n1_ := Ak (hbox); have n2_ := Ak ((by rw [hg]; exact (below_size (by exact eS HB.out)) : w.heap.size ≤ gb101)); have n3_ := Ak ((by rw [hg]; exact (below_size (by exact eS HB.out)) : w.heap.size ≤ gb101)); clear HB; have HB := n0_; have BK101 := n1_; have GW101 := n2_; have GE101 := n3_; clear n0_ n1_ n2_ n3_; clear hb hbox hg) | ((with_reducible refine gate_dst (N := 3) rfl ?_); refine box_event ?hg (N := 3) ?hd (cs := #[.int .i64 a1_0, .string a1_1, .int .i64 a1_2, .int .i64 a1_3, .int .i64 a1_4, .int .i64 a1_5, .int .i64 a1_6, .int .i64 a1_7]) (t := 41) ?hr ?_; (case hd => rfl); (case hg => rfl); (case hr => first | (go_simp; done) | (go_simp; rfl)); intro gb102 hg w12 hbox hb; have n0_ := Ak (blk_below (bS BK101.out) hb); have n1_ := Ak (below_step (by exact eS HB.out) hb); have n2_ := Ak (hbox); have n3_ := Ak ((by rw [hg]; exact (below_size (by exact eS HB.out)) : w.heap.size ≤ gb102)); have n4_ := Ak ((by rw [hg]; exact (below_size (by exact eS HB.out)) : w.heap.size ≤ gb102)); have n5_ := Ak ((by rw [hg]; exact Nat.ne_of_lt (blk_lt (bS BK101.out)) : gb101 ≠ gb102)); have n6_ := Ak ((by rw [hg]; exact Nat.ne_of_gt (blk_lt (bS BK101.out)) : gb102 ≠ gb101)); clear BK101; clear HB; have BK101 := n0_; have HB := n1_; have BK102 := n2_; have GW102 := n3_; have GE102 := n4_; have NB101_102 := n5_; have NB102_101 := n6_; clear n0_ n1_ n2_ n3_ n4_ n5_ n6_; clear hb hbox hg; have hnb13 := NB101_102.out; have hnc13 := NB102_101.out; obtain ⟨hcz14_0, hcz14_1, hcz14_2, hcz14_3, hcz14_4, hcz14_5, hcz14_6, hcz14_7, hfz14_0, hfz14_1, hfz14_2, hfz14_3, hfz14_4, hfz14_5, hfz14_6, hfz14_7⟩ := Sq.c8 BK101.out; obtain ⟨hcz15_0, hcz15_1, hcz15_2, hcz15_3, hcz15_4, hcz15_5, hcz15_6, hcz15_7, hfz15_0, hfz15_1, hfz15_2, hfz15_3, hfz15_4, hfz15_5, hfz15_6, hfz15_7⟩ := Sq.c8 BK102.out))
  go_ret
  exact ⟨by first | rfl | (simp [errW_none, errW_some] <;> rfl) | (simp [*, errW_none, errW_some] <;> rfl), by exact eS HB.out⟩
open Sq (I O Z Dz)
/-! ### Fe: function 20 -/
def Fe.l0 : Nat → List (S41) → List (S41) → Int → Option (Bool)
  | 0, _, _, _ => none
  | k + 1, x0, x1, x5 => if x5 < (x0.length : Int) then (if 0 ≤ x5 then (if x5 < (x1.length : Int) then ((Faf.f ((rd_T41 x0 x5).f0) ((rd_T41 x0 x5).f1) ((rd_T41 x0 x5).f2) ((rd_T41 x0 x5).f3) ((rd_T41 x0 x5).f4) ((rd_T41 x0 x5).f5) ((rd_T41 x0 x5).f6) ((rd_T41 x0 x5).f7) ((rd_T41 x1 x5).f0) ((rd_T41 x1 x5).f1) ((rd_T41 x1 x5).f2) ((rd_T41 x1 x5).f3) ((rd_T41 x1 x5).f4) ((rd_T41 x1 x5).f5) ((rd_T41 x1 x5).f6) ((rd_T41 x1 x5).f7)).bind fun t103 => (if t103 = true then (Fe.l0 k x0 x1 (wrap64 (x5 + 1))) else (some false))) else (none)) else (none)) else (some true)
def Fe.f (k : Nat) (l0 : List (S41)) (l1 : List (S41)) : Option (Bool) := if (l0.length : Int) = (l1.length : Int) then (Fe.l0 k l0 l1 0) else (some false)
theorem Fe.mono_l : ∀ k, (∀ y0 y1 y2, LeO (Fe.l0 k y0 y1 y2) (Fe.l0 (k + 1) y0 y1 y2))
  | 0 => fun _ _ _ r h => by simp [Fe.l0] at h
  | k + 1 => by
    have ih0 := Fe.mono_l k
    · intro y0 y1 y2
      unfold Fe.l0
      repeat' first | (with_reducible first | exact ih0 _ _ _ | exact LeO.refl _ | exact LeO.none _ | refine LeO.ite ?_ ?_ | refine LeO.bind ?_ (fun _ => ?_)) | exact ih0 _ _ _ | exact LeO.none _ | refine LeO.ite ?_ ?_ | refine LeO.bind ?_ (fun _ => ?_)
theorem Fe.mono : ∀ a0 a1 k, LeO (Fe.f k a0 a1) (Fe.f (k + 1) a0 a1) := by
  intro a0 a1 k
  have ih0 := Fe.mono_l k
  unfold Fe.f
  repeat' first | (with_reducible first | exact ih0 _ _ _ | exact LeO.refl _ | exact LeO.none _ | refine LeO.ite ?_ ?_ | refine LeO.bind ?_ (fun _ => ?_)) | exact ih0 _ _ _ | exact LeO.none _ | refine LeO.ite ?_ ?_ | refine LeO.bind ?_ (fun _ => ?_)
def Fe.T6 : Bool × List (List Nat × List Nat) := (true, [([], []), ([], []), ([0, 1], [0, 1]), ([2], [2]), ([], []), ([], []), ([4, 5], [4, 5]), ([6], [6]), ([3, 7], [3, 7]), ([8], [8])])
def Fe.B6 : List Nat := [0, 0, 3, 7, 0, 0, 48, 112, 255, 511]
theorem Fe.tab6 : rtab .any (opsOf Tryd.f20 6) = Fe.T6 := by kernel_rfl
theorem Fe.bits6 : waitsOk Fe.T6.2 Fe.B6 = true := by kernel_rfl
set_option maxHeartbeats 8000000 in
set_option maxRecDepth 100000 in
theorem Fe.calls (k : Nat) (A0 : Option Addr) (c0 : Nat) (l0 : List (S41)) (A1 : Option Addr) (c1 : Nat) (l1 : List (S41)) (r : Bool) (w : World) (hr0 : Kd.C k41 w A0 l0.length l0) (hc0 : l0.length ≤ c0) (hr1 : Kd.C k41 w A1 l1.length l1) (hc1 : l1.length ≤ c1) (h : Fe.f k l0 l1 = some r) :
  Calls Tryd.prog 20 #[.slice A0 l0.length c0, .slice A1 l1.length c1] w fun e w' => e = .returned (.bool r) ∧ Below w.heap.size w w' := by
 have hu41 := Tryd.underlying41
 have HR0 := Ak hr0
 have HC0 := Ak hc0
 clear hr0 hc0
 have HR1 := Ak hr1
 have HC1 := Ak hc1
 clear hr1 hc1
 have HB := Ak (Below.refl w.heap.size w)
 have H : (if (l0.length : Int) = (l1.length : Int) then (Fe.l0 k l0 l1 0) else (some false)) = some r := h
 clear h
 by_cases c3 : (l0.length : Int) = (l1.length : Int)
 rotate_left
 ·rw [if_neg c3] at H
  have c3b0 : ((l0.length : Int) == (l1.length : Int)) = false := beq_eq_false_iff_ne.mpr c3
  have c3b1 : ((l0.length : Int) != (l1.length : Int)) = true := bne_iff_ne.mpr c3
  have c3b2 : (l0.length == l1.length) = false := by first | simpa using c3 | (simp at c3 ⊢; omega)
  obtain rfl := Option.some.inj H
  go_enter Tryd.func20, Tryd.ntmps20
  go_wp2
  go_ret
  exact ⟨by first | rfl | (simp [errW_none, errW_some] <;> rfl) | (simp [*, errW_none, errW_some] <;> rfl), by exact eS HB.out⟩
 rw [if_pos c3] at H
 have c3b0 : ((l0.length : Int) == (l1.length : Int)) = true := beq_iff_eq.mpr c3
 have c3b1 : ((l0.length : Int) != (l1.length : Int)) = false := bne_eq_false_iff_eq.mpr c3
 have c3b2 : (l0.length == l1.length) = true := by first | simpa using c3 | (simp at c3 ⊢; omega)
 clear c3
 have H' := Ak H
 clear H
 go_enter Tryd.func20, Tryd.ntmps20
 go_wp2
 go_loopg [5] k (fun kq v5 w' => ∃ (x5_1 : Int), v5 = .int .i64 x5_1 ∧ Aside0 (Fe.l0 kq l0 l1 x5_1 = some r) ∧ Aside0 (kq ≤ k) ∧ Aside0 (Below w.heap.size w w'))
 case atStart => exact ⟨(0), (by first | rfl | (simp; done) | (simp [*]; done)), H', ⟨Nat.le_refl _⟩, ⟨by exact eS HB.out⟩⟩
 case round =>
  clear H'
  try clear c1
  try clear c2
  try clear p2
  try clear c3
  try clear c3b0
  try clear c3b1
  try clear c3b2
  obtain ⟨x5_1, rfl, HA, HK1, HB⟩ := hrel
  cases gk with
  | zero => exact absurd HA.out (by simp [Fe.l0])
  | succ k1 =>
   have H := HA.out
   clear HA
   simp only [Fe.l0] at H
   by_cases c4 : x5_1 < (l0.length : Int)
   rotate_left
   ·rw [if_neg c4] at H
    have c4b0 : decide (x5_1 < (l0.length : Int)) = false := decide_eq_false c4
    clear c4
    obtain rfl := Option.some.inj H
    go_wp2
    go_ret
    exact ⟨by first | rfl | (simp [errW_none, errW_some] <;> rfl) | (simp [*, errW_none, errW_some] <;> rfl), by exact eS HB.out⟩
   rw [if_pos c4] at H
   have c4b0 : decide (x5_1 < (l0.length : Int)) = true := decide_eq_true c4
   clear c4
   by_cases c5 : 0 ≤ x5_1
   rotate_left
   ·rw [if_neg c5] at H
    exact absurd H (by simp)
   rw [if_pos c5] at H
   have c5b0 : decide (0 ≤ x5_1) = true := decide_eq_true c5
   clear c5
   by_cases c6 : x5_1 < (l1.length : Int)
   rotate_left
   ·rw [if_neg c6] at H
    exact absurd H (by simp)
   rw [if_pos c6] at H
   have c6b0 : decide (x5_1 < (l1.length : Int)) = true := decide_eq_true c6
   clear c6
   replace H := Option.bind_eq_some_iff.mp H
   obtain ⟨t103, A70, H⟩ := H
   (try dsimp only at H)
   have A7 := Ak A70
   clear A70
   by_cases c8 : t103 = true
   rotate_left
   ·replace c8 := Bool.eq_false_iff.mpr c8
    subst c8
    have H1 : (some false) = some r := by rw [if_neg (show ¬ (false = true) by decide)] at H; exact H
    clear H
    have H := H1
    clear H1
    obtain rfl := Option.some.inj H
    try go_wp2
    have n0_ := Ak (below_drew1 HB.out)
    clear HB; have HB := n0_; clear n0_
    have p101 : 0 ≤ (x5_1 : Int) := Dz
    have q101 : x5_1 < (l0.length : Int) := Dz
    obtain ⟨ad101, e101, hx101_0, hx101_1, hx101_2, hx101_3, hx101_4, hx101_5, hx101_6, hx101_7⟩ := at_T41 HR0.out x5_1 p101 q101
    have hw101_7 := hx101_7
    have hw101_6 := hx101_6
    have hw101_5 := hx101_5
    have hw101_4 := hx101_4
    have hw101_3 := hx101_3
    have hw101_2 := hx101_2
    have hw101_1 := hx101_1
    have hw101_0 := hx101_0
    cases e101
    replace hx101_0 := Sq.cB HB.out hx101_0
    replace hx101_1 := Sq.cB HB.out hx101_1
    replace hx101_2 := Sq.cB HB.out hx101_2
    replace hx101_3 := Sq.cB HB.out hx101_3
    replace hx101_4 := Sq.cB HB.out hx101_4
    replace hx101_5 := Sq.cB HB.out hx101_5
    replace hx101_6 := Sq.cB HB.out hx101_6
    replace hx101_7 := Sq.cB HB.out hx101_7
    replace p101 := eq_true p101; replace q101 := eq_true q101
    have p102 : 0 ≤ (x5_1 : Int) := Dz
    have q102 : x5_1 < (l1.length : Int) := Dz
    obtain ⟨ad102, e102, hx102_0, hx102_1, hx102_2, hx102_3, hx102_4, hx102_5, hx102_6, hx102_7⟩ := at_T41 HR1.out x5_1 p102 q102
    have hw102_7 := hx102_7
    have hw102_6 := hx102_6
    have hw102_5 := hx102_5
    have hw102_4 := hx102_4
    have hw102_3 := hx102_3
    have hw102_2 := hx102_2
    have hw102_1 := hx102_1
    have hw102_0 := hx102_0
    cases e102
    replace hx102_0 := Sq.cB HB.out hx102_0
    replace hx102_1 := Sq.cB HB.out hx102_1
    replace hx102_2 := Sq.cB HB.out hx102_2
    replace hx102_3 := Sq.cB HB.out hx102_3
    replace hx102_4 := Sq.cB HB.out hx102_4
    replace hx102_5 := Sq.cB HB.out hx102_5
    replace hx102_6 := Sq.cB HB.out hx102_6
    replace hx102_7 := Sq.cB HB.out hx102_7
    replace p102 := eq_true p102; replace q102 := eq_true q102
    refine start_ (n := 10) (S := fun w' => w'.cell? (ad101.add ((x5_1).toNat * 8)) = some (.int .i64 ((rd_T41 l0 x5_1).f0)) ∧ w'.cell? ⟨(ad101.add ((x5_1).toNat * 8)).block, (ad101.add ((x5_1).toNat * 8)).off + 1, none⟩ = some (.string ((rd_T41 l0 x5_1).f1)) ∧ w'.cell? ⟨(ad101.add ((x5_1).toNat * 8)).block, (ad101.add ((x5_1).toNat * 8)).off + 2, none⟩ = some (.int .i64 ((rd_T41 l0 x5_1).f2)) ∧ w'.cell? ⟨(ad101.add ((x5_1).toNat * 8)).block, (ad101.add ((x5_1).toNat * 8)).off + 3, none⟩ = some (.int .i64 ((rd_T41 l0 x5_1).f3)) ∧ w'.cell? ⟨(ad101.add ((x5_1).toNat * 8)).block, (ad101.add ((x5_1).toNat * 8)).off + 4, none⟩ = some (.int .i64 ((rd_T41 l0 x5_1).f4)) ∧ w'.cell? ⟨(ad101.add ((x5_1).toNat * 8)).block, (ad101.add ((x5_1).toNat * 8)).off + 5, none⟩ = some (.int .i64 ((rd_T41 l0 x5_1).f5)) ∧ w'.cell? ⟨(ad101.add ((x5_1).toNat * 8)).block, (ad101.add ((x5_1).toNat * 8)).off + 6, none⟩ = some (.int .i64 ((rd_T41 l0 x5_1).f6)) ∧ w'.cell? ⟨(ad101.add ((x5_1).toNat * 8)).block, (ad101.add ((x5_1).toNat * 8)).off + 7, none⟩ = some (.int .i64 ((rd_T41 l0 x5_1).f7)) ∧ w'.cell? (ad102.add ((x5_1).toNat * 8)) = some (.int .i64 ((rd_T41 l1 x5_1).f0)) ∧ w'.cell? ⟨(ad102.add ((x5_1).toNat * 8)).block, (ad102.add ((x5_1).toNat * 8)).off + 1, none⟩ = some (.string ((rd_T41 l1 x5_1).f1)) ∧ w'.cell? ⟨(ad102.add ((x5_1).toNat * 8)).block, (ad102.add ((x5_1).toNat * 8)).off + 2, none⟩ = some (.int .i64 ((rd_T41 l1 x5_1).f2)) ∧ w'.cell? ⟨(ad102.add ((x5_1).toNat * 8)).block, (ad102.add ((x5_1).toNat * 8)).off + 3, none⟩ = some (.int .i64 ((rd_T41 l1 x5_1).f3)) ∧ w'.cell? ⟨(ad102.add ((x5_1).toNat * 8)).block, (ad102.add ((x5_1).toNat * 8)).off + 4, none⟩ = some (.int .i64 ((rd_T41 l1 x5_1).f4)) ∧ w'.cell? ⟨(ad102.add ((x5_1).toNat * 8)).block, (ad102.add ((x5_1).toNat * 8)).off + 5, none⟩ = some (.int .i64 ((rd_T41 l1 x5_1).f5)) ∧ w'.cell? ⟨(ad102.add ((x5_1).toNat * 8)).block, (ad102.add ((x5_1).toNat * 8)).off + 6, none⟩ = some (.int .i64 ((rd_T41 l1 x5_1).f6)) ∧ w'.cell? ⟨(ad102.add ((x5_1).toNat * 8)).block, (ad102.add ((x5_1).toNat * 8)).off + 7, none⟩ = some (.int .i64 ((rd_T41 l1 x5_1).f7))) (ds := []) #[O,O,O,O,O,O,O,O,O,O] (by kernel_rfl) rfl rfl ⟨(Sq.cB HB.out hw101_0), (Sq.cB HB.out hw101_1), (Sq.cB HB.out hw101_2), (Sq.cB HB.out hw101_3), (Sq.cB HB.out hw101_4), (Sq.cB HB.out hw101_5), (Sq.cB HB.out hw101_6), (Sq.cB HB.out hw101_7), (Sq.cB HB.out hw102_0), (Sq.cB HB.out hw102_1), (Sq.cB HB.out hw102_2), (Sq.cB HB.out hw102_3), (Sq.cB HB.out hw102_4), (Sq.cB HB.out hw102_5), (Sq.cB HB.out hw102_6), (Sq.cB HB.out hw102_7)⟩ (fun hHeld => ?_); refine with_tabW Fe.tab6 Fe.bits6 (fun HT_ HW_ => ?_)
    generalize wr.drew = w11 at HB hx101_0 hx101_1 hx101_2 hx101_3 hx101_4 hx101_5 hx101_6 hx101_7 hx102_0 hx102_1 hx102_2 hx102_3 hx102_4 hx102_5 hx102_6 hx102_7 hHeld ⊢
    refine pure_ (i := 0) (N := some 17) (v := ?_) (a' := ?_) #[I,O,O,O,O,O,O,O,O,O] rfl rfl (any_of HT_.out (by kernel_rfl)) (fun _ _ _ h => h) (Or.inl ⟨by rfl, ?_⟩) ?_ ?_
    rotate_left; (intro w'; go_simp; with_reducible rfl); rotate_left; (simp only [Z]; rfl)
    refine pure_ (i := 1) (N := some 18) (v := ?_) (a' := ?_) #[I,I,O,O,O,O,O,O,O,O] rfl rfl (any_of HT_.out (by kernel_rfl)) (fun _ _ _ h => h) (Or.inl ⟨by rfl, ?_⟩) ?_ ?_
    rotate_left; (intro w'; go_simp; with_reducible rfl); rotate_left; (simp only [Z]; rfl)
    refine pure_ (i := 2) (N := some 19) (v := ?_) (a' := ?_) #[I,I,I,O,O,O,O,O,O,O] rfl rfl (any_of HT_.out (by kernel_rfl)) (fun _ _ _ h => h) (Or.inl ⟨by rfl, ?_⟩) ?_ ?_
    rotate_left; (intro w'; go_simp; with_reducible rfl); rotate_left; (simp only [Z]; rfl)
    refine pure_ (i := 4) (N := some 21) (v := ?_) (a' := ?_) #[I,I,I,O,I,O,O,O,O,O] rfl rfl (any_of HT_.out (by kernel_rfl)) (fun _ _ _ h => h) (Or.inl ⟨by rfl, ?_⟩) ?_ ?_
    rotate_left; (intro w'; go_simp; with_reducible rfl); rotate_left; (simp only [Z]; rfl)
    refine pure_ (i := 5) (N := some 22) (v := ?_) (a' := ?_) #[I,I,I,O,I,I,O,O,O,O] rfl rfl (any_of HT_.out (by kernel_rfl)) (fun _ _ _ h => h) (Or.inl ⟨by rfl, ?_⟩) ?_ ?_
    rotate_left; (intro w'; go_simp; with_reducible rfl); rotate_left; (simp only [Z]; rfl)
    refine pure_ (i := 6) (N := some 23) (v := ?_) (a' := ?_) #[I,I,I,O,I,I,I,O,O,O] rfl rfl (any_of HT_.out (by kernel_rfl)) (fun _ _ _ h => h) (Or.inl ⟨by rfl, ?_⟩) ?_ ?_
    rotate_left; (intro w'; go_simp; with_reducible rfl); rotate_left; (simp only [Z]; rfl)
    refine take_ (i := 3) (N := some 20) (v := ?_) (a' := ?_) #[I,I,I,I,I,I,I,O,O,O] rfl rfl (take_ofW HT_.out HW_.out (by kernel_rfl)) (fun _ _ _ h => h) (Or.inl ⟨by rfl, ?_⟩) hHeld ?_ ?_
    rotate_left; (rintro w' ⟨s0, s1, s2, s3, s4, s5, s6, s7, s8, s9, s10, s11, s12, s13, s14, s15⟩; go_simp; with_reducible rfl); rotate_left; (simp only [Z]; rfl)
    refine take_ (i := 7) (N := some 24) (v := ?_) (a' := ?_) #[I,I,I,I,I,I,I,I,O,O] rfl rfl (take_ofW HT_.out HW_.out (by kernel_rfl)) (fun _ _ _ h => h) (Or.inl ⟨by rfl, ?_⟩) hHeld ?_ ?_
    rotate_left; (rintro w' ⟨s0, s1, s2, s3, s4, s5, s6, s7, s8, s9, s10, s11, s12, s13, s14, s15⟩; go_simp; with_reducible rfl); rotate_left; (simp only [Z]; rfl)
    refine one_ (i := 8) (N := some 25) #[I,I,I,I,I,I,I,I,I,O] rfl rfl (one_of HT_.out (by kernel_rfl)) (by decide) (fun K hK => ?_)
    refine goes_ Tryd.func60 (by kernel_rfl) rfl #[.agg #[.int .i64 ((rd_T41 l0 x5_1).f0), .string ((rd_T41 l0 x5_1).f1), .int .i64 ((rd_T41 l0 x5_1).f2), .int .i64 ((rd_T41 l0 x5_1).f3), .int .i64 ((rd_T41 l0 x5_1).f4), .int .i64 ((rd_T41 l0 x5_1).f5), .int .i64 ((rd_T41 l0 x5_1).f6), .int .i64 ((rd_T41 l0 x5_1).f7)], .agg #[.int .i64 ((rd_T41 l1 x5_1).f0), .string ((rd_T41 l1 x5_1).f1), .int .i64 ((rd_T41 l1 x5_1).f2), .int .i64 ((rd_T41 l1 x5_1).f3), .int .i64 ((rd_T41 l1 x5_1).f4), .int .i64 ((rd_T41 l1 x5_1).f5), .int .i64 ((rd_T41 l1 x5_1).f6), .int .i64 ((rd_T41 l1 x5_1).f7)]] (by rfl) rfl rfl (by (try simp only [List.map_toArray, List.map_cons, List.map_nil]); first | done | rfl | (simp only [List.length_drop, List.length_take]; rfl)) ?_
    with_reducible refine (Faf.calls ((rd_T41 l0 x5_1).f0) ((rd_T41 l0 x5_1).f1) ((rd_T41 l0 x5_1).f2) ((rd_T41 l0 x5_1).f3) ((rd_T41 l0 x5_1).f4) ((rd_T41 l0 x5_1).f5) ((rd_T41 l0 x5_1).f6) ((rd_T41 l0 x5_1).f7) ((rd_T41 l1 x5_1).f0) ((rd_T41 l1 x5_1).f1) ((rd_T41 l1 x5_1).f2) ((rd_T41 l1 x5_1).f3) ((rd_T41 l1 x5_1).f4) ((rd_T41 l1 x5_1).f5) ((rd_T41 l1 x5_1).f6) ((rd_T41 l1 x5_1).f7) false _ A7.out).mono ?_
    rintro e w12 ⟨rfl, hb⟩
    refine ⟨_, rfl, ?_⟩
    have n0_ := Ak (below_step (by exact eS HB.out) hb)
    clear HB; have HB := n0_; clear n0_
    (try clear hb)
    (try clear hb2)
    (try clear hk)
    (try clear hi)
    refine hK.out _ _ ⟨(Sq.cB HB.out hw101_0), (Sq.cB HB.out hw101_1), (Sq.cB HB.out hw101_2), (Sq.cB HB.out hw101_3), (Sq.cB HB.out hw101_4), (Sq.cB HB.out hw101_5), (Sq.cB HB.out hw101_6), (Sq.cB HB.out hw101_7), (Sq.cB HB.out hw102_0), (Sq.cB HB.out hw102_1), (Sq.cB HB.out hw102_2), (Sq.cB HB.out hw102_3), (Sq.cB HB.out hw102_4), (Sq.cB HB.out hw102_5), (Sq.cB HB.out hw102_6), (Sq.cB HB.out hw102_7)⟩ (fun hHeld => ?_)
    clear hK K
    refine norm_ (a' := ?_) ?_ ?_; rotate_left; (show Act.put _ (some 25) _ = _; simp only [Z]; rfl)
    refine pure_ (i := 9) (N := some 26) (v := ?_) (a' := ?_) #[I,I,I,I,I,I,I,I,I,I] rfl rfl (any_of HT_.out (by kernel_rfl)) (fun _ _ _ h => h) (Or.inl ⟨by rfl, ?_⟩) ?_ ?_
    rotate_left; (intro w'; go_simp; with_reducible rfl); rotate_left; (simp only [Z]; rfl)
    refine done_ (done_of HT_.out (by kernel_rfl)) ?_
    try go_wp2
    go_ret
    exact ⟨by first | rfl | (simp [errW_none, errW_some] <;> rfl) | (simp [*, errW_none, errW_some] <;> rfl), by exact eS HB.out⟩
   subst c8
   have H1 : (Fe.l0 k1 l0 l1 (wrap64 (x5_1 + 1))) = some r := by rw [if_pos rfl] at H; exact H
   clear H
   have H := H1
   clear H1
   have H' := Ak H
   clear H
   try go_wp2
   have n0_ := Ak (below_drew1 HB.out)
   clear HB; have HB := n0_; clear n0_
   have p101 : 0 ≤ (x5_1 : Int) := Dz
   have q101 : x5_1 < (l0.length : Int) := Dz
   obtain ⟨ad101, e101, hx101_0, hx101_1, hx101_2, hx101_3, hx101_4, hx101_5, hx101_6, hx101_7⟩ := at_T41 HR0.out x5_1 p101 q101
   have hw101_7 := hx101_7
   have hw101_6 := hx101_6
   have hw101_5 := hx101_5
   have hw101_4 := hx101_4
   have hw101_3 := hx101_3
   have hw101_2 := hx101_2
   have hw101_1 := hx101_1
   have hw101_0 := hx101_0
   cases e101
   replace hx101_0 := Sq.cB HB.out hx101_0
   replace hx101_1 := Sq.cB HB.out hx101_1
   replace hx101_2 := Sq.cB HB.out hx101_2
   replace hx101_3 := Sq.cB HB.out hx101_3
   replace hx101_4 := Sq.cB HB.out hx101_4
   replace hx101_5 := Sq.cB HB.out hx101_5
   replace hx101_6 := Sq.cB HB.out hx101_6
   replace hx101_7 := Sq.cB HB.out hx101_7
   replace p101 := eq_true p101; replace q101 := eq_true q101
   have p102 : 0 ≤ (x5_1 : Int) := Dz
   have q102 : x5_1 < (l1.length : Int) := Dz
   obtain ⟨ad102, e102, hx102_0, hx102_1, hx102_2, hx102_3, hx102_4, hx102_5, hx102_6, hx102_7⟩ := at_T41 HR1.out x5_1 p102 q102
   have hw102_7 := hx102_7
   have hw102_6 := hx102_6
   have hw102_5 := hx102_5
   have hw102_4 := hx102_4
   have hw102_3 := hx102_3
   have hw102_2 := hx102_2
   have hw102_1 := hx102_1
   have hw102_0 := hx102_0
   cases e102
   replace hx102_0 := Sq.cB HB.out hx102_0
   replace hx102_1 := Sq.cB HB.out hx102_1
   replace hx102_2 := Sq.cB HB.out hx102_2
   replace hx102_3 := Sq.cB HB.out hx102_3
   replace hx102_4 := Sq.cB HB.out hx102_4
   replace hx102_5 := Sq.cB HB.out hx102_5
   replace hx102_6 := Sq.cB HB.out hx102_6
   replace hx102_7 := Sq.cB HB.out hx102_7
   replace p102 := eq_true p102; replace q102 := eq_true q102
   refine start_ (n := 10) (S := fun w' => w'.cell? (ad101.add ((x5_1).toNat * 8)) = some (.int .i64 ((rd_T41 l0 x5_1).f0)) ∧ w'.cell? ⟨(ad101.add ((x5_1).toNat * 8)).block, (ad101.add ((x5_1).toNat * 8)).off + 1, none⟩ = some (.string ((rd_T41 l0 x5_1).f1)) ∧ w'.cell? ⟨(ad101.add ((x5_1).toNat * 8)).block, (ad101.add ((x5_1).toNat * 8)).off + 2, none⟩ = some (.int .i64 ((rd_T41 l0 x5_1).f2)) ∧ w'.cell? ⟨(ad101.add ((x5_1).toNat * 8)).block, (ad101.add ((x5_1).toNat * 8)).off + 3, none⟩ = some (.int .i64 ((rd_T41 l0 x5_1).f3)) ∧ w'.cell? ⟨(ad101.add ((x5_1).toNat * 8)).block, (ad101.add ((x5_1).toNat * 8)).off + 4, none⟩ = some (.int .i64 ((rd_T41 l0 x5_1).f4)) ∧ w'.cell? ⟨(ad101.add ((x5_1).toNat * 8)).block, (ad101.add ((x5_1).toNat * 8)).off + 5, none⟩ = some (.int .i64 ((rd_T41 l0 x5_1).f5)) ∧ w'.cell? ⟨(ad101.add ((x5_1).toNat * 8)).block, (ad101.add ((x5_1).toNat * 8)).off + 6, none⟩ = some (.int .i64 ((rd_T41 l0 x5_1).f6)) ∧ w'.cell? ⟨(ad101.add ((x5_1).toNat * 8)).block, (ad101.add ((x5_1).toNat * 8)).off + 7, none⟩ = some (.int .i64 ((rd_T41 l0 x5_1).f7)) ∧ w'.cell? (ad102.add ((x5_1).toNat * 8)) = some (.int .i64 ((rd_T41 l1 x5_1).f0)) ∧ w'.cell? ⟨(ad102.add ((x5_1).toNat * 8)).block, (ad102.add ((x5_1).toNat * 8)).off + 1, none⟩ = some (.string ((rd_T41 l1 x5_1).f1)) ∧ w'.cell? ⟨(ad102.add ((x5_1).toNat * 8)).block, (ad102.add ((x5_1).toNat * 8)).off + 2, none⟩ = some (.int .i64 ((rd_T41 l1 x5_1).f2)) ∧ w'.cell? ⟨(ad102.add ((x5_1).toNat * 8)).block, (ad102.add ((x5_1).toNat * 8)).off + 3, none⟩ = some (.int .i64 ((rd_T41 l1 x5_1).f3)) ∧ w'.cell? ⟨(ad102.add ((x5_1).toNat * 8)).block, (ad102.add ((x5_1).toNat * 8)).off + 4, none⟩ = some (.int .i64 ((rd_T41 l1 x5_1).f4)) ∧ w'.cell? ⟨(ad102.add ((x5_1).toNat * 8)).block, (ad102.add ((x5_1).toNat * 8)).off + 5, none⟩ = some (.int .i64 ((rd_T41 l1 x5_1).f5)) ∧ w'.cell? ⟨(ad102.add ((x5_1).toNat * 8)).block, (ad102.add ((x5_1).toNat * 8)).off + 6, none⟩ = some (.int .i64 ((rd_T41 l1 x5_1).f6)) ∧ w'.cell? ⟨(ad102.add ((x5_1).toNat * 8)).block, (ad102.add ((x5_1).toNat * 8)).off + 7, none⟩ = some (.int .i64 ((rd_T41 l1 x5_1).f7))) (ds := []) #[O,O,O,O,O,O,O,O,O,O] (by kernel_rfl) rfl rfl ⟨(Sq.cB HB.out hw101_0), (Sq.cB HB.out hw101_1), (Sq.cB HB.out hw101_2), (Sq.cB HB.out hw101_3), (Sq.cB HB.out hw101_4), (Sq.cB HB.out hw101_5), (Sq.cB HB.out hw101_6), (Sq.cB HB.out hw101_7), (Sq.cB HB.out hw102_0), (Sq.cB HB.out hw102_1), (Sq.cB HB.out hw102_2), (Sq.cB HB.out hw102_3), (Sq.cB HB.out hw102_4), (Sq.cB HB.out hw102_5), (Sq.cB HB.out hw102_6), (Sq.cB HB.out hw102_7)⟩ (fun hHeld => ?_); refine with_tabW Fe.tab6 Fe.bits6 (fun HT_ HW_ => ?_)
   generalize wr.drew = w9 at HB hx101_0 hx101_1 hx101_2 hx101_3 hx101_4 hx101_5 hx101_6 hx101_7 hx102_0 hx102_1 hx102_2 hx102_3 hx102_4 hx102_5 hx102_6 hx102_7 hHeld ⊢
   refine pure_ (i := 0) (N := some 17) (v := ?_) (a' := ?_) #[I,O,O,O,O,O,O,O,O,O] rfl rfl (any_of HT_.out (by kernel_rfl)) (fun _ _ _ h => h) (Or.inl ⟨by rfl, ?_⟩) ?_ ?_
   rotate_left; (intro w'; go_simp; with_reducible rfl); rotate_left; (simp only [Z]; rfl)
   refine pure_ (i := 1) (N := some 18) (v := ?_) (a' := ?_) #[I,I,O,O,O,O,O,O,O,O] rfl rfl (any_of HT_.out (by kernel_rfl)) (fun _ _ _ h => h) (Or.inl ⟨by rfl, ?_⟩) ?_ ?_
   rotate_left; (intro w'; go_simp; with_reducible rfl); rotate_left; (simp only [Z]; rfl)
   refine pure_ (i := 2) (N := some 19) (v := ?_) (a' := ?_) #[I,I,I,O,O,O,O,O,O,O] rfl rfl (any_of HT_.out (by kernel_rfl)) (fun _ _ _ h => h) (Or.inl ⟨by rfl, ?_⟩) ?_ ?_
   rotate_left; (intro w'; go_simp; with_reducible rfl); rotate_left; (simp only [Z]; rfl)
   refine pure_ (i := 4) (N := some 21) (v := ?_) (a' := ?_) #[I,I,I,O,I,O,O,O,O,O] rfl rfl (any_of HT_.out (by kernel_rfl)) (fun _ _ _ h => h) (Or.inl ⟨by rfl, ?_⟩) ?_ ?_
   rotate_left; (intro w'; go_simp; with_reducible rfl); rotate_left; (simp only [Z]; rfl)
   refine pure_ (i := 5) (N := some 22) (v := ?_) (a' := ?_) #[I,I,I,O,I,I,O,O,O,O] rfl rfl (any_of HT_.out (by kernel_rfl)) (fun _ _ _ h => h) (Or.inl ⟨by rfl, ?_⟩) ?_ ?_
   rotate_left; (intro w'; go_simp; with_reducible rfl); rotate_left; (simp only [Z]; rfl)
   refine pure_ (i := 6) (N := some 23) (v := ?_) (a' := ?_) #[I,I,I,O,I,I,I,O,O,O] rfl rfl (any_of HT_.out (by kernel_rfl)) (fun _ _ _ h => h) (Or.inl ⟨by rfl, ?_⟩) ?_ ?_
   rotate_left; (intro w'; go_simp; with_reducible rfl); rotate_left; (simp only [Z]; rfl)
   refine take_ (i := 3) (N := some 20) (v := ?_) (a' := ?_) #[I,I,I,I,I,I,I,O,O,O] rfl rfl (take_ofW HT_.out HW_.out (by kernel_rfl)) (fun _ _ _ h => h) (Or.inl ⟨by rfl, ?_⟩) hHeld ?_ ?_
   rotate_left; (rintro w' ⟨s0, s1, s2, s3, s4, s5, s6, s7, s8, s9, s10, s11, s12, s13, s14, s15⟩; go_simp; with_reducible rfl); rotate_left; (simp only [Z]; rfl)
   refine take_ (i := 7) (N := some 24) (v := ?_) (a' := ?_) #[I,I,I,I,I,I,I,I,O,O] rfl rfl (take_ofW HT_.out HW_.out (by kernel_rfl)) (fun _ _ _ h => h) (Or.inl ⟨by rfl, ?_⟩) hHeld ?_ ?_
   rotate_left; (rintro w' ⟨s0, s1, s2, s3, s4, s5, s6, s7, s8, s9, s10, s11, s12, s13, s14, s15⟩; go_simp; with_reducible rfl); rotate_left; (simp only [Z]; rfl)
   refine one_ (i := 8) (N := some 25) #[I,I,I,I,I,I,I,I,I,O] rfl rfl (one_of HT_.out (by kernel_rfl)) (by decide) (fun K hK => ?_)
   refine goes_ Tryd.func60 (by kernel_rfl) rfl #[.agg #[.int .i64 ((rd_T41 l0 x5_1).f0), .string ((rd_T41 l0 x5_1).f1), .int .i64 ((rd_T41 l0 x5_1).f2), .int .i64 ((rd_T41 l0 x5_1).f3), .int .i64 ((rd_T41 l0 x5_1).f4), .int .i64 ((rd_T41 l0 x5_1).f5), .int .i64 ((rd_T41 l0 x5_1).f6), .int .i64 ((rd_T41 l0 x5_1).f7)], .agg #[.int .i64 ((rd_T41 l1 x5_1).f0), .string ((rd_T41 l1 x5_1).f1), .int .i64 ((rd_T41 l1 x5_1).f2), .int .i64 ((rd_T41 l1 x5_1).f3), .int .i64 ((rd_T41 l1 x5_1).f4), .int .i64 ((rd_T41 l1 x5_1).f5), .int .i64 ((rd_T41 l1 x5_1).f6), .int .i64 ((rd_T41 l1 x5_1).f7)]] (by rfl) rfl rfl (by (try simp only [List.map_toArray, List.map_cons, List.map_nil]); first | done | rfl | (simp only [List.length_drop, List.length_take]; rfl)) ?_
   with_reducible refine (Faf.calls ((rd_T41 l0 x5_1).f0) ((rd_T41 l0 x5_1).f1) ((rd_T41 l0 x5_1).f2) ((rd_T41 l0 x5_1).f3) ((rd_T41 l0 x5_1).f4) ((rd_T41 l0 x5_1).f5) ((rd_T41 l0 x5_1).f6) ((rd_T41 l0 x5_1).f7) ((rd_T41 l1 x5_1).f0) ((rd_T41 l1 x5_1).f1) ((rd_T41 l1 x5_1).f2) ((rd_T41 l1 x5_1).f3) ((rd_T41 l1 x5_1).f4) ((rd_T41 l1 x5_1).f5) ((rd_T41 l1 x5_1).f6) ((rd_T41 l1 x5_1).f7) true _ A7.out).mono ?_
   rintro e w10 ⟨rfl, hb⟩
   refine ⟨_, rfl, ?_⟩
   have n0_ := Ak (below_step (by exact eS HB.out) hb)
   clear HB; have HB := n0_; clear n0_
   (try clear hb)
   (try clear hb2)
   (try clear hk)
   (try clear hi)
   refine hK.out _ _ ⟨(Sq.cB HB.out hw101_0), (Sq.cB HB.out hw101_1), (Sq.cB HB.out hw101_2), (Sq.cB HB.out hw101_3), (Sq.cB HB.out hw101_4), (Sq.cB HB.out hw101_5), (Sq.cB HB.out hw101_6), (Sq.cB HB.out hw101_7), (Sq.cB HB.out hw102_0), (Sq.cB HB.out hw102_1), (Sq.cB HB.out hw102_2), (Sq.cB HB.out hw102_3), (Sq.cB HB.out hw102_4), (Sq.cB HB.out hw102_5), (Sq.cB HB.out hw102_6), (Sq.cB HB.out hw102_7)⟩ (fun hHeld => ?_)
   clear hK K
   refine norm_ (a' := ?_) ?_ ?_; rotate_left; (show Act.put _ (some 25) _ = _; simp only [Z]; rfl)
   refine pure_ (i := 9) (N := some 26) (v := ?_) (a' := ?_) #[I,I,I,I,I,I,I,I,I,I] rfl rfl (any_of HT_.out (by kernel_rfl)) (fun _ _ _ h => h) (Or.inl ⟨by rfl, ?_⟩) ?_ ?_
   rotate_left; (intro w'; go_simp; with_reducible rfl); rotate_left; (simp only [Z]; rfl)
   refine done_ (done_of HT_.out (by kernel_rfl)) ?_
   try go_wp2
   go_roundg k1
   case measure => have := HK1.out; omega
   case rel => exact ⟨(wrap64 (x5_1 + 1)), (by first | rfl | (simp; done) | (simp [*]; done)), H', ⟨by have := HK1.out; omega⟩, ⟨by exact eS HB.out⟩⟩
end Go.Proofs.YtahfahlbdgbfeaaDoor.X

namespace Go.Proofs.YtahfahlbdgbfeaaDoor.X
open Ho (bS eS RS Ak Cs Ct Cd)
open Go.RowKit Go.Proofs.YtahfahlbdgbfeaaDoorW.PrintWords Go.Proofs.YtahfahlbdgbfeaaDoorW.PrintLast Go.Proofs.YtahfahlbdgbfeaaDoorW.PrintMore
attribute [local go_sem] max2_int min2_int max_two min_two max_three min_three max_four min_four   -- for this text's walks alone
set_option linter.unusedVariables false
set_option linter.unusedSimpArgs false
open Sq (I O Z Dz)
/-! ### Fn: function 19 -/
def Fn.l0 : Nat → List Int → List Int → Int → Option (Bool)
  | 0, _, _, _ => none
  | k + 1, x0, x1, x5 => if x5 < (x0.length : Int) then (if 0 ≤ x5 then (if x5 < (x1.length : Int) then (if (rd x0 x5) = (rd x1 x5) then (Fn.l0 k x0 x1 (wrap64 (x5 + 1))) else (some false)) else (none)) else (none)) else (some true)
def Fn.f (k : Nat) (l0 : List Int) (l1 : List Int) : Option (Bool) := if (l0.length : Int) = (l1.length : Int) then (Fn.l0 k l0 l1 0) else (some false)
theorem Fn.mono_l : ∀ k, (∀ y0 y1 y2, LeO (Fn.l0 k y0 y1 y2) (Fn.l0 (k + 1) y0 y1 y2))
  | 0 => fun _ _ _ r h => by simp [Fn.l0] at h
  | k + 1 => by
    have ih0 := Fn.mono_l k
    · intro y0 y1 y2
      unfold Fn.l0
      repeat' first | (with_reducible first | exact ih0 _ _ _ | exact LeO.refl _ | exact LeO.none _ | refine LeO.ite ?_ ?_ | refine LeO.bind ?_ (fun _ => ?_)) | exact ih0 _ _ _ | exact LeO.none _ | refine LeO.ite ?_ ?_ | refine LeO.bind ?_ (fun _ => ?_)
theorem Fn.mono : ∀ a0 a1 k, LeO (Fn.f k a0 a1) (Fn.f (k + 1) a0 a1) := by
  intro a0 a1 k
  have ih0 := Fn.mono_l k
  unfold Fn.f
  repeat' first | (with_reducible first | exact ih0 _ _ _ | exact LeO.refl _ | exact LeO.none _ | refine LeO.ite ?_ ?_ | refine LeO.bind ?_ (fun _ => ?_)) | exact ih0 _ _ _ | exact LeO.none _ | refine LeO.ite ?_ ?_ | refine LeO.bind ?_ (fun _ => ?_)
set_option maxHeartbeats 8000000 in
set_option maxRecDepth 100000 in
theorem Fn.calls (k : Nat) (A0 : Option Addr) (c0 : Nat) (l0 : List Int) (A1 : Option Addr) (c1 : Nat) (l1 : List Int) (r : Bool) (w : World) (hr0 : Kd.C (Kd.int .i64) w A0 l0.length l0) (hc0 : l0.length ≤ c0) (hr1 : Kd.C (Kd.int .i64) w A1 l1.length l1) (hc1 : l1.length ≤ c1) (h : Fn.f k l0 l1 = some r) :
  Calls Tryd.prog 19 #[.slice A0 l0.length c0, .slice A1 l1.length c1] w fun e w' => e = .returned (.bool r) ∧ Drawn0 w w' := by
 have HR0 := Ak hr0
 have HC0 := Ak hc0
 clear hr0 hc0
 have HR1 := Ak hr1
 have HC1 := Ak hc1
 clear hr1 hc1
 have H : (if (l0.length : Int) = (l1.length : Int) then (Fn.l0 k l0 l1 0) else (some false)) = some r := h
 clear h
 by_cases c3 : (l0.length : Int) = (l1.length : Int)
 ·rw [if_pos c3] at H
  have c3b0 : ((l0.length : Int) == (l1.length : Int)) = true := beq_iff_eq.mpr c3
  have c3b1 : ((l0.length : Int) != (l1.length : Int)) = false := bne_eq_false_iff_eq.mpr c3
  have c3b2 : (l0.length == l1.length) = true := by first | simpa using c3 | (simp at c3 ⊢; omega)
  clear c3
  have H' := Ak H
  clear H
  go_enter Tryd.func19, Tryd.ntmps19
  go_wp2
  repeat (go_quiet (fail); try go_wp2)
  go_loopg [5] k (fun kq v5 w' => ∃ (x5_1 : Int), v5 = .int .i64 x5_1 ∧ Aside0 (Fn.l0 kq l0 l1 x5_1 = some r) ∧ Aside0 (kq ≤ k) ∧ Drawn0 w w')
  case atStart => exact ⟨(0), (by first | rfl | (simp; done) | (simp [*]; done)), H', ⟨Nat.le_refl _⟩, by repeat (first | exact Drawn0.refl _ | apply Drawn0.step)⟩
  case round =>
   clear H'
   try clear c1
   try clear p2
   try clear c3
   try clear c3b0
   try clear c3b1
   try clear c3b2
   obtain ⟨x5_1, rfl, HA, HK1, ⟨m1, rfl⟩⟩ := hrel
   cases gk with
   | zero => exact absurd HA.out (by simp [Fn.l0])
   | succ k1 =>
    have H := HA.out
    clear HA
    simp only [Fn.l0] at H
    by_cases c4 : x5_1 < (l0.length : Int)
    ·rw [if_pos c4] at H
     have c4b0 : decide (x5_1 < (l0.length : Int)) = true := decide_eq_true c4
     clear c4
     by_cases c5 : 0 ≤ x5_1
     ·rw [if_pos c5] at H
      have c5b0 : decide (0 ≤ x5_1) = true := decide_eq_true c5
      clear c5
      by_cases c6 : x5_1 < (l1.length : Int)
      ·rw [if_pos c6] at H
       have c6b0 : decide (x5_1 < (l1.length : Int)) = true := decide_eq_true c6
       clear c6
       by_cases c7 : (rd l0 x5_1) = (rd l1 x5_1)
       ·rw [if_pos c7] at H
        have c7b0 : ((rd l0 x5_1) == (rd l1 x5_1)) = true := beq_iff_eq.mpr c7
        have c7b1 : ((rd l0 x5_1) != (rd l1 x5_1)) = false := bne_eq_false_iff_eq.mpr c7
        clear c7
        have H' := Ak H
        clear H
        have p101 : 0 ≤ (x5_1 : Int) := Dz
        have q101 : x5_1 < (l0.length : Int) := Dz
        obtain ⟨ad101, e101, hx101_0⟩ := Kd.at_int HR0.out x5_1 p101 q101
        cases e101
        replace p101 := eq_true p101; replace q101 := eq_true q101
        have p102 : 0 ≤ (x5_1 : Int) := Dz
        have q102 : x5_1 < (l1.length : Int) := Dz
        obtain ⟨ad102, e102, hx102_0⟩ := Kd.at_int HR1.out x5_1 p102 q102
        cases e102
        replace p102 := eq_true p102; replace q102 := eq_true q102
        go_wp2
        repeat (go_quiet (fail); try go_wp2)
        go_roundg k1
        case measure => have := HK1.out; omega
        case rel => exact ⟨(wrap64 (x5_1 + 1)), (by first | rfl | (simp; done) | (simp [*]; done)), H', ⟨by have := HK1.out; omega⟩, by repeat (first | exact Drawn0.refl _ | apply Drawn0.step)⟩
       ·rw [if_neg c7] at H
        have c7b0 : ((rd l0 x5_1) == (rd l1 x5_1)) = false := beq_eq_false_iff_ne.mpr c7
        have c7b1 : ((rd l0 x5_1) != (rd l1 x5_1)) = true := bne_iff_ne.mpr c7
        obtain rfl := Option.some.inj H
        have p101 : 0 ≤ (x5_1 : Int) := Dz
        have q101 : x5_1 < (l0.length : Int) := Dz
        obtain ⟨ad101, e101, hx101_0⟩ := Kd.at_int HR0.out x5_1 p101 q101
        cases e101
        replace p101 := eq_true p101; replace q101 := eq_true q101
        have p102 : 0 ≤ (x5_1 : Int) := Dz
        have q102 : x5_1 < (l1.length : Int) := Dz
        obtain ⟨ad102, e102, hx102_0⟩ := Kd.at_int HR1.out x5_1 p102 q102
        cases e102
        replace p102 := eq_true p102; replace q102 := eq_true q102
        go_wp2
        repeat (go_quiet (fail); try go_wp2)
        go_ret
        exact ⟨by first | rfl | (simp; done) | (simp [*]; done), by repeat (first | exact Drawn0.refl _ | apply Drawn0.step)⟩
      ·rw [if_neg c6] at H
       exact absurd H (by simp)
     ·rw [if_neg c5] at H
      exact absurd H (by simp)
    ·rw [if_neg c4] at H
     have c4b0 : decide (x5_1 < (l0.length : Int)) = false := decide_eq_false c4
     clear c4
     obtain rfl := Option.some.inj H
     go_wp2
     repeat (go_quiet (fail); try go_wp2)
     go_ret
     exact ⟨by first | rfl | (simp; done) | (simp [*]; done), by repeat (first | exact Drawn0.refl _ | apply Drawn0.step)⟩
 ·rw [if_neg c3] at H
  have c3b0 : ((l0.length : Int) == (l1.length : Int)) = false := beq_eq_false_iff_ne.mpr c3
  have c3b1 : ((l0.length : Int) != (l1.length : Int)) = true := bne_iff_ne.mpr c3
  have c3b2 : (l0.length == l1.length) = false := by first | simpa using c3 | (simp at c3 ⊢; omega)
  obtain rfl := Option.some.inj H
  go_enter Tryd.func19, Tryd.ntmps19
  go_wp2
  repeat (go_quiet (fail); try go_wp2)
  go_ret
  exact ⟨by first | rfl | (simp; done) | (simp [*]; done), by repeat (first | exact Drawn0.refl _ | apply Drawn0.step)⟩
/-! ### Fi: function 18 -/
def Fi.l0 : Nat → List ByteArray → List ByteArray → Int → Option (Bool)
  | 0, _, _, _ => none
  | k + 1, x0, x1, x5 => if x5 < (x0.length : Int) then (if 0 ≤ x5 then (if x5 < (x1.length : Int) then (if (rdOf ByteArray.empty x0 x5).toList = (rdOf ByteArray.empty x1 x5).toList then (Fi.l0 k x0 x1 (wrap64 (x5 + 1))) else (some false)) else (none)) else (none)) else (some true)
def Fi.f (k : Nat) (l0 : List ByteArray) (l1 : List ByteArray) : Option (Bool) := if (l0.length : Int) = (l1.length : Int) then (Fi.l0 k l0 l1 0) else (some false)
theorem Fi.mono_l : ∀ k, (∀ y0 y1 y2, LeO (Fi.l0 k y0 y1 y2) (Fi.l0 (k + 1) y0 y1 y2))
  | 0 => fun _ _ _ r h => by simp [Fi.l0] at h
  | k + 1 => by
    have ih0 := Fi.mono_l k
    · intro y0 y1 y2
      unfold Fi.l0
      repeat' first | (with_reducible first | exact ih0 _ _ _ | exact LeO.refl _ | exact LeO.none _ | refine LeO.ite ?_ ?_ | refine LeO.bind ?_ (fun _ => ?_)) | exact ih0 _ _ _ | exact LeO.none _ | refine LeO.ite ?_ ?_ | refine LeO.bind ?_ (fun _ => ?_)
theorem Fi.mono : ∀ a0 a1 k, LeO (Fi.f k a0 a1) (Fi.f (k + 1) a0 a1) := by
  intro a0 a1 k
  have ih0 := Fi.mono_l k
  unfold Fi.f
  repeat' first | (with_reducible first | exact ih0 _ _ _ | exact LeO.refl _ | exact LeO.none _ | refine LeO.ite ?_ ?_ | refine LeO.bind ?_ (fun _ => ?_)) | exact ih0 _ _ _ | exact LeO.none _ | refine LeO.ite ?_ ?_ | refine LeO.bind ?_ (fun _ => ?_)
set_option maxHeartbeats 8000000 in
set_option maxRecDepth 100000 in
theorem Fi.calls (k : Nat) (A0 : Option Addr) (c0 : Nat) (l0 : List ByteArray) (A1 : Option Addr) (c1 : Nat) (l1 : List ByteArray) (r : Bool) (w : World) (hr0 : Kd.C Kd.string w A0 l0.length l0) (hc0 : l0.length ≤ c0) (hr1 : Kd.C Kd.string w A1 l1.length l1) (hc1 : l1.length ≤ c1) (h : Fi.f k l0 l1 = some r) :
  Calls Tryd.prog 18 #[.slice A0 l0.length c0, .slice A1 l1.length c1] w fun e w' => e = .returned (.bool r) ∧ Drawn0 w w' := by
 have HR0 := Ak hr0
 have HC0 := Ak hc0
 clear hr0 hc0
 have HR1 := Ak hr1
 have HC1 := Ak hc1
 clear hr1 hc1
 have H : (if (l0.length : Int) = (l1.length : Int) then (Fi.l0 k l0 l1 0) else (some false)) = some r := h
 clear h
 by_cases c3 : (l0.length : Int) = (l1.length : Int)
 ·rw [if_pos c3] at H
  have c3b0 : ((l0.length : Int) == (l1.length : Int)) = true := beq_iff_eq.mpr c3
  have c3b1 : ((l0.length : Int) != (l1.length : Int)) = false := bne_eq_false_iff_eq.mpr c3
  have c3b2 : (l0.length == l1.length) = true := by first | simpa using c3 | (simp at c3 ⊢; omega)
  clear c3
  have H' := Ak H
  clear H
  go_enter Tryd.func18, Tryd.ntmps18
  go_wp2
  repeat (go_quiet (fail); try go_wp2)
  go_loopg [5] k (fun kq v5 w' => ∃ (x5_1 : Int), v5 = .int .i64 x5_1 ∧ Aside0 (Fi.l0 kq l0 l1 x5_1 = some r) ∧ Aside0 (kq ≤ k) ∧ Drawn0 w w')
  case atStart => exact ⟨(0), (by first | rfl | (simp; done) | (simp [*]; done)), H', ⟨Nat.le_refl _⟩, by repeat (first | exact Drawn0.refl _ | apply Drawn0.step)⟩
  case round =>
   clear H'
   try clear c1
   try clear p2
   try clear c3
   try clear c3b0
   try clear c3b1
   try clear c3b2
   obtain ⟨x5_1, rfl, HA, HK1, ⟨m1, rfl⟩⟩ := hrel
   cases gk with
   | zero => exact absurd HA.out (by simp [Fi.l0])
   | succ k1 =>
    have H := HA.out
    clear HA
    simp only [Fi.l0] at H
    by_cases c4 : x5_1 < (l0.length : Int)
    ·rw [if_pos c4] at H
     have c4b0 : decide (x5_1 < (l0.length : Int)) = true := decide_eq_true c4
     clear c4
     by_cases c5 : 0 ≤ x5_1
     ·rw [if_pos c5] at H
      have c5b0 : decide (0 ≤ x5_1) = true := decide_eq_true c5
      clear c5
      by_cases c6 : x5_1 < (l1.length : Int)
      ·rw [if_pos c6] at H
       have c6b0 : decide (x5_1 < (l1.length : Int)) = true := decide_eq_true c6
       clear c6
       by_cases c7 : (rdOf ByteArray.empty l0 x5_1).toList = (rdOf ByteArray.empty l1 x5_1).toList
       ·rw [if_pos c7] at H
        have c7b0 : ((rdOf ByteArray.empty l0 x5_1).toList == (rdOf ByteArray.empty l1 x5_1).toList) = true := beq_iff_eq.mpr c7
        have c7b1 : ((rdOf ByteArray.empty l0 x5_1).toList != (rdOf ByteArray.empty l1 x5_1).toList) = false := bne_eq_false_iff_eq.mpr c7
        clear c7
        have H' := Ak H
        clear H
        have p101 : 0 ≤ (x5_1 : Int) := Dz
        have q101 : x5_1 < (l0.length : Int) := Dz
        obtain ⟨ad101, e101, hx101_0⟩ := Kd.at_string HR0.out x5_1 p101 q101
        cases e101
        replace p101 := eq_true p101; replace q101 := eq_true q101
        have p102 : 0 ≤ (x5_1 : Int) := Dz
        have q102 : x5_1 < (l1.length : Int) := Dz
        obtain ⟨ad102, e102, hx102_0⟩ := Kd.at_string HR1.out x5_1 p102 q102
        cases e102
        replace p102 := eq_true p102; replace q102 := eq_true q102
        go_wp2
        repeat (go_quiet (fail); try go_wp2)
        go_roundg k1
        case measure => have := HK1.out; omega
        case rel => exact ⟨(wrap64 (x5_1 + 1)), (by first | rfl | (simp; done) | (simp [*]; done)), H', ⟨by have := HK1.out; omega⟩, by repeat (first | exact Drawn0.refl _ | apply Drawn0.step)⟩
       ·rw [if_neg c7] at H
        have c7b0 : ((rdOf ByteArray.empty l0 x5_1).toList == (rdOf ByteArray.empty l1 x5_1).toList) = false := beq_eq_false_iff_ne.mpr c7
        have c7b1 : ((rdOf ByteArray.empty l0 x5_1).toList != (rdOf ByteArray.empty l1 x5_1).toList) = true := bne_iff_ne.mpr c7
        obtain rfl := Option.some.inj H
        have p101 : 0 ≤ (x5_1 : Int) := Dz
        have q101 : x5_1 < (l0.length : Int) := Dz
        obtain ⟨ad101, e101, hx101_0⟩ := Kd.at_string HR0.out x5_1 p101 q101
        cases e101
        replace p101 := eq_true p101; replace q101 := eq_true q101
        have p102 : 0 ≤ (x5_1 : Int) := Dz
        have q102 : x5_1 < (l1.length : Int) := Dz
        obtain ⟨ad102, e102, hx102_0⟩ := Kd.at_string HR1.out x5_1 p102 q102
        cases e102
        replace p102 := eq_true p102; replace q102 := eq_true q102
        go_wp2
        repeat (go_quiet (fail); try go_wp2)
        go_ret
        exact ⟨by first | rfl | (simp; done) | (simp [*]; done), by repeat (first | exact Drawn0.refl _ | apply Drawn0.step)⟩
      ·rw [if_neg c6] at H
       exact absurd H (by simp)
     ·rw [if_neg c5] at H
      exact absurd H (by simp)
    ·rw [if_neg c4] at H
     have c4b0 : decide (x5_1 < (l0.length : Int)) = false := decide_eq_false c4
     clear c4
     obtain rfl := Option.some.inj H
     go_wp2
     repeat (go_quiet (fail); try go_wp2)
     go_ret
     exact ⟨by first | rfl | (simp; done) | (simp [*]; done), by repeat (first | exact Drawn0.refl _ | apply Drawn0.step)⟩
 ·rw [if_neg c3] at H
  have c3b0 : ((l0.length : Int) == (l1.length : Int)) = false := beq_eq_false_iff_ne.mpr c3
  have c3b1 : ((l0.length : Int) != (l1.length : Int)) = true := bne_iff_ne.mpr c3
  have c3b2 : (l0.length == l1.length) = false := by first | simpa using c3 | (simp at c3 ⊢; omega)
  obtain rfl := Option.some.inj H
  go_enter Tryd.func18, Tryd.ntmps18
  go_wp2
  repeat (go_quiet (fail); try go_wp2)
  go_ret
  exact ⟨by first | rfl | (simp; done) | (simp [*]; done), by repeat (first | exact Drawn0.refl _ | apply Drawn0.step)⟩
/-! ### Fo: function 25 -/
def Fo.l0 : Nat → List Int → Int → Int → Option (Int)
  | 0, _, _, _ => none
  | k + 1, x0, x1, x5 => if x5 < (x0.length : Int) then (if 0 ≤ x5 then (if (rd x0 x5) = x1 then (Fo.l0 k x0 (wrap64 (x1 + 1)) (wrap64 (x5 + 1))) else (some (-1))) else (none)) else (some x1)
def Fo.f (k : Nat) (l0 : List Int) (a1 : Int) : Option (Int) := Fo.l0 k l0 a1 0
theorem Fo.mono_l : ∀ k, (∀ y0 y1 y2, LeO (Fo.l0 k y0 y1 y2) (Fo.l0 (k + 1) y0 y1 y2))
  | 0 => fun _ _ _ r h => by simp [Fo.l0] at h
  | k + 1 => by
    have ih0 := Fo.mono_l k
    · intro y0 y1 y2
      unfold Fo.l0
      repeat' first | (with_reducible first | exact ih0 _ _ _ | exact LeO.refl _ | exact LeO.none _ | refine LeO.ite ?_ ?_ | refine LeO.bind ?_ (fun _ => ?_)) | exact ih0 _ _ _ | exact LeO.none _ | refine LeO.ite ?_ ?_ | refine LeO.bind ?_ (fun _ => ?_)
theorem Fo.mono : ∀ a0 a1 k, LeO (Fo.f k a0 a1) (Fo.f (k + 1) a0 a1) := by
  intro a0 a1 k
  have ih0 := Fo.mono_l k
  unfold Fo.f
  repeat' first | (with_reducible first | exact ih0 _ _ _ | exact LeO.refl _ | exact LeO.none _ | refine LeO.ite ?_ ?_ | refine LeO.bind ?_ (fun _ => ?_)) | exact ih0 _ _ _ | exact LeO.none _ | refine LeO.ite ?_ ?_ | refine LeO.bind ?_ (fun _ => ?_)
set_option maxHeartbeats 8000000 in
set_option maxRecDepth 100000 in
theorem Fo.calls (k : Nat) (A0 : Option Addr) (c0 : Nat) (l0 : List Int) (a1 : Int) (r : Int) (w : World) (hr0 : Kd.C (Kd.int .i64) w A0 l0.length l0) (hc0 : l0.length ≤ c0) (h : Fo.f k l0 a1 = some r) :
  Calls Tryd.prog 25 #[.slice A0 l0.length c0, .int .i64 a1] w fun e w' => e = .returned (.int .i64 r) ∧ Drawn0 w w' := by
 have HR0 := Ak hr0
 have HC0 := Ak hc0
 clear hr0 hc0
 have H : (Fo.l0 k l0 a1 0) = some r := h
 clear h
 have H' := Ak H
 clear H
 go_enter Tryd.func25, Tryd.ntmps25
 go_wp2
 go_loopg [1, 5] k (fun kq v1 v5 w' => ∃ (x1_1 : Int) (x5_1 : Int), v1 = .int .i64 x1_1 ∧ v5 = .int .i64 x5_1 ∧ Aside0 (Fo.l0 kq l0 x1_1 x5_1 = some r) ∧ Aside0 (kq ≤ k) ∧ Drawn0 w w')
 case atStart => exact ⟨(a1), (0), (by first | rfl | (simp; done) | (simp [*]; done)), (by first | rfl | (simp; done) | (simp [*]; done)), H', ⟨Nat.le_refl _⟩, by repeat (first | exact Drawn0.refl _ | apply Drawn0.step)⟩
 case round =>
  clear H'
  try clear c2
  try clear p2
  obtain ⟨x1_1, x5_1, rfl, rfl, HA, HK1, ⟨m1, rfl⟩⟩ := hrel
  cases gk with
  | zero => exact absurd HA.out (by simp [Fo.l0])
  | succ k1 =>
   have H := HA.out
   clear HA
   simp only [Fo.l0] at H
   by_cases c3 : x5_1 < (l0.length : Int)
   ·rw [if_pos c3] at H
    have c3b0 : decide (x5_1 < (l0.length : Int)) = true := decide_eq_true c3
    clear c3
    by_cases c4 : 0 ≤ x5_1
    ·rw [if_pos c4] at H
     have c4b0 : decide (0 ≤ x5_1) = true := decide_eq_true c4
     clear c4
     by_cases c5 : (rd l0 x5_1) = x1_1
     ·rw [if_pos c5] at H
      have c5b0 : ((rd l0 x5_1) == x1_1) = true := beq_iff_eq.mpr c5
      have c5b1 : ((rd l0 x5_1) != x1_1) = false := bne_eq_false_iff_eq.mpr c5
      clear c5
      have H' := Ak H
      clear H
      have p101 : 0 ≤ (x5_1 : Int) := Dz
      have q101 : x5_1 < (l0.length : Int) := Dz
      obtain ⟨ad101, e101, hx101_0⟩ := Kd.at_int HR0.out x5_1 p101 q101
      cases e101
      replace p101 := eq_true p101; replace q101 := eq_true q101
      go_wp2
      go_roundg k1
      case measure => have := HK1.out; omega
      case rel => exact ⟨(wrap64 (x1_1 + 1)), (wrap64 (x5_1 + 1)), (by first | rfl | (simp; done) | (simp [*]; done)), (by first | rfl | (simp; done) | (simp [*]; done)), H', ⟨by have := HK1.out; omega⟩, by repeat (first | exact Drawn0.refl _ | apply Drawn0.step)⟩
     ·rw [if_neg c5] at H
      have c5b0 : ((rd l0 x5_1) == x1_1) = false := beq_eq_false_iff_ne.mpr c5
      have c5b1 : ((rd l0 x5_1) != x1_1) = true := bne_iff_ne.mpr c5
      obtain rfl := Option.some.inj H
      have p101 : 0 ≤ (x5_1 : Int) := Dz
      have q101 : x5_1 < (l0.length : Int) := Dz
      obtain ⟨ad101, e101, hx101_0⟩ := Kd.at_int HR0.out x5_1 p101 q101
      cases e101
      replace p101 := eq_true p101; replace q101 := eq_true q101
      go_wp2
      go_ret
      exact ⟨by first | rfl | (simp; done) | (simp [*]; done), by repeat (first | exact Drawn0.refl _ | apply Drawn0.step)⟩
    ·rw [if_neg c4] at H
     exact absurd H (by simp)
   ·rw [if_neg c3] at H
    have c3b0 : decide (x5_1 < (l0.length : Int)) = false := decide_eq_false c3
    clear c3
    obtain rfl := Option.some.inj H
    go_wp2
    go_ret
    exact ⟨by first | rfl | (simp; done) | (simp [*]; done), by repeat (first | exact Drawn0.refl _ | apply Drawn0.step)⟩
/-! ### Fk: function 61 -/
def Fk.l0 : Nat → Int → ByteArray → Option (ByteArray)
  | 0, _, _ => none
  | k + 1, x0, x3 => if x0 > 0 then ((some (([(wrap64 (48 + (Int.tmod x0 10))) % 256] : List Int) : List Int)).bind fun y101 => (if (strOfNums y101).size + x3.size ≤ 9223372036854775807 then (Fk.l0 k (wrap64 (Int.tdiv x0 10)) ((strOfNums y101) ++ x3)) else (none))) else (if 1 + x3.size ≤ 9223372036854775807 then (some ((⟨#[109]⟩ : ByteArray) ++ x3)) else (none))
def Fk.f (k : Nat) (a0 : Int) : Option (ByteArray) := if a0 ≤ 0 then (some (⟨#[109, 48]⟩ : ByteArray)) else (Fk.l0 k a0 (⟨#[]⟩ : ByteArray))
theorem Fk.mono_l : ∀ k, (∀ y0 y1, LeO (Fk.l0 k y0 y1) (Fk.l0 (k + 1) y0 y1))
  | 0 => fun _ _ r h => by simp [Fk.l0] at h
  | k + 1 => by
    have ih0 := Fk.mono_l k
    · intro y0 y1
      unfold Fk.l0
      repeat' first | (with_reducible first | exact ih0 _ _ | exact LeO.refl _ | exact LeO.none _ | refine LeO.ite ?_ ?_ | refine LeO.bind ?_ (fun _ => ?_)) | exact ih0 _ _ | exact LeO.none _ | refine LeO.ite ?_ ?_ | refine LeO.bind ?_ (fun _ => ?_)
theorem Fk.mono : ∀ a0 k, LeO (Fk.f k a0) (Fk.f (k + 1) a0) := by
  intro a0 k
  have ih0 := Fk.mono_l k
  unfold Fk.f
  repeat' first | (with_reducible first | exact ih0 _ _ | exact LeO.refl _ | exact LeO.none _ | refine LeO.ite ?_ ?_ | refine LeO.bind ?_ (fun _ => ?_)) | exact ih0 _ _ | exact LeO.none _ | refine LeO.ite ?_ ?_ | refine LeO.bind ?_ (fun _ => ?_)
set_option maxHeartbeats 8000000 in
set_option maxRecDepth 100000 in
theorem Fk.calls (k : Nat) (a0 : Int) (r : ByteArray) (w : World) (h : Fk.f k a0 = some r) :
  Calls Tryd.prog 61 #[.int .i64 a0] w fun e w' => e = .returned (.string r) ∧ Below w.heap.size w w' := by
 have HB := Ak (Below.refl w.heap.size w)
 have H : (if a0 ≤ 0 then (some (⟨#[109, 48]⟩ : ByteArray)) else (Fk.l0 k a0 (⟨#[]⟩ : ByteArray))) = some r := h
 clear h
 by_cases c2 : a0 ≤ 0
 ·rw [if_pos c2] at H
  have c2b0 : decide (a0 ≤ 0) = true := decide_eq_true c2
  clear c2
  obtain rfl := Option.some.inj H
  go_enter Tryd.func61, Tryd.ntmps61
  go_wp2
  go_ret
  exact ⟨by first | rfl | (simp [errW_none, errW_some] <;> rfl) | (simp [*, errW_none, errW_some] <;> rfl), by exact eS HB.out⟩
 ·rw [if_neg c2] at H
  have c2b0 : decide (a0 ≤ 0) = false := decide_eq_false c2
  clear c2
  have H' := Ak H
  clear H
  go_enter Tryd.func61, Tryd.ntmps61
  go_wp2
  go_loopg [0, 3] k (fun kq v0 v3 w' => ∃ (x0_1 : Int) (x3_1 : ByteArray), v0 = .int .i64 x0_1 ∧ v3 = .string x3_1 ∧ Aside0 (Fk.l0 kq x0_1 x3_1 = some r) ∧ Aside0 (kq ≤ k) ∧ Aside0 (Below w.heap.size w w'))
  case atStart => exact ⟨(a0), ((⟨#[]⟩ : ByteArray)), (by first | rfl | (simp; done) | (simp [*]; done)), (by first | rfl | (simp; done) | (simp [*]; done)), H', ⟨Nat.le_refl _⟩, ⟨by exact eS HB.out⟩⟩
  case round =>
   clear H'
   try clear c2
   try clear c2b0
   try clear p2
   obtain ⟨x0_1, x3_1, rfl, rfl, HA, HK1, HB⟩ := hrel
   cases gk with
   | zero => exact absurd HA.out (by simp [Fk.l0])
   | succ k1 =>
    have H := HA.out
    clear HA
    simp only [Fk.l0] at H
    by_cases c3 : x0_1 > 0
    ·rw [if_pos c3] at H
     have c3b0 : decide (0 < x0_1) = true := decide_eq_true c3
     clear c3
     obtain ⟨y101, hy101⟩ : ∃ y_ : List Int, y_ = (([(wrap64 (48 + (Int.tmod x0_1 10))) % 256] : List Int)) := ⟨_, rfl⟩
     replace H : (if (strOfNums y101).size + x3_1.size ≤ 9223372036854775807 then (Fk.l0 k1 (wrap64 (Int.tdiv x0_1 10)) ((strOfNums y101) ++ x3_1)) else (none)) = some r := by first | (rw [hy101]; with_reducible exact H) | (have H2_ := (Option.bind_some _ _).symm.trans H; rw [hy101]; with_reducible exact H2_) | (have H2_ := (Option.bind_some _ _).symm.trans H; with_reducible exact H2_) | with_reducible exact H | (rw [hy101]; exact H) | exact H
     have Ny101 := Ak hy101
     clear hy101
     by_cases c4 : (strOfNums y101).size + x3_1.size ≤ 9223372036854775807
     ·rw [if_pos c4] at H
      have c4b0 := eq_true c4
      have c4b1 : decide ((strOfNums y101).size + x3_1.size ≤ 9223372036854775807) = true := decide_eq_true c4
      try have c4b2 : (9223372036854775807 < (strOfNums y101).size + x3_1.size) = False := eq_false (Nat.not_lt.2 c4)
      have H' := Ak H
      clear H
      go_wp2_with (first | ((with_reducible refine gate_dst (N := 12) rfl ?_); refine Kd.R_lit (Kd.int .u8) _ 5 ?hg (N := 12) ?hd (xs := ([(wrap64 (48 + (Int.tmod x0_1 10))) % 256] : List Int)) (inner := [.int .u8 ((wrap64 (48 + (Int.tmod x0_1 10))) % 256)]) (ok := fun _ => True) (okp := fun _ => True) ?hr ?hp (fun _ hk => hk) trivial (Below.refl _ _) (Nat.le_refl _) (by simp) ?_; (case hd => rfl); (case hg => rfl); (case hr => first | (go_simp; done) | (go_simp; rfl)); (case hp => exact (Reps.one (show Kd.M (Kd.int .u8) _ _ _ ((wrap64 (48 + (Int.tmod x0_1 10))) % 256) [.int .u8 ((wrap64 (48 + (Int.tmod x0_1 10))) % 256)] from rfl) (Reps.none _ _))); intro v102 w5 ho6 hb hg_ hnew_; clear hg_ hnew_; (first | rw [← Ny101.out] at ho6 | (simp only [Int.reduceToNat] at ho6; rw [← Ny101.out] at ho6)); have n0_ := Ak (Kd.R_lower ho6 (below_size (by exact eS HB.out))); have n1_ := Ak (below_step (by exact eS HB.out) hb); clear HB; have HO103 := n0_; have HB := n1_; clear n0_ n1_; clear hb ho6; have hcv7 := own_string (P := Tryd.prog) Tryd.underlying58 Tryd.underlying5 Tryd.underlying9 (Kd.own_of_R HO103.out)))
      go_roundg k1
      case measure => have := HK1.out; omega
      case rel => exact ⟨(wrap64 (Int.tdiv x0_1 10)), ((strOfNums y101) ++ x3_1), (by first | rfl | (simp; done) | (simp [*]; done)), (by first | rfl | (simp; done) | (simp [*]; done)), H', ⟨by have := HK1.out; omega⟩, ⟨by exact eS HB.out⟩⟩
     ·rw [if_neg c4] at H
      exact absurd H (by simp)
    ·rw [if_neg c3] at H
     have c3b0 : decide (0 < x0_1) = false := decide_eq_false c3
     clear c3
     by_cases c8 : 1 + x3_1.size ≤ 9223372036854775807
     ·rw [if_pos c8] at H
      have c8b0 := eq_true c8
      have c8b1 : decide (1 + x3_1.size ≤ 9223372036854775807) = true := decide_eq_true c8
      try have c8b2 : (9223372036854775807 < 1 + x3_1.size) = False := eq_false (Nat.not_lt.2 c8)
      obtain rfl := Option.some.inj H
      go_wp2
      go_ret
      exact ⟨by first | rfl | (simp [errW_none, errW_some] <;> rfl) | (simp [*, errW_none, errW_some] <;> rfl), by exact eS HB.out⟩
     ·rw [if_neg c8] at H
      exact absurd H (by simp)
end Go.Proofs.YtahfahlbdgbfeaaDoor.X
