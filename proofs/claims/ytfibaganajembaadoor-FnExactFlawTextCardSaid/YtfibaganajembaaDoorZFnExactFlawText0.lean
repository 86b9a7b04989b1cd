/- What the law FnExactFlawText needs, part 1 of 1: what each function of the program that it reaches returns (printed by this session's own program, checked by Lean), and plain mathematics about it. Conditions: those of each theorem. -/
import Derived.Test.YtfibaganajembaaDoorYG
import Derived.WalkSpells
import Derived.Test.YtfibaganajembaaDoorProg
import Derived.Below
import Derived.Deep.Draws
import Derived.Deep.AppendLies
import Derived.Maps.AppendAt
import Derived.OwnWalk
import Derived.Laws.BytesArg
import Derived.Laws.MakeOwn
import Derived.Laws.OwnMore
import Derived.Deep.OwnRows
import Derived.Tactics
import Derived.Lib.ConvBytes
import Derived.Laws.Slices
import Derived.WalkKit
import Derived.KernelRfl
import Derived.RowKit3
import Derived.Deep.LoopGhost
import Derived.Deep.QuietTactic
import Derived.BigQuiet
import Derived.WideLaws
import Derived.Deep.DeepCutAuto
import Derived.Deep.CutBlock
import Derived.Deep.RegionHeld3
import Derived.Laws.Rows
import Derived.Lib.AppendStr
import Derived.ArgAppend
import Derived.Laws.IdiomCopy
import Derived.OrdersHeld
import Derived.Laws.BitsLemmas
import Derived.RowKit
import Derived.Ground.NamesProg
import Derived.Shelf.Strconv.Itoa3
import Derived.ProofKit
import Derived.WideShapes
-- Ho
namespace Go.Proofs.Ho
open Go.RowKit Go.Proofs.YtfibaganajembaaDoorW.PrintWords Go.Proofs.YtfibaganajembaaDoorW.PrintLast
set_option linter.unusedVariables false

/-- What came by draws and by new blocks alone. -/
class Steps (w w' : World) : Prop where below : Below w.heap.size w w'
instance Steps.refl (w : World) : Steps w w := ⟨Below.refl _ _⟩
instance Steps.alloc (w w' : World) (o : Obj) [h : Steps w w'] : Steps w (w'.alloc o) := ⟨below_alloc h.below o⟩
instance Steps.drewN (w w' : World) (n : Nat) [h : Steps w w'] : Steps w (w'.drewN n) := ⟨pw_below_drewN h.below n⟩
instance Steps.drew (w w' : World) [h : Steps w w'] : Steps w w'.drew := ⟨below_drew h.below⟩
theorem bS {w w' : World} {g : Nat} {o : Obj} (h : w.heap[g]? = some o) [hs : Steps w w'] : w'.heap[g]? = some o := blk_below h hs.below
theorem eS {w W W' : World} (h : Below w.heap.size w W) [hs : Steps W W'] : Below w.heap.size w W' := below_then h h.size hs.below
theorem kS {w w1 w2 : World} {g : Nat} (h : KeepBut w w1 g none) [hs : Steps w1 w2] : KeepBut w w2 g none := KeepBut.trans h (KeepBut.of_below hs.below g none) (.inl rfl)
theorem KS {w w1 w2 : World} {S : Nat → Prop} (h : Kept w w1 S) [hs : Steps w1 w2] : Kept w w2 S := Kept.below h hs.below
section
variable {α : Type} {d : Kd α} {e base : Nat} {ok : Nat → Prop} {w w' : World} {v : Value} {xs : List α}
theorem RS (h : d.R e w base ok v xs) [hs : Steps w w'] : d.R e w' base ok v xs := Kd.R_below h hs.below
theorem SS (h : d.S e w base ok v xs) [hs : Steps w w'] : d.S e w' base ok v xs := Kd.S_below h hs.below
theorem QS (h : d.Q e w base ok v xs) [hs : Steps w w'] : d.Q e w' base ok v xs := Kd.Q_below h hs.below
theorem NS (h : Kd.N d e w base ok v xs) [hs : Steps w w'] : Kd.N d e w' base ok v xs := Kd.N_below h hs.below
theorem VS (h : Kd.V d e w base ok v xs) [hs : Steps w w'] : Kd.V d e w' base ok v xs := Kd.V_below h hs.below
end
def idxO {α : Type} (p : α → Option Bool) : List α → Int → Option Int
  | [], _ => some (-1)
  | x :: xs, i => (p x).bind fun b => if b = true then some i else idxO p xs (i + 1)
def hasO {α : Type} (p : α → Option Bool) (l : List α) : Option Bool := (idxO p l 0).bind fun i => some (decide (i ≥ 0))
def notO {α : Type} (p : α → Option Bool) (x : α) : Option Bool := (p x).bind fun b => some (!b)
def allO {α : Type} (p : α → Option Bool) (l : List α) : Option Bool := (hasO (notO p) l).bind fun b => some (!b)
/-- A function value that answers as p does, wherever all that lay in w lies unturned. -/
structure PredO {α : Type} (P : Program) (g : Nat) (lb : Array Value) (enc : α → Value) (p : α → Option Bool) (w : World) : Prop where
  calls : ∀ (W : World) (x : α) (b : Bool), Below w.heap.size w W → p x = some b → Calls P g (#[enc x] ++ lb) W fun e w' => e = .returned (.bool b) ∧ Below W.heap.size W w'
/-- The same of a method's value: rv is its receiver. -/
structure PredR {α : Type} (P : Program) (g : Nat) (rv : Value) (enc : α → Value) (p : α → Option Bool) (w : World) : Prop where
  calls : ∀ (W : World) (x : α) (b : Bool), Below w.heap.size w W → p x = some b → Calls P g #[rv, enc x] W fun e w' => e = .returned (.bool b) ∧ Below W.heap.size W w'
theorem PredR.below {α : Type} {P : Program} {g : Nat} {rv : Value} {enc : α → Value} {p : α → Option Bool} {w w1 : World} (h : PredR P g rv enc p w) (hb : Below w.heap.size w w1) : PredR P g rv enc p w1 :=
  ⟨fun W x b hW hx => h.calls W x b (below_then hb hb.size hW) hx⟩
theorem PredO.below {α : Type} {P : Program} {g : Nat} {lb : Array Value} {enc : α → Value} {p : α → Option Bool} {w w1 : World} (h : PredO P g lb enc p w) (hb : Below w.heap.size w w1) : PredO P g lb enc p w1 :=
  ⟨fun W x b hW hx => h.calls W x b (below_then hb hb.size hW) hx⟩
theorem idxO_step {α : Type} {p : α → Option Bool} {l : List α} {kk : Nat} {i r : Int} (h : idxO p (l.drop kk) i = some r) (hk : kk < l.length) (d : α) : ∃ b, p (l.getD kk d) = some b ∧ (b = true → r = i) ∧ (b = false → idxO p (l.drop (kk + 1)) (i + 1) = some r) := by
  rw [List.drop_eq_getElem_cons hk] at h
  simp only [idxO] at h
  obtain ⟨b, hb, h⟩ := Option.bind_eq_some_iff.mp h
  refine ⟨b, by simpa [List.getD_eq_getElem?_getD, List.getElem?_eq_getElem hk] using hb, fun hbt => ?_, fun hbf => ?_⟩
  · rw [if_pos hbt] at h; injection h with h; exact h.symm
  · rw [if_neg (by simp [hbf])] at h; exact h
theorem idxO_end {α : Type} {p : α → Option Bool} {l : List α} {kk : Nat} {i r : Int} (h : idxO p (l.drop kk) i = some r) (hk : l.length ≤ kk) : r = -1 := by
  rw [List.drop_eq_nil_of_le hk] at h
  simp only [idxO] at h
  injection h with h; exact h.symm
theorem hasO_of {α : Type} {p : α → Option Bool} {l : List α} {b : Bool} (h : hasO p l = some b) : ∃ i, idxO p l 0 = some i ∧ b = decide (i ≥ 0) := by
  obtain ⟨i, hi, h⟩ := Option.bind_eq_some_iff.mp h
  exact ⟨i, hi, (Option.some.inj h).symm⟩
theorem notO_of {α : Type} {p : α → Option Bool} {x : α} {b : Bool} (h : notO p x = some b) : p x = some (!b) := by
  obtain ⟨i, hi, h⟩ := Option.bind_eq_some_iff.mp h
  rw [hi, ← Option.some.inj h, Bool.not_not]
theorem allO_of {α : Type} {p : α → Option Bool} {l : List α} {b : Bool} (h : allO p l = some b) : hasO (notO p) l = some (!b) := by
  obtain ⟨i, hi, h⟩ := Option.bind_eq_some_iff.mp h
  rw [hi, ← Option.some.inj h, Bool.not_not]
theorem idxO_mono {α : Type} {p q : α → Option Bool} (h : ∀ x, LeO (p x) (q x)) : ∀ l i, LeO (idxO p l i) (idxO q l i)
  | [], _ => LeO.refl _
  | x :: xs, i => LeO.bind (h x) (fun b => LeO.ite (LeO.refl _) (idxO_mono h xs (i + 1)))
theorem hasO_mono {α : Type} {p q : α → Option Bool} (h : ∀ x, LeO (p x) (q x)) (l : List α) : LeO (hasO p l) (hasO q l) := LeO.bind (idxO_mono h l 0) (fun _ => LeO.refl _)
theorem notO_mono {α : Type} {p q : α → Option Bool} (h : ∀ x, LeO (p x) (q x)) (x : α) : LeO (notO p x) (notO q x) := LeO.bind (h x) (fun _ => LeO.refl _)
theorem allO_mono {α : Type} {p q : α → Option Bool} (h : ∀ x, LeO (p x) (q x)) (l : List α) : LeO (allO p l) (allO q l) := LeO.bind (hasO_mono (notO_mono h) l) (fun _ => LeO.refl _)
/-! what they say -/
theorem idxO_eq {α : Type} {p : α → Option Bool} {q : α → Bool} : ∀ {l : List α} {i : Int}, (∀ x ∈ l, p x = some (q x)) → idxO p l i = some (match l.findIdx? q with | some j => i + j | none => -1)
  | [], i, _ => rfl
  | x :: xs, i, h => by
    have ih := idxO_eq (l := xs) (i := i + 1) (fun y hy => h y (List.mem_cons_of_mem _ hy))
    simp only [idxO, h x List.mem_cons_self, Option.bind_some, List.findIdx?_cons]
    cases hq : q x
    · simp only [Bool.false_eq_true, if_false]
      rw [ih]
      cases xs.findIdx? q with
      | none => rfl
      | some j =>
        show some (i + 1 + (j : Int)) = some (i + ((j + 1 : Nat) : Int))
        rw [Int.natCast_add, Int.add_assoc, Int.add_comm 1 (j : Int)]; rfl
    · simp
theorem hasO_eq {α : Type} {p : α → Option Bool} {q : α → Bool} {l : List α} (h : ∀ x ∈ l, p x = some (q x)) : hasO p l = some (l.any q) := by
  unfold hasO
  rw [idxO_eq h]
  simp only [Option.bind_some, Option.some.injEq]
  cases hf : l.findIdx? q with
  | none =>
    rw [List.findIdx?_eq_none_iff] at hf
    have : l.any q = false := by simp only [List.any_eq_false]; intro x hx; simp [hf x hx]
    rw [this]; rfl
  | some j =>
    have hj := List.findIdx?_eq_some_iff_getElem.mp hf
    obtain ⟨hlt, hq, _⟩ := hj
    have : l.any q = true := List.any_eq_true.mpr ⟨_, List.getElem_mem hlt, hq⟩
    rw [this]; simp
theorem allO_eq {α : Type} {p : α → Option Bool} {q : α → Bool} {l : List α} (h : ∀ x ∈ l, p x = some (q x)) : allO p l = some (l.all q) := by
  unfold allO
  rw [hasO_eq (p := notO p) (q := fun x => !q x) (fun x hx => by unfold notO; rw [h x hx]; rfl)]
  simp [List.not_any_eq_all_not]
/-- what a store leaves is there as it was: asked first of all, lest one store is asked for another's sake -/
theorem isSome_setCell_ (w : World) (p q : Addr) (x : Value) : ((w.setCell p x).cell? q).isSome = (w.cell? q).isSome := by
  by_cases e : p = q
  · subst e
    unfold World.cell? World.setCell
    simp only [Array.getElem?_modify, if_true]
    cases hw : w.heap[p.block]? with
    | none => simp
    | some o =>
      cases o <;> simp
      rename_i c _ _
      cases hs : p.spot.isSome
      · by_cases h : p.off < c.size <;> simp [h]
      · simp
  · rw [World.cell?_setCell_other w p q x e]
/-! a call through a function value, in a region that draws -/
section
variable {P : Program} {ops : Array Oper} {Q : Exit → Act → World → Prop}
theorem goesv_ {oi : Oper} {N : Option Tmp} {a : Act} {w : World} {K : Act → World → Prop} {f : FuncId} {fn : Func} {c : Operand} {xas : Array Operand} {ts : Array TypeId} (hf : P.funcs[f]? = some fn) (hname : (fn.name == "runtime.NumGoroutine") = false) (hb : fn.body.isSome = true) (xs bs args : Array Value)
    (hw : Region.wanted oi (yielded ops a.tmps) = true) (hN : oi.dst = N) (hop : oi.op = .call { callee := .value c, args := xas, argTypes := ts }) (hc : a.eval c = .func (.func f) xs bs) (hargs : xs ++ xas.map a.eval ++ bs = args)
    (h : Calls P f args w fun e w' => ∃ v, e = .returned v ∧ K (a.put N v) w') : if Region.wanted oi (yielded ops a.tmps) = true then Oper.wp P oi a w K Q else K (a.put N undef) w := by
  refine call_ f args hw hN ?_ h
  have he := enters_ hf hname hb args w
  unfold execOp
  simp [hop, resolve, Deferred.ofValue, invoke, hc, hargs, he]
end
end Go.Proofs.Ho

-- X0
namespace Go.Proofs.YtfibaganajembaaDoor.X
open Ho (bS eS)
open Go.RowKit Go.Proofs.YtfibaganajembaaDoorW.PrintWords Go.Proofs.YtfibaganajembaaDoorW.PrintLast Go.Proofs.YtfibaganajembaaDoorW.PrintMore
attribute [local go_sem] max2_int min2_int max_two min_two max_three min_three max_four min_four   -- for this text's walks alone
set_option linter.unusedVariables false
set_option linter.unusedSimpArgs false



def errW : Option Int → Value
  | none => .nilIface
  | some c => .iface 0 (.int .i64 c)
theorem errW_none : errW none = .nilIface := rfl
theorem errW_some (c : Int) : errW (some c) = .iface 0 (.int .i64 c) := rfl

theorem info9 : (Tryd.prog.info? 9).map (fun i => (i.zero, i.size, i.bytes)) = some (some (.string ⟨#[]⟩), 1, 16) := by kernel_rfl
-- the values' own types
/-! #### struct type 23 -/
structure S23 where
  f0 : Int
  f1 : Int
  f2 : Int
  f3 : Int
def z23 : S23 := ⟨(0 : Int), (0 : Int), (0 : Int), (0 : Int)⟩
def k23 : Kd S23 := Kd.iso (Kd.pair (Kd.int .i64) (Kd.pair (Kd.int .i64) (Kd.pair (Kd.int .i64) (Kd.int .i64)))) (fun x : S23 => (x.f0, x.f1, x.f2, x.f3))
theorem k23_open {w : World} {x : S23} {cs : List Value} (h : k23.K w x cs) : cs = [.int .i64 x.f0, .int .i64 x.f1, .int .i64 x.f2, .int .i64 x.f3] := by
  obtain ⟨_, _, rfl, rfl, ⟨_, _, rfl, rfl, ⟨_, _, rfl, rfl, rfl⟩⟩⟩ := h
  exact rfl
theorem k23_openM {w : World} {base : Nat} {ok : Nat → Prop} {x : S23} {cs : List Value} (h : k23.M w base ok x cs) : cs = [.int .i64 x.f0, .int .i64 x.f1, .int .i64 x.f2, .int .i64 x.f3] := by
  obtain ⟨_, _, rfl, rfl, ⟨_, _, rfl, rfl, ⟨_, _, rfl, rfl, rfl⟩⟩⟩ := h
  exact rfl
theorem k23_mk (w : World) (x : S23)  : k23.K w x [.int .i64 x.f0, .int .i64 x.f1, .int .i64 x.f2, .int .i64 x.f3] := ⟨[.int .i64 x.f0], [.int .i64 x.f1, .int .i64 x.f2, .int .i64 x.f3], rfl, rfl, ⟨[.int .i64 x.f1], [.int .i64 x.f2, .int .i64 x.f3], rfl, rfl, ⟨[.int .i64 x.f2], [.int .i64 x.f3], rfl, rfl, rfl⟩⟩⟩
theorem k23_mkM (w : World) (base : Nat) (ok : Nat → Prop) (x : S23)  : k23.M w base ok x [.int .i64 x.f0, .int .i64 x.f1, .int .i64 x.f2, .int .i64 x.f3] := ⟨[.int .i64 x.f0], [.int .i64 x.f1, .int .i64 x.f2, .int .i64 x.f3], rfl, rfl, ⟨[.int .i64 x.f1], [.int .i64 x.f2, .int .i64 x.f3], rfl, rfl, ⟨[.int .i64 x.f2], [.int .i64 x.f3], rfl, rfl, rfl⟩⟩⟩
def rd_T23 (xs : List S23) (i : Int) : S23 := xs.getD i.toNat z23
theorem at_T23 {w : World} {A : Option Addr} {n : Nat} {xs : List S23} (h : Kd.C k23 w A n xs) (i : Int) (h0 : 0 ≤ i) (h1 : i < n) : ∃ ad , A = some ad ∧ w.cell? (ad.add (i.toNat * 4)) = some (.int .i64 (rd_T23 xs i).f0) ∧ w.cell? ⟨(ad.add (i.toNat * 4)).block, (ad.add (i.toNat * 4)).off + 1, none⟩ = some (.int .i64 (rd_T23 xs i).f1) ∧ w.cell? ⟨(ad.add (i.toNat * 4)).block, (ad.add (i.toNat * 4)).off + 2, none⟩ = some (.int .i64 (rd_T23 xs i).f2) ∧ w.cell? ⟨(ad.add (i.toNat * 4)).block, (ad.add (i.toNat * 4)).off + 3, none⟩ = some (.int .i64 (rd_T23 xs i).f3) := by
  obtain ⟨ad, c, e, _, hK, hc0⟩ := Kd.C_get h z23 i h0 h1
  have hc : ∀ j u, c[j]? = some u → w.cell? (ad.add (i.toNat * 4 + j)) = some u := hc0
  obtain rfl := k23_open hK
  exact ⟨ad, e, hc 0 _ rfl, by rw [← add_field _ _ 1 (by omega)]; exact hc 1 _ rfl, by rw [← add_field _ _ 2 (by omega)]; exact hc 2 _ rfl, by rw [← add_field _ _ 3 (by omega)]; exact hc 3 _ rfl⟩

end Go.Proofs.YtfibaganajembaaDoor.X

-- Shelf
namespace Go.Proofs
open Go.Shelf
def Tryd.lays171_ren : Go.Shelf.Ren := ⟨fun | 171 => 13 | 243 => 14 | 246 => 15 | 283 => 16 | 284 => 17 | 285 => 18 | 286 => 19 | 129 => 21 | 317 => 20 | 318 => 22 | 319 => 23 | 320 => 24 | 337 => 25 | 338 => 26 | n => n, fun | 3 => 3 | 9 => 9 | 2 => 2 | 4 => 4 | 171 => 36 | 0 => 0 | 53 => 37 | 37 => 40 | 5 => 5 | 173 => 41 | 212 => 45 | 51 => 46 | 20 => 20 | 213 => 47 | 46 => 48 | 232 => 51 | 233 => 52 | n => n, fun | 17 => 0 | 18 => 1 | 19 => 2 | n => n⟩
theorem Tryd.lays171 : Go.Proofs.Lays.n171 Tryd.prog Tryd.lays171_ren := {
  mixed := by kernel_rfl
  f129 := Tryd.func21.trans (congrArg some (by kernel_rfl))
  f171 := Tryd.func13.trans (congrArg some (by kernel_rfl))
  f243 := Tryd.func14.trans (congrArg some (by kernel_rfl))
  f246 := Tryd.func15.trans (congrArg some (by kernel_rfl))
  f283 := Tryd.func16.trans (congrArg some (by kernel_rfl))
  f284 := Tryd.func17.trans (congrArg some (by kernel_rfl))
  f285 := Tryd.func18.trans (congrArg some (by kernel_rfl))
  f286 := Tryd.func19.trans (congrArg some (by kernel_rfl))
  f317 := Tryd.func20.trans (congrArg some (by kernel_rfl))
  f318 := Tryd.func22.trans (congrArg some (by kernel_rfl))
  f319 := Tryd.func23.trans (congrArg some (by kernel_rfl))
  f320 := Tryd.func24.trans (congrArg some (by kernel_rfl))
  f337 := Tryd.func25.trans (congrArg some (by kernel_rfl))
  f338 := Tryd.func26.trans (congrArg some (by kernel_rfl))
  t0 := Tryd.underlying0
  a0 := Tryd.isAgg0
  z0 := Tryd.sizeOf0
  v0 := Tryd.zeroValue0
  t2 := Tryd.underlying2
  a2 := Tryd.isAgg2
  z2 := Tryd.sizeOf2
  v2 := Tryd.zeroValue2
  t3 := Tryd.underlying3
  a3 := Tryd.isAgg3
  z3 := Tryd.sizeOf3
  v3 := Tryd.zeroValue3
  t4 := Tryd.underlying4
  a4 := Tryd.isAgg4
  z4 := Tryd.sizeOf4
  v4 := Tryd.zeroValue4
  t5 := Tryd.underlying5
  a5 := Tryd.isAgg5
  z5 := Tryd.sizeOf5
  v5 := Tryd.zeroValue5
  t9 := Tryd.underlying9
  a9 := Tryd.isAgg9
  z9 := Tryd.sizeOf9
  v9 := Tryd.zeroValue9
  t20 := Tryd.underlying20
  a20 := Tryd.isAgg20
  z20 := Tryd.sizeOf20
  v20 := Tryd.zeroValue20
  t37 := Tryd.underlying40
  a37 := Tryd.isAgg40
  z37 := Tryd.sizeOf40
  v37 := Tryd.zeroValue40
  t46 := Tryd.underlying48
  a46 := Tryd.isAgg48
  z46 := Tryd.sizeOf48
  v46 := Tryd.zeroValue48
  t51 := Tryd.underlying46
  a51 := Tryd.isAgg46
  z51 := Tryd.sizeOf46
  v51 := Tryd.zeroValue46
  t53 := Tryd.underlying37
  a53 := Tryd.isAgg37
  z53 := Tryd.sizeOf37
  v53 := Tryd.zeroValue37
  t171 := Tryd.underlying36
  a171 := Tryd.isAgg36
  z171 := Tryd.sizeOf36
  v171 := Tryd.zeroValue36
  t173 := Tryd.underlying41
  a173 := Tryd.isAgg41
  z173 := Tryd.sizeOf41
  v173 := Tryd.zeroValue41
  t212 := Tryd.underlying45
  a212 := Tryd.isAgg45
  z212 := Tryd.sizeOf45
  v212 := Tryd.zeroValue45
  t213 := Tryd.underlying47
  a213 := Tryd.isAgg47
  z213 := Tryd.sizeOf47
  t232 := Tryd.underlying51
  a232 := Tryd.isAgg51
  z232 := Tryd.sizeOf51
  v232 := Tryd.zeroValue51
  t233 := Tryd.underlying52
  a233 := Tryd.isAgg52
  z233 := Tryd.sizeOf52
  v233 := Tryd.zeroValue52
  g17 := by kernel_rfl
  g18 := by kernel_rfl
  g19 := by kernel_rfl }
end Go.Proofs

-- XstrconvItoa13F13
namespace Go.Proofs.YtfibaganajembaaDoor.X
open Ho (bS eS)
open Go.RowKit Go.Proofs.YtfibaganajembaaDoorW.PrintWords Go.Proofs.YtfibaganajembaaDoorW.PrintLast Go.Proofs.YtfibaganajembaaDoorW.PrintMore
attribute [local go_sem] max2_int min2_int max_two min_two max_three min_three max_four min_four   -- for this text's walks alone
set_option linter.unusedVariables false
set_option linter.unusedSimpArgs false

/-! ### strconv_Itoa_13: function 13 -/
def strconv_Itoa_13.f (a0 : Int) : Option (ByteArray) := if 0 ≤ a0 ∧ a0 < 100 then some ⟨(Go.Lib.decDigits a0.toNat).toArray⟩ else none
theorem strconv_Itoa_13.calls (a0 : Int) (r : ByteArray) (w : World) (h : strconv_Itoa_13.f a0 = some r) :
    Calls Tryd.prog 13 #[.int .i64 a0] w fun e w' => e = .returned (.string r) ∧ Drawn0 w w' := by
  unfold strconv_Itoa_13.f at h
  split at h
  · rename_i hc
    obtain rfl := Option.some.inj h
    have ha : (a0.toNat : Int) = a0 := by omega
    have hx := Any.strconv_Itoa_small Tryd.lays171 a0.toNat (by omega) w
    rw [ha] at hx
    exact hx.mono (fun e w' h => ⟨h.1, by rw [h.2]; exact Drawn0.refl _⟩)
  · exact absurd h (by simp)

end Go.Proofs.YtfibaganajembaaDoor.X

-- XimpldecimalF12
namespace Go.Proofs.YtfibaganajembaaDoor.X
open Ho (bS eS)
open Go.RowKit Go.Proofs.YtfibaganajembaaDoorW.PrintWords Go.Proofs.YtfibaganajembaaDoorW.PrintLast Go.Proofs.YtfibaganajembaaDoorW.PrintMore
attribute [local go_sem] max2_int min2_int max_two min_two max_three min_three max_four min_four   -- for this text's walks alone
set_option linter.unusedVariables false
set_option linter.unusedSimpArgs false

/-! ### impl_decimal: function 12 -/
def impl_decimal.f (a0 : Int) : Option (ByteArray) := (strconv_Itoa_13.f a0).bind fun t101 => (some t101)
set_option maxHeartbeats 8000000 in
set_option maxRecDepth 100000 in
theorem impl_decimal.calls (a0 : Int) (r : ByteArray) (w : World) (h : impl_decimal.f a0 = some r) :
    Calls Tryd.prog 12 #[.int .i64 a0] w fun e w' => e = .returned (.string r) ∧ Drawn0 w w' := by
  have H : ((strconv_Itoa_13.f a0).bind fun t101 => (some t101)) = some r := h
  clear h
  replace H := Option.bind_eq_some_iff.mp H
  obtain ⟨t101, A20, H⟩ := H
  replace H : (some t101) = some r := H
  have A2 := Aside0.mk A20
  clear A20
  obtain rfl := Option.some.inj H
  go_enter Tryd.func12, Tryd.ntmps12
  go_wp2_with (first | ((with_reducible refine gate_callee (f := 13) rfl ?_); refine goesL_ (some 4) rfl rfl Tryd.func13 (by kernel_rfl) rfl #[.int .i64 a0] rfl (by (try simp only [List.map_toArray, List.map_cons, List.map_nil]); first | done | rfl | (simp only [List.length_drop, List.length_take]; rfl)) ?_; (with_reducible refine (strconv_Itoa_13.calls a0 t101 _ A2.out).mono ?_); rintro e w' ⟨rfl, ⟨nd, rfl⟩⟩; refine ⟨_, rfl, ?_⟩))
  go_ret
  exact ⟨by first | rfl | (simp; done) | (simp [*]; done), by repeat (first | exact Drawn0.refl _ | apply Drawn0.step)⟩

end Go.Proofs.YtfibaganajembaaDoor.X

-- XimplinF11
namespace Go.Proofs.YtfibaganajembaaDoor.X
open Ho (bS eS)
open Go.RowKit Go.Proofs.YtfibaganajembaaDoorW.PrintWords Go.Proofs.YtfibaganajembaaDoorW.PrintLast Go.Proofs.YtfibaganajembaaDoorW.PrintMore
attribute [local go_sem] max2_int min2_int max_two min_two max_three min_three max_four min_four   -- for this text's walks alone
set_option linter.unusedVariables false
set_option linter.unusedSimpArgs false

/-! ### impl_in: function 11 -/
def impl_in.f (a0 : Int) (a1 : Int) (a2 : Int) : Option (Bool) := if a0 ≥ a1 then (some (decide (a0 ≤ a2))) else (some false)
set_option maxHeartbeats 8000000 in
set_option maxRecDepth 100000 in
theorem impl_in.calls (a0 : Int) (a1 : Int) (a2 : Int) (r : Bool) (w : World) (h : impl_in.f a0 a1 a2 = some r) :
    Calls Tryd.prog 11 #[.int .i64 a0, .int .i64 a1, .int .i64 a2] w fun e w' => e = .returned (.bool r) ∧ Drawn0 w w' := by
  have H : (if a0 ≥ a1 then (some (decide (a0 ≤ a2))) else (some false)) = some r := h
  clear h
  by_cases c4 : a0 ≥ a1
  · rw [if_pos c4] at H
    have c4b0 : decide (a1 ≤ a0) = true := decide_eq_true c4
    clear c4
    obtain rfl := Option.some.inj H
    go_enter Tryd.func11, Tryd.ntmps11
    go_wp2
    go_ret
    exact ⟨by first | rfl | (simp; done) | (simp [*]; done), by repeat (first | exact Drawn0.refl _ | apply Drawn0.step)⟩
  · rw [if_neg c4] at H
    have c4b0 : decide (a1 ≤ a0) = false := decide_eq_false c4
    clear c4
    obtain rfl := Option.some.inj H
    go_enter Tryd.func11, Tryd.ntmps11
    go_wp2
    go_ret
    exact ⟨by first | rfl | (simp; done) | (simp [*]; done), by repeat (first | exact Drawn0.refl _ | apply Drawn0.step)⟩

end Go.Proofs.YtfibaganajembaaDoor.X

-- XimplisFlawKindF10
namespace Go.Proofs.YtfibaganajembaaDoor.X
open Ho (bS eS)
open Go.RowKit Go.Proofs.YtfibaganajembaaDoorW.PrintWords Go.Proofs.YtfibaganajembaaDoorW.PrintLast Go.Proofs.YtfibaganajembaaDoorW.PrintMore
attribute [local go_sem] max2_int min2_int max_two min_two max_three min_three max_four min_four   -- for this text's walks alone
set_option linter.unusedVariables false
set_option linter.unusedSimpArgs false

/-! ### impl_isFlawKind: function 10 -/
def impl_isFlawKind.f (a0 : Int) : Option (Bool) := (impl_in.f a0 0 4).bind fun t101 => (some t101)
set_option maxHeartbeats 8000000 in
set_option maxRecDepth 100000 in
theorem impl_isFlawKind.calls (a0 : Int) (r : Bool) (w : World) (h : impl_isFlawKind.f a0 = some r) :
    Calls Tryd.prog 10 #[.int .i64 a0] w fun e w' => e = .returned (.bool r) ∧ Drawn0 w w' := by
  have H : ((impl_in.f a0 0 4).bind fun t101 => (some t101)) = some r := h
  clear h
  replace H := Option.bind_eq_some_iff.mp H
  obtain ⟨t101, A20, H⟩ := H
  replace H : (some t101) = some r := H
  have A2 := Aside0.mk A20
  clear A20
  obtain rfl := Option.some.inj H
  go_enter Tryd.func10, Tryd.ntmps10
  go_wp2_with (first | ((with_reducible refine gate_callee (f := 11) rfl ?_); refine goesL_ (some 4) rfl rfl Tryd.func11 (by kernel_rfl) rfl #[.int .i64 a0, .int .i64 0, .int .i64 4] rfl (by (try simp only [List.map_toArray, List.map_cons, List.map_nil]); first | done | rfl | (simp only [List.length_drop, List.length_take]; rfl)) ?_; (with_reducible refine (impl_in.calls a0 0 4 t101 _ A2.out).mono ?_); rintro e w' ⟨rfl, ⟨nd, rfl⟩⟩; refine ⟨_, rfl, ?_⟩))
  go_ret
  exact ⟨by first | rfl | (simp; done) | (simp [*]; done), by repeat (first | exact Drawn0.refl _ | apply Drawn0.step)⟩

end Go.Proofs.YtfibaganajembaaDoor.X

-- XimplFlawTextF6
namespace Go.Proofs.YtfibaganajembaaDoor.X
open Ho (bS eS)
open Go.RowKit Go.Proofs.YtfibaganajembaaDoorW.PrintWords Go.Proofs.YtfibaganajembaaDoorW.PrintLast Go.Proofs.YtfibaganajembaaDoorW.PrintMore
attribute [local go_sem] max2_int min2_int max_two min_two max_three min_three max_four min_four   -- for this text's walks alone
set_option linter.unusedVariables false
set_option linter.unusedSimpArgs false

/-! ### impl_FlawText: function 6 -/
def impl_FlawText.f (a0_0 : Int) (a0_1 : Int) (a0_2 : Int) (a0_3 : Int) : Option (ByteArray × Bool) :=
  (impl_isFlawKind.f a0_0).bind fun t1 => if t1 = true then (impl_in.f a0_3 1 9).bind fun t2 => if t2 = true then (impl_in.f a0_1 0 7).bind fun t3 => if t3 = true then (impl_in.f a0_2 0 7).bind fun t4 => if t4 = true then (if a0_0 = 0 then some (⟨#[107, 110, 111, 116]⟩ : ByteArray) else if a0_0 = 1 then some (⟨#[101, 100, 103, 101]⟩ : ByteArray) else if a0_0 = 2 then some (⟨#[115, 116, 97, 105, 110]⟩ : ByteArray) else if a0_0 = 3 then some (⟨#[115, 107, 101, 119]⟩ : ByteArray) else if a0_0 = 4 then some (⟨#[98, 111, 114, 100, 101, 114]⟩ : ByteArray) else none).bind fun m => (impl_decimal.f a0_1).bind fun s1 => (impl_decimal.f a0_2).bind fun s2 => (impl_decimal.f a0_3).bind fun s3 => if s1.size ≤ 100 ∧ s2.size ≤ 100 ∧ s3.size ≤ 100 then some (((((((m ++ (⟨#[32]⟩ : ByteArray)) ++ s3) ++ (⟨#[32, 97, 116, 32]⟩ : ByteArray)) ++ s1) ++ (⟨#[47]⟩ : ByteArray)) ++ s2), true) else none else some ((⟨#[]⟩ : ByteArray), false) else some ((⟨#[]⟩ : ByteArray), false) else some ((⟨#[]⟩ : ByteArray), false) else some ((⟨#[]⟩ : ByteArray), false)
set_option maxHeartbeats 8000000 in
set_option maxRecDepth 100000 in
theorem impl_FlawText.at0 (a0_1 : Int) (a0_2 : Int) (a0_3 : Int) (s1 s2 s3 : ByteArray) (w : World) (hk : impl_isFlawKind.f 0 = some true) (h3 : impl_in.f a0_3 1 9 = some true) (h1 : impl_in.f a0_1 0 7 = some true) (h2 : impl_in.f a0_2 0 7 = some true) (d1 : impl_decimal.f a0_1 = some s1) (d2 : impl_decimal.f a0_2 = some s2) (d3 : impl_decimal.f a0_3 = some s3) (z1 : s1.size ≤ 100) (z2 : s2.size ≤ 100) (z3 : s3.size ≤ 100) :
    Calls Tryd.prog 6 #[.agg #[.int .i64 0, .int .i64 a0_1, .int .i64 a0_2, .int .i64 a0_3]] w fun e w' => e = .returned (.tuple #[.string ((((((((⟨#[107, 110, 111, 116]⟩ : ByteArray) ++ (⟨#[32]⟩ : ByteArray)) ++ s3) ++ (⟨#[32, 97, 116, 32]⟩ : ByteArray)) ++ s1) ++ (⟨#[47]⟩ : ByteArray)) ++ s2)), .bool true]) ∧ Below w.heap.size w w' := by
  have H3_ := Aside0.mk h3
  have H1_ := Aside0.mk h1
  have H2_ := Aside0.mk h2
  have HK_ := Aside0.mk hk
  clear hk h3 h1 h2
  have D1_ := Aside0.mk d1
  have D2_ := Aside0.mk d2
  have D3_ := Aside0.mk d3
  clear d1 d2 d3
  go_enter Tryd.func6, Tryd.ntmps6
  go_wp2_with (first | (go_at_call 10; (with_reducible refine (impl_isFlawKind.calls 0 true _ HK_.out).mono ?_); rintro e w' ⟨rfl, ⟨nd, rfl⟩⟩) | (go_at_call 11; (with_reducible refine (impl_in.calls a0_3 1 9 true _ H3_.out).mono ?_); rintro e w' ⟨rfl, ⟨nd, rfl⟩⟩) | (go_at_call 11; (with_reducible refine (impl_in.calls a0_1 0 7 true _ H1_.out).mono ?_); rintro e w' ⟨rfl, ⟨nd, rfl⟩⟩) | (go_at_call 11; (with_reducible refine (impl_in.calls a0_2 0 7 true _ H2_.out).mono ?_); rintro e w' ⟨rfl, ⟨nd, rfl⟩⟩))
  go_quiet ((go_at_call 12; first | exact Calls.quiet_of ((impl_decimal.calls a0_3 s3 _ D3_.out).mono fun e w' h => ⟨h.1, h.2.out⟩) | exact Calls.quiet_of ((impl_decimal.calls a0_1 s1 _ D1_.out).mono fun e w' h => ⟨h.1, h.2.out⟩) | exact Calls.quiet_of ((impl_decimal.calls a0_2 s2 _ D2_.out).mono fun e w' h => ⟨h.1, h.2.out⟩)))
  try go_wp2
  go_ret2
  exact ⟨by first | rfl | (simp; done), by repeat (first | exact Below.refl _ _ | apply below_alloc | apply pw_below_drewN | apply below_drew1)⟩
set_option maxHeartbeats 8000000 in
set_option maxRecDepth 100000 in
theorem impl_FlawText.at1 (a0_1 : Int) (a0_2 : Int) (a0_3 : Int) (s1 s2 s3 : ByteArray) (w : World) (hk : impl_isFlawKind.f 1 = some true) (h3 : impl_in.f a0_3 1 9 = some true) (h1 : impl_in.f a0_1 0 7 = some true) (h2 : impl_in.f a0_2 0 7 = some true) (d1 : impl_decimal.f a0_1 = some s1) (d2 : impl_decimal.f a0_2 = some s2) (d3 : impl_decimal.f a0_3 = some s3) (z1 : s1.size ≤ 100) (z2 : s2.size ≤ 100) (z3 : s3.size ≤ 100) :
    Calls Tryd.prog 6 #[.agg #[.int .i64 1, .int .i64 a0_1, .int .i64 a0_2, .int .i64 a0_3]] w fun e w' => e = .returned (.tuple #[.string ((((((((⟨#[101, 100, 103, 101]⟩ : ByteArray) ++ (⟨#[32]⟩ : ByteArray)) ++ s3) ++ (⟨#[32, 97, 116, 32]⟩ : ByteArray)) ++ s1) ++ (⟨#[47]⟩ : ByteArray)) ++ s2)), .bool true]) ∧ Below w.heap.size w w' := by
  have H3_ := Aside0.mk h3
  have H1_ := Aside0.mk h1
  have H2_ := Aside0.mk h2
  have HK_ := Aside0.mk hk
  clear hk h3 h1 h2
  have D1_ := Aside0.mk d1
  have D2_ := Aside0.mk d2
  have D3_ := Aside0.mk d3
  clear d1 d2 d3
  go_enter Tryd.func6, Tryd.ntmps6
  go_wp2_with (first | (go_at_call 10; (with_reducible refine (impl_isFlawKind.calls 1 true _ HK_.out).mono ?_); rintro e w' ⟨rfl, ⟨nd, rfl⟩⟩) | (go_at_call 11; (with_reducible refine (impl_in.calls a0_3 1 9 true _ H3_.out).mono ?_); rintro e w' ⟨rfl, ⟨nd, rfl⟩⟩) | (go_at_call 11; (with_reducible refine (impl_in.calls a0_1 0 7 true _ H1_.out).mono ?_); rintro e w' ⟨rfl, ⟨nd, rfl⟩⟩) | (go_at_call 11; (with_reducible refine (impl_in.calls a0_2 0 7 true _ H2_.out).mono ?_); rintro e w' ⟨rfl, ⟨nd, rfl⟩⟩))
  go_quiet ((go_at_call 12; first | exact Calls.quiet_of ((impl_decimal.calls a0_3 s3 _ D3_.out).mono fun e w' h => ⟨h.1, h.2.out⟩) | exact Calls.quiet_of ((impl_decimal.calls a0_1 s1 _ D1_.out).mono fun e w' h => ⟨h.1, h.2.out⟩) | exact Calls.quiet_of ((impl_decimal.calls a0_2 s2 _ D2_.out).mono fun e w' h => ⟨h.1, h.2.out⟩)))
  try go_wp2
  go_ret2
  exact ⟨by first | rfl | (simp; done), by repeat (first | exact Below.refl _ _ | apply below_alloc | apply pw_below_drewN | apply below_drew1)⟩
set_option maxHeartbeats 8000000 in
set_option maxRecDepth 100000 in
theorem impl_FlawText.at2 (a0_1 : Int) (a0_2 : Int) (a0_3 : Int) (s1 s2 s3 : ByteArray) (w : World) (hk : impl_isFlawKind.f 2 = some true) (h3 : impl_in.f a0_3 1 9 = some true) (h1 : impl_in.f a0_1 0 7 = some true) (h2 : impl_in.f a0_2 0 7 = some true) (d1 : impl_decimal.f a0_1 = some s1) (d2 : impl_decimal.f a0_2 = some s2) (d3 : impl_decimal.f a0_3 = some s3) (z1 : s1.size ≤ 100) (z2 : s2.size ≤ 100) (z3 : s3.size ≤ 100) :
    Calls Tryd.prog 6 #[.agg #[.int .i64 2, .int .i64 a0_1, .int .i64 a0_2, .int .i64 a0_3]] w fun e w' => e = .returned (.tuple #[.string ((((((((⟨#[115, 116, 97, 105, 110]⟩ : ByteArray) ++ (⟨#[32]⟩ : ByteArray)) ++ s3) ++ (⟨#[32, 97, 116, 32]⟩ : ByteArray)) ++ s1) ++ (⟨#[47]⟩ : ByteArray)) ++ s2)), .bool true]) ∧ Below w.heap.size w w' := by
  have H3_ := Aside0.mk h3
  have H1_ := Aside0.mk h1
  have H2_ := Aside0.mk h2
  have HK_ := Aside0.mk hk
  clear hk h3 h1 h2
  have D1_ := Aside0.mk d1
  have D2_ := Aside0.mk d2
  have D3_ := Aside0.mk d3
  clear d1 d2 d3
  go_enter Tryd.func6, Tryd.ntmps6
  go_wp2_with (first | (go_at_call 10; (with_reducible refine (impl_isFlawKind.calls 2 true _ HK_.out).mono ?_); rintro e w' ⟨rfl, ⟨nd, rfl⟩⟩) | (go_at_call 11; (with_reducible refine (impl_in.calls a0_3 1 9 true _ H3_.out).mono ?_); rintro e w' ⟨rfl, ⟨nd, rfl⟩⟩) | (go_at_call 11; (with_reducible refine (impl_in.calls a0_1 0 7 true _ H1_.out).mono ?_); rintro e w' ⟨rfl, ⟨nd, rfl⟩⟩) | (go_at_call 11; (with_reducible refine (impl_in.calls a0_2 0 7 true _ H2_.out).mono ?_); rintro e w' ⟨rfl, ⟨nd, rfl⟩⟩))
  go_quiet ((go_at_call 12; first | exact Calls.quiet_of ((impl_decimal.calls a0_3 s3 _ D3_.out).mono fun e w' h => ⟨h.1, h.2.out⟩) | exact Calls.quiet_of ((impl_decimal.calls a0_1 s1 _ D1_.out).mono fun e w' h => ⟨h.1, h.2.out⟩) | exact Calls.quiet_of ((impl_decimal.calls a0_2 s2 _ D2_.out).mono fun e w' h => ⟨h.1, h.2.out⟩)))
  try go_wp2
  go_ret2
  exact ⟨by first | rfl | (simp; done), by repeat (first | exact Below.refl _ _ | apply below_alloc | apply pw_below_drewN | apply below_drew1)⟩
set_option maxHeartbeats 8000000 in
set_option maxRecDepth 100000 in
theorem impl_FlawText.at3 (a0_1 : Int) (a0_2 : Int) (a0_3 : Int) (s1 s2 s3 : ByteArray) (w : World) (hk : impl_isFlawKind.f 3 = some true) (h3 : impl_in.f a0_3 1 9 = some true) (h1 : impl_in.f a0_1 0 7 = some true) (h2 : impl_in.f a0_2 0 7 = some true) (d1 : impl_decimal.f a0_1 = some s1) (d2 : impl_decimal.f a0_2 = some s2) (d3 : impl_decimal.f a0_3 = some s3) (z1 : s1.size ≤ 100) (z2 : s2.size ≤ 100) (z3 : s3.size ≤ 100) :
    Calls Tryd.prog 6 #[.agg #[.int .i64 3, .int .i64 a0_1, .int .i64 a0_2, .int .i64 a0_3]] w fun e w' => e = .returned (.tuple #[.string ((((((((⟨#[115, 107, 101, 119]⟩ : ByteArray) ++ (⟨#[32]⟩ : ByteArray)) ++ s3) ++ (⟨#[32, 97, 116, 32]⟩ : ByteArray)) ++ s1) ++ (⟨#[47]⟩ : ByteArray)) ++ s2)), .bool true]) ∧ Below w.heap.size w w' := by
  have H3_ := Aside0.mk h3
  have H1_ := Aside0.mk h1
  have H2_ := Aside0.mk h2
  have HK_ := Aside0.mk hk
  clear hk h3 h1 h2
  have D1_ := Aside0.mk d1
  have D2_ := Aside0.mk d2
  have D3_ := Aside0.mk d3
  clear d1 d2 d3
  go_enter Tryd.func6, Tryd.ntmps6
  go_wp2_with (first | (go_at_call 10; (with_reducible refine (impl_isFlawKind.calls 3 true _ HK_.out).mono ?_); rintro e w' ⟨rfl, ⟨nd, rfl⟩⟩) | (go_at_call 11; (with_reducible refine (impl_in.calls a0_3 1 9 true _ H3_.out).mono ?_); rintro e w' ⟨rfl, ⟨nd, rfl⟩⟩) | (go_at_call 11; (with_reducible refine (impl_in.calls a0_1 0 7 true _ H1_.out).mono ?_); rintro e w' ⟨rfl, ⟨nd, rfl⟩⟩) | (go_at_call 11; (with_reducible refine (impl_in.calls a0_2 0 7 true _ H2_.out).mono ?_); rintro e w' ⟨rfl, ⟨nd, rfl⟩⟩))
  go_quiet ((go_at_call 12; first | exact Calls.quiet_of ((impl_decimal.calls a0_3 s3 _ D3_.out).mono fun e w' h => ⟨h.1, h.2.out⟩) | exact Calls.quiet_of ((impl_decimal.calls a0_1 s1 _ D1_.out).mono fun e w' h => ⟨h.1, h.2.out⟩) | exact Calls.quiet_of ((impl_decimal.calls a0_2 s2 _ D2_.out).mono fun e w' h => ⟨h.1, h.2.out⟩)))
  try go_wp2
  go_ret2
  exact ⟨by first | rfl | (simp; done), by repeat (first | exact Below.refl _ _ | apply below_alloc | apply pw_below_drewN | apply below_drew1)⟩
set_option maxHeartbeats 8000000 in
set_option maxRecDepth 100000 in
theorem impl_FlawText.at4 (a0_1 : Int) (a0_2 : Int) (a0_3 : Int) (s1 s2 s3 : ByteArray) (w : World) (hk : impl_isFlawKind.f 4 = some true) (h3 : impl_in.f a0_3 1 9 = some true) (h1 : impl_in.f a0_1 0 7 = some true) (h2 : impl_in.f a0_2 0 7 = some true) (d1 : impl_decimal.f a0_1 = some s1) (d2 : impl_decimal.f a0_2 = some s2) (d3 : impl_decimal.f a0_3 = some s3) (z1 : s1.size ≤ 100) (z2 : s2.size ≤ 100) (z3 : s3.size ≤ 100) :
    Calls Tryd.prog 6 #[.agg #[.int .i64 4, .int .i64 a0_1, .int .i64 a0_2, .int .i64 a0_3]] w fun e w' => e = .returned (.tuple #[.string ((((((((⟨#[98, 111, 114, 100, 101, 114]⟩ : ByteArray) ++ (⟨#[32]⟩ : ByteArray)) ++ s3) ++ (⟨#[32, 97, 116, 32]⟩ : ByteArray)) ++ s1) ++ (⟨#[47]⟩ : ByteArray)) ++ s2)), .bool true]) ∧ Below w.heap.size w w' := by
  have H3_ := Aside0.mk h3
  have H1_ := Aside0.mk h1
  have H2_ := Aside0.mk h2
  have HK_ := Aside0.mk hk
  clear hk h3 h1 h2
  have D1_ := Aside0.mk d1
  have D2_ := Aside0.mk d2
  have D3_ := Aside0.mk d3
  clear d1 d2 d3
  go_enter Tryd.func6, Tryd.ntmps6
  go_wp2_with (first | (go_at_call 10; (with_reducible refine (impl_isFlawKind.calls 4 true _ HK_.out).mono ?_); rintro e w' ⟨rfl, ⟨nd, rfl⟩⟩) | (go_at_call 11; (with_reducible refine (impl_in.calls a0_3 1 9 true _ H3_.out).mono ?_); rintro e w' ⟨rfl, ⟨nd, rfl⟩⟩) | (go_at_call 11; (with_reducible refine (impl_in.calls a0_1 0 7 true _ H1_.out).mono ?_); rintro e w' ⟨rfl, ⟨nd, rfl⟩⟩) | (go_at_call 11; (with_reducible refine (impl_in.calls a0_2 0 7 true _ H2_.out).mono ?_); rintro e w' ⟨rfl, ⟨nd, rfl⟩⟩))
  go_quiet ((go_at_call 12; first | exact Calls.quiet_of ((impl_decimal.calls a0_3 s3 _ D3_.out).mono fun e w' h => ⟨h.1, h.2.out⟩) | exact Calls.quiet_of ((impl_decimal.calls a0_1 s1 _ D1_.out).mono fun e w' h => ⟨h.1, h.2.out⟩) | exact Calls.quiet_of ((impl_decimal.calls a0_2 s2 _ D2_.out).mono fun e w' h => ⟨h.1, h.2.out⟩)))
  try go_wp2
  go_ret2
  exact ⟨by first | rfl | (simp; done), by repeat (first | exact Below.refl _ _ | apply below_alloc | apply pw_below_drewN | apply below_drew1)⟩
set_option maxHeartbeats 8000000 in
set_option maxRecDepth 100000 in
theorem impl_FlawText.no0 (a0_0 : Int) (a0_1 : Int) (a0_2 : Int) (a0_3 : Int) (w : World) (hk : impl_isFlawKind.f a0_0 = some false) :
    Calls Tryd.prog 6 #[.agg #[.int .i64 a0_0, .int .i64 a0_1, .int .i64 a0_2, .int .i64 a0_3]] w fun e w' => e = .returned (.tuple #[.string (⟨#[]⟩ : ByteArray), .bool false]) ∧ Below w.heap.size w w' := by
  have HK_ := Aside0.mk hk
  clear hk
  go_enter Tryd.func6, Tryd.ntmps6
  go_wp2_with (first | (go_at_call 10; (with_reducible refine (impl_isFlawKind.calls a0_0 false _ HK_.out).mono ?_); rintro e w' ⟨rfl, ⟨nd, rfl⟩⟩))
  go_ret2
  exact ⟨by first | rfl | (simp; done), by repeat (first | exact Below.refl _ _ | apply below_alloc | apply pw_below_drewN | apply below_drew1)⟩
set_option maxHeartbeats 8000000 in
set_option maxRecDepth 100000 in
theorem impl_FlawText.no1 (a0_0 : Int) (a0_1 : Int) (a0_2 : Int) (a0_3 : Int) (w : World) (hk : impl_isFlawKind.f a0_0 = some true) (h3 : impl_in.f a0_3 1 9 = some false) :
    Calls Tryd.prog 6 #[.agg #[.int .i64 a0_0, .int .i64 a0_1, .int .i64 a0_2, .int .i64 a0_3]] w fun e w' => e = .returned (.tuple #[.string (⟨#[]⟩ : ByteArray), .bool false]) ∧ Below w.heap.size w w' := by
  have H3_ := Aside0.mk h3
  have HK_ := Aside0.mk hk
  clear hk h3
  go_enter Tryd.func6, Tryd.ntmps6
  go_wp2_with (first | (go_at_call 10; (with_reducible refine (impl_isFlawKind.calls a0_0 true _ HK_.out).mono ?_); rintro e w' ⟨rfl, ⟨nd, rfl⟩⟩) | (go_at_call 11; (with_reducible refine (impl_in.calls a0_3 1 9 false _ H3_.out).mono ?_); rintro e w' ⟨rfl, ⟨nd, rfl⟩⟩))
  go_ret2
  exact ⟨by first | rfl | (simp; done), by repeat (first | exact Below.refl _ _ | apply below_alloc | apply pw_below_drewN | apply below_drew1)⟩
set_option maxHeartbeats 8000000 in
set_option maxRecDepth 100000 in
theorem impl_FlawText.no2 (a0_0 : Int) (a0_1 : Int) (a0_2 : Int) (a0_3 : Int) (w : World) (hk : impl_isFlawKind.f a0_0 = some true) (h3 : impl_in.f a0_3 1 9 = some true) (h1 : impl_in.f a0_1 0 7 = some false) :
    Calls Tryd.prog 6 #[.agg #[.int .i64 a0_0, .int .i64 a0_1, .int .i64 a0_2, .int .i64 a0_3]] w fun e w' => e = .returned (.tuple #[.string (⟨#[]⟩ : ByteArray), .bool false]) ∧ Below w.heap.size w w' := by
  have H3_ := Aside0.mk h3
  have H1_ := Aside0.mk h1
  have HK_ := Aside0.mk hk
  clear hk h3 h1
  go_enter Tryd.func6, Tryd.ntmps6
  go_wp2_with (first | (go_at_call 10; (with_reducible refine (impl_isFlawKind.calls a0_0 true _ HK_.out).mono ?_); rintro e w' ⟨rfl, ⟨nd, rfl⟩⟩) | (go_at_call 11; (with_reducible refine (impl_in.calls a0_3 1 9 true _ H3_.out).mono ?_); rintro e w' ⟨rfl, ⟨nd, rfl⟩⟩) | (go_at_call 11; (with_reducible refine (impl_in.calls a0_1 0 7 false _ H1_.out).mono ?_); rintro e w' ⟨rfl, ⟨nd, rfl⟩⟩))
  go_ret2
  exact ⟨by first | rfl | (simp; done), by repeat (first | exact Below.refl _ _ | apply below_alloc | apply pw_below_drewN | apply below_drew1)⟩
set_option maxHeartbeats 8000000 in
set_option maxRecDepth 100000 in
theorem impl_FlawText.no3 (a0_0 : Int) (a0_1 : Int) (a0_2 : Int) (a0_3 : Int) (w : World) (hk : impl_isFlawKind.f a0_0 = some true) (h3 : impl_in.f a0_3 1 9 = some true) (h1 : impl_in.f a0_1 0 7 = some true) (h2 : impl_in.f a0_2 0 7 = some false) :
    Calls Tryd.prog 6 #[.agg #[.int .i64 a0_0, .int .i64 a0_1, .int .i64 a0_2, .int .i64 a0_3]] w fun e w' => e = .returned (.tuple #[.string (⟨#[]⟩ : ByteArray), .bool false]) ∧ Below w.heap.size w w' := by
  have H3_ := Aside0.mk h3
  have H1_ := Aside0.mk h1
  have H2_ := Aside0.mk h2
  have HK_ := Aside0.mk hk
  clear hk h3 h1 h2
  go_enter Tryd.func6, Tryd.ntmps6
  go_wp2_with (first | (go_at_call 10; (with_reducible refine (impl_isFlawKind.calls a0_0 true _ HK_.out).mono ?_); rintro e w' ⟨rfl, ⟨nd, rfl⟩⟩) | (go_at_call 11; (with_reducible refine (impl_in.calls a0_3 1 9 true _ H3_.out).mono ?_); rintro e w' ⟨rfl, ⟨nd, rfl⟩⟩) | (go_at_call 11; (with_reducible refine (impl_in.calls a0_1 0 7 true _ H1_.out).mono ?_); rintro e w' ⟨rfl, ⟨nd, rfl⟩⟩) | (go_at_call 11; (with_reducible refine (impl_in.calls a0_2 0 7 false _ H2_.out).mono ?_); rintro e w' ⟨rfl, ⟨nd, rfl⟩⟩))
  go_ret2
  exact ⟨by first | rfl | (simp; done), by repeat (first | exact Below.refl _ _ | apply below_alloc | apply pw_below_drewN | apply below_drew1)⟩
theorem impl_FlawText.calls (a0_0 : Int) (a0_1 : Int) (a0_2 : Int) (a0_3 : Int) (r1 : ByteArray) (r2 : Bool) (w : World) (h : impl_FlawText.f a0_0 a0_1 a0_2 a0_3 = some (r1, r2)) :
    Calls Tryd.prog 6 #[.agg #[.int .i64 a0_0, .int .i64 a0_1, .int .i64 a0_2, .int .i64 a0_3]] w fun e w' => e = .returned (.tuple #[.string r1, .bool r2]) ∧ Below w.heap.size w w' := by
  unfold impl_FlawText.f at h
  obtain ⟨t1, hk, h⟩ := Option.bind_eq_some_iff.mp h
  cases t1 with
  | false =>
    rw [if_neg (by decide)] at h
    obtain ⟨rfl, rfl⟩ := Prod.mk.inj (Option.some.inj h)
    exact impl_FlawText.no0 _ _ _ _ w hk
  | true =>
    rw [if_pos rfl] at h
    obtain ⟨t2, h3, h⟩ := Option.bind_eq_some_iff.mp h
    cases t2 with
    | false =>
      rw [if_neg (by decide)] at h
      obtain ⟨rfl, rfl⟩ := Prod.mk.inj (Option.some.inj h)
      exact impl_FlawText.no1 _ _ _ _ w hk h3
    | true =>
      rw [if_pos rfl] at h
      obtain ⟨t3, h1, h⟩ := Option.bind_eq_some_iff.mp h
      cases t3 with
      | false =>
        rw [if_neg (by decide)] at h
        obtain ⟨rfl, rfl⟩ := Prod.mk.inj (Option.some.inj h)
        exact impl_FlawText.no2 _ _ _ _ w hk h3 h1
      | true =>
        rw [if_pos rfl] at h
        obtain ⟨t4, h2, h⟩ := Option.bind_eq_some_iff.mp h
        cases t4 with
        | false =>
          rw [if_neg (by decide)] at h
          obtain ⟨rfl, rfl⟩ := Prod.mk.inj (Option.some.inj h)
          exact impl_FlawText.no3 _ _ _ _ w hk h3 h1 h2
        | true =>
          rw [if_pos rfl] at h
          obtain ⟨m, hm, h⟩ := Option.bind_eq_some_iff.mp h
          obtain ⟨s1, d1, h⟩ := Option.bind_eq_some_iff.mp h
          obtain ⟨s2, d2, h⟩ := Option.bind_eq_some_iff.mp h
          obtain ⟨s3, d3, h⟩ := Option.bind_eq_some_iff.mp h
          by_cases hz : s1.size ≤ 100 ∧ s2.size ≤ 100 ∧ s3.size ≤ 100
          · rw [if_pos hz] at h
            obtain ⟨rfl, rfl⟩ := Prod.mk.inj (Option.some.inj h)
            by_cases k0 : a0_0 = 0
            · subst k0
              obtain rfl : (⟨#[107, 110, 111, 116]⟩ : ByteArray) = m := by simpa using hm
              exact impl_FlawText.at0 _ _ _ _ _ _ w hk h3 h1 h2 d1 d2 d3 hz.1 hz.2.1 hz.2.2
            by_cases k1 : a0_0 = 1
            · subst k1
              obtain rfl : (⟨#[101, 100, 103, 101]⟩ : ByteArray) = m := by simpa using hm
              exact impl_FlawText.at1 _ _ _ _ _ _ w hk h3 h1 h2 d1 d2 d3 hz.1 hz.2.1 hz.2.2
            by_cases k2 : a0_0 = 2
            · subst k2
              obtain rfl : (⟨#[115, 116, 97, 105, 110]⟩ : ByteArray) = m := by simpa using hm
              exact impl_FlawText.at2 _ _ _ _ _ _ w hk h3 h1 h2 d1 d2 d3 hz.1 hz.2.1 hz.2.2
            by_cases k3 : a0_0 = 3
            · subst k3
              obtain rfl : (⟨#[115, 107, 101, 119]⟩ : ByteArray) = m := by simpa using hm
              exact impl_FlawText.at3 _ _ _ _ _ _ w hk h3 h1 h2 d1 d2 d3 hz.1 hz.2.1 hz.2.2
            by_cases k4 : a0_0 = 4
            · subst k4
              obtain rfl : (⟨#[98, 111, 114, 100, 101, 114]⟩ : ByteArray) = m := by simpa using hm
              exact impl_FlawText.at4 _ _ _ _ _ _ w hk h3 h1 h2 d1 d2 d3 hz.1 hz.2.1 hz.2.2
            exact absurd hm (by simp [k0, k1, k2, k3, k4])
          · rw [if_neg hz] at h; exact absurd h (by simp)


end Go.Proofs.YtfibaganajembaaDoor.X

-- XlawstoFlawF5
namespace Go.Proofs.YtfibaganajembaaDoor.X
open Ho (bS eS)
open Go.RowKit Go.Proofs.YtfibaganajembaaDoorW.PrintWords Go.Proofs.YtfibaganajembaaDoorW.PrintLast Go.Proofs.YtfibaganajembaaDoorW.PrintMore
attribute [local go_sem] max2_int min2_int max_two min_two max_three min_three max_four min_four   -- for this text's walks alone
set_option linter.unusedVariables false
set_option linter.unusedSimpArgs false

attribute [local go_sem ↓] Ho.isSome_setCell_   -- a store leaves all places there
/-! ### laws_toFlaw: function 5 -/
def laws_toFlaw.f (a0_0 : Int) (a0_1 : Int) (a0_2 : Int) (a0_3 : Int) : Option (Int × Int × Int × Int) := some (a0_0, a0_1, a0_2, a0_3)
set_option maxHeartbeats 8000000 in
set_option maxRecDepth 100000 in
theorem laws_toFlaw.calls (a0_0 : Int) (a0_1 : Int) (a0_2 : Int) (a0_3 : Int) (r1 : Int) (r2 : Int) (r3 : Int) (r4 : Int) (w : World) (h : laws_toFlaw.f a0_0 a0_1 a0_2 a0_3 = some (r1, r2, r3, r4)) :
    Calls Tryd.prog 5 #[.agg #[.int .i64 a0_0, .int .i64 a0_1, .int .i64 a0_2, .int .i64 a0_3]] w fun e w' => e = .returned (.agg #[.int .i64 r1, .int .i64 r2, .int .i64 r3, .int .i64 r4]) ∧ Below w.heap.size w w' := by
  have hu23 := Tryd.underlying23
  have hu26 := Tryd.underlying26
  have HB := Aside0.mk (Below.refl w.heap.size w)
  have H : (some (a0_0, a0_1, a0_2, a0_3)) = some (r1, r2, r3, r4) := h
  clear h
  simp only [Option.some.injEq, Prod.mk.injEq] at H
  obtain ⟨rfl, rfl, rfl, rfl⟩ := H
  go_enter Tryd.func5, Tryd.ntmps5
  go_wp2_with (first | ((with_reducible refine gate_dst (N := 1) rfl ?_); refine box_event ?hg (N := 1) ?hd (cs := #[.int .i64 a0_0, .int .i64 a0_1, .int .i64 a0_2, .int .i64 a0_3]) (t := 23) ?hr ?_; (case hd => rfl); (case hg => rfl); (case hr => first | (go_simp; done) | (go_simp; rfl)); intro gb101 hg w2 hbox hb; have n0_ := Aside0.mk (below_step (by exact eS HB.out) hb); have n1_ := Aside0.mk (hbox); have n2_ := Aside0.mk ((by rw [hg]; exact (below_size (by exact eS HB.out)) : w.heap.size ≤ gb101)); have n3_ := Aside0.mk ((by rw [hg]; exact (below_size (by exact eS HB.out)) : w.heap.size ≤ gb101)); clear HB; have HB := n0_; have BK101 := n1_; have GW101 := n2_; have GE101 := n3_; clear n0_ n1_ n2_ n3_; clear hb hbox hg) | ((with_reducible refine gate_dst (N := 2) rfl ?_); refine box_event ?hg (N := 2) ?hd (cs := #[.int .i64 0, .int .i64 0, .int .i64 0, .int .i64 0]) (t := 26) ?hr ?_; (case hd => rfl); (case hg => rfl); (case hr => first | (go_simp; done) | (go_simp; rfl)); intro gb102 hg w3 hbox hb; have n0_ := Aside0.mk (blk_below (bS BK101.out) hb); have n1_ := Aside0.mk (below_step (by exact eS HB.out) hb); have n2_ := Aside0.mk (hbox); have n3_ := Aside0.mk ((by rw [hg]; exact (below_size (by exact eS HB.out)) : w.heap.size ≤ gb102)); have n4_ := Aside0.mk ((by rw [hg]; exact (below_size (by exact eS HB.out)) : w.heap.size ≤ gb102)); have n5_ := Aside0.mk ((by rw [hg]; exact Nat.ne_of_lt (blk_lt (bS BK101.out)) : gb101 ≠ gb102)); have n6_ := Aside0.mk ((by rw [hg]; exact Nat.ne_of_gt (blk_lt (bS BK101.out)) : gb102 ≠ gb101)); clear BK101; clear HB; have BK101 := n0_; have HB := n1_; have BK102 := n2_; have GW102 := n3_; have GE102 := n4_; have NB101_102 := n5_; have NB102_101 := n6_; clear n0_ n1_ n2_ n3_ n4_ n5_ n6_; clear hb hbox hg) | ((with_reducible refine gate_dst (N := 3) rfl ?_); refine box_event ?hg (N := 3) ?hd (cs := #[.int .i64 0, .int .i64 0, .int .i64 0, .int .i64 0]) (t := 26) ?hr ?_; (case hd => rfl); (case hg => rfl); (case hr => first | (go_simp; done) | (go_simp; rfl)); intro gb103 hg w4 hbox hb; have n0_ := Aside0.mk (blk_below (bS BK101.out) hb); have n1_ := Aside0.mk (blk_below (bS BK102.out) hb); have n2_ := Aside0.mk (below_step (by exact eS HB.out) hb); have n3_ := Aside0.mk (hbox); have n4_ := Aside0.mk ((by rw [hg]; exact (below_size (by exact eS HB.out)) : w.heap.size ≤ gb103)); have n5_ := Aside0.mk ((by rw [hg]; exact (below_size (by exact eS HB.out)) : w.heap.size ≤ gb103)); have n6_ := Aside0.mk ((by rw [hg]; exact Nat.ne_of_lt (blk_lt (bS BK101.out)) : gb101 ≠ gb103)); have n7_ := Aside0.mk ((by rw [hg]; exact Nat.ne_of_gt (blk_lt (bS BK101.out)) : gb103 ≠ gb101)); have n8_ := Aside0.mk ((by rw [hg]; exact Nat.ne_of_lt (blk_lt (bS BK102.out)) : gb102 ≠ gb103)); have n9_ := Aside0.mk ((by rw [hg]; exact Nat.ne_of_gt (blk_lt (bS BK102.out)) : gb103 ≠ gb102)); clear BK101; clear BK102; clear HB; have BK101 := n0_; have BK102 := n1_; have HB := n2_; have BK103 := n3_; have GW103 := n4_; have GE103 := n5_; have NB101_103 := n6_; have NB103_101 := n7_; have NB102_103 := n8_; have NB103_102 := n9_; clear n0_ n1_ n2_ n3_ n4_ n5_ n6_ n7_ n8_ n9_; clear hb hbox hg; have hnb5 := NB101_102.out; have hnc5 := NB102_101.out; have hnb6 := NB101_103.out; have hnc6 := NB103_101.out; have hcz7_0 : w4.cell? ⟨gb101, 0, none⟩ = some (.int .i64 a0_0) := (blk_cell BK101.out 0).trans rfl; have hcz7_1 : w4.cell? ⟨gb101, 1, none⟩ = some (.int .i64 a0_1) := (blk_cell BK101.out 1).trans rfl; have hcz7_2 : w4.cell? ⟨gb101, 2, none⟩ = some (.int .i64 a0_2) := (blk_cell BK101.out 2).trans rfl; have hcz7_3 : w4.cell? ⟨gb101, 3, none⟩ = some (.int .i64 a0_3) := (blk_cell BK101.out 3).trans rfl; have hfz7_0 := blk_frozen BK101.out 0; have hfz7_1 := blk_frozen BK101.out 1; have hfz7_2 := blk_frozen BK101.out 2; have hfz7_3 := blk_frozen BK101.out 3; have hnb8 := NB103_102.out; have hnc8 := NB102_103.out; have hcz9_0 : w4.cell? ⟨gb103, 0, none⟩ = some (.int .i64 0) := (blk_cell BK103.out 0).trans rfl; have hcz9_1 : w4.cell? ⟨gb103, 1, none⟩ = some (.int .i64 0) := (blk_cell BK103.out 1).trans rfl; have hcz9_2 : w4.cell? ⟨gb103, 2, none⟩ = some (.int .i64 0) := (blk_cell BK103.out 2).trans rfl; have hcz9_3 : w4.cell? ⟨gb103, 3, none⟩ = some (.int .i64 0) := (blk_cell BK103.out 3).trans rfl; have hfz9_0 := blk_frozen BK103.out 0; have hfz9_1 := blk_frozen BK103.out 1; have hfz9_2 := blk_frozen BK103.out 2; have hfz9_3 := blk_frozen BK103.out 3; have hcz10_0 : w4.cell? ⟨gb102, 0, none⟩ = some (.int .i64 0) := (blk_cell BK102.out 0).trans rfl; have hcz10_1 : w4.cell? ⟨gb102, 1, none⟩ = some (.int .i64 0) := (blk_cell BK102.out 1).trans rfl; have hcz10_2 : w4.cell? ⟨gb102, 2, none⟩ = some (.int .i64 0) := (blk_cell BK102.out 2).trans rfl; have hcz10_3 : w4.cell? ⟨gb102, 3, none⟩ = some (.int .i64 0) := (blk_cell BK102.out 3).trans rfl; have hfz10_0 := blk_frozen BK102.out 0; have hfz10_1 := blk_frozen BK102.out 1; have hfz10_2 := blk_frozen BK102.out 2; have hfz10_3 := blk_frozen BK102.out 3))
  refine bodyPost_ret (results_cell_row rfl _ _ gb102 26 #[.int .i64 a0_0, .int .i64 a0_1, .int .i64 a0_2, .int .i64 a0_3] (0, 0) _ rfl (by (with_reducible repeat (first | refine blk_drewN ?_ _ | refine blk_drew ?_ | refine blk_alloc ?_ _)); refine blk_put (cs := #[.int .i64 a0_0, .int .i64 a0_1, .int .i64 a0_2, .int .i64 0]) ?_ 3 _ rfl; (with_reducible repeat (first | refine blk_drewN ?_ _ | refine blk_drew ?_ | refine blk_alloc ?_ _)); refine blk_put (cs := #[.int .i64 a0_0, .int .i64 a0_1, .int .i64 0, .int .i64 0]) ?_ 2 _ rfl; (with_reducible repeat (first | refine blk_drewN ?_ _ | refine blk_drew ?_ | refine blk_alloc ?_ _)); refine blk_put (cs := #[.int .i64 a0_0, .int .i64 0, .int .i64 0, .int .i64 0]) ?_ 1 _ rfl; (with_reducible repeat (first | refine blk_drewN ?_ _ | refine blk_drew ?_ | refine blk_alloc ?_ _)); refine blk_put (cs := #[.int .i64 0, .int .i64 0, .int .i64 0, .int .i64 0]) ?_ 0 _ rfl; (with_reducible repeat (first | refine blk_drewN ?_ _ | refine blk_drew ?_ | refine blk_alloc ?_ _)); refine blk_far ?_ NB102_103.out _; (with_reducible repeat (first | refine blk_drewN ?_ _ | refine blk_drew ?_ | refine blk_alloc ?_ _)); refine blk_far ?_ NB102_103.out _; (with_reducible repeat (first | refine blk_drewN ?_ _ | refine blk_drew ?_ | refine blk_alloc ?_ _)); refine blk_far ?_ NB102_103.out _; (with_reducible repeat (first | refine blk_drewN ?_ _ | refine blk_drew ?_ | refine blk_alloc ?_ _)); refine blk_far ?_ NB102_103.out _; exact bS BK102.out) Tryd.underlying26 rfl (by kernel_rfl)) rfl ?_
  exact ⟨by first | rfl | (simp [errW_none, errW_some] <;> rfl) | (simp [*, errW_none, errW_some] <;> rfl), by repeat (first | (with_reducible first | exact HB.out | apply below_alloc | apply pw_below_drewN | apply below_drew1 | refine below_set ?_ GE101.out | refine below_set ?_ GE102.out | refine below_set ?_ GE103.out) | exact HB.out)⟩

end Go.Proofs.YtfibaganajembaaDoor.X

-- Xspecl1InF8
namespace Go.Proofs.YtfibaganajembaaDoor.X
open Ho (bS eS)
open Go.RowKit Go.Proofs.YtfibaganajembaaDoorW.PrintWords Go.Proofs.YtfibaganajembaaDoorW.PrintLast Go.Proofs.YtfibaganajembaaDoorW.PrintMore
attribute [local go_sem] max2_int min2_int max_two min_two max_three min_three max_four min_four   -- for this text's walks alone
set_option linter.unusedVariables false
set_option linter.unusedSimpArgs false

/-! ### spec_l1In: function 8 -/
def spec_l1In.f (a0 : Int) (a1 : Int) (a2 : Int) : Option (Bool) := if a0 ≥ a1 then (some (decide (a0 ≤ a2))) else (some false)
set_option maxHeartbeats 8000000 in
set_option maxRecDepth 100000 in
theorem spec_l1In.calls (a0 : Int) (a1 : Int) (a2 : Int) (r : Bool) (w : World) (h : spec_l1In.f a0 a1 a2 = some r) :
    Calls Tryd.prog 8 #[.int .i64 a0, .int .i64 a1, .int .i64 a2] w fun e w' => e = .returned (.bool r) ∧ Drawn0 w w' := by
  have H : (if a0 ≥ a1 then (some (decide (a0 ≤ a2))) else (some false)) = some r := h
  clear h
  by_cases c4 : a0 ≥ a1
  · rw [if_pos c4] at H
    have c4b0 : decide (a1 ≤ a0) = true := decide_eq_true c4
    clear c4
    obtain rfl := Option.some.inj H
    go_enter Tryd.func8, Tryd.ntmps8
    go_wp2
    go_ret
    exact ⟨by first | rfl | (simp; done) | (simp [*]; done), by repeat (first | exact Drawn0.refl _ | apply Drawn0.step)⟩
  · rw [if_neg c4] at H
    have c4b0 : decide (a1 ≤ a0) = false := decide_eq_false c4
    clear c4
    obtain rfl := Option.some.inj H
    go_enter Tryd.func8, Tryd.ntmps8
    go_wp2
    go_ret
    exact ⟨by first | rfl | (simp; done) | (simp [*]; done), by repeat (first | exact Drawn0.refl _ | apply Drawn0.step)⟩

end Go.Proofs.YtfibaganajembaaDoor.X

-- Xspecl1NumF9
namespace Go.Proofs.YtfibaganajembaaDoor.X
open Ho (bS eS)
open Go.RowKit Go.Proofs.YtfibaganajembaaDoorW.PrintWords Go.Proofs.YtfibaganajembaaDoorW.PrintLast Go.Proofs.YtfibaganajembaaDoorW.PrintMore
attribute [local go_sem] max2_int min2_int max_two min_two max_three min_three max_four min_four   -- for this text's walks alone
set_option linter.unusedVariables false
set_option linter.unusedSimpArgs false

/-! ### spec_l1Num: function 9 -/
def spec_l1Num.f : Nat → Int → Option (ByteArray)
  | 0, _ => none
  | k + 1, a0 => if a0 < 0 then ((spec_l1Num.f k (wrap64 (-a0))).bind fun t101 => (if 1 + t101.size ≤ 9223372036854775807 then (some ((⟨#[45]⟩ : ByteArray) ++ t101)) else (none))) else (if a0 < 10 then (if 0 ≤ a0 then (if a0 ≤ (wrap64 (a0 + 1)) then (if (wrap64 (a0 + 1)) ≤ 10 then (some ((⟨#[48, 49, 50, 51, 52, 53, 54, 55, 56, 57]⟩ : ByteArray).extract (a0 : Int).toNat ((wrap64 (a0 + 1)) : Int).toNat)) else (none)) else (none)) else (none)) else ((spec_l1Num.f k (wrap64 (Int.tdiv a0 10))).bind fun t102 => (if 0 ≤ (Int.tmod a0 10) then (if (Int.tmod a0 10) ≤ (wrap64 ((Int.tmod a0 10) + 1)) then (if (wrap64 ((Int.tmod a0 10) + 1)) ≤ 10 then (if t102.size + ((⟨#[48, 49, 50, 51, 52, 53, 54, 55, 56, 57]⟩ : ByteArray).extract ((Int.tmod a0 10) : Int).toNat ((wrap64 ((Int.tmod a0 10) + 1)) : Int).toNat).size ≤ 9223372036854775807 then (some (t102 ++ ((⟨#[48, 49, 50, 51, 52, 53, 54, 55, 56, 57]⟩ : ByteArray).extract ((Int.tmod a0 10) : Int).toNat ((wrap64 ((Int.tmod a0 10) + 1)) : Int).toNat))) else (none)) else (none)) else (none)) else (none))))
theorem spec_l1Num.mono_l : ∀ k, (∀ y0, LeO (spec_l1Num.f k y0) (spec_l1Num.f (k + 1) y0))
  | 0 => fun _ r h => by simp [spec_l1Num.f] at h
  | k + 1 => by
    have ih0 := spec_l1Num.mono_l k
    · intro y0
      unfold spec_l1Num.f
      repeat' first
      | (with_reducible exact ih0 _)
      | (with_reducible exact LeO.refl _)
      | (with_reducible exact LeO.none _)
      | (with_reducible refine LeO.ite ?_ ?_)
      | (with_reducible refine LeO.bind ?_ (fun _ => ?_))
      | exact ih0 _
      | exact LeO.none _
      | refine LeO.ite ?_ ?_
      | refine LeO.bind ?_ (fun _ => ?_)
theorem spec_l1Num.mono : ∀ a0 k, LeO (spec_l1Num.f k a0) (spec_l1Num.f (k + 1) a0) := by
  intro a0 k
  have ih0 := spec_l1Num.mono_l k
  exact ih0 a0
def spec_l1Num.T5 : Bool × List (List Nat × List Nat) := (true, [([], []), ([0], [0]), ([1], [1]), ([], []), ([3], [3]), ([], []), ([5], [5]), ([6], [6]), ([4, 7], [4, 7]), ([2, 8], [2, 8]), ([9, 2, 0, 1, 2, 3, 4, 5, 6, 7, 8, 9], [9])])
def spec_l1Num.B5 : List Nat := [0, 1, 3, 0, 8, 0, 32, 96, 248, 511, 1023]
theorem spec_l1Num.tab5 : rtab .any (opsOf Tryd.f9 5) = spec_l1Num.T5 := by kernel_rfl
theorem spec_l1Num.bits5 : waitsOk spec_l1Num.T5.2 spec_l1Num.B5 = true := by kernel_rfl
set_option maxHeartbeats 8000000 in
set_option maxRecDepth 100000 in
theorem spec_l1Num.calls (k : Nat) : ∀ (a0 : Int) (r : ByteArray) (w : World) (h : spec_l1Num.f k a0 = some r),
    Calls Tryd.prog 9 #[.int .i64 a0] w fun e w' => e = .returned (.string r) ∧ Below w.heap.size w w' := by
  induction k using Nat.strongRecOn with
  | _ k ih =>
  intro a0 r w h
  cases k with
  | zero => exact absurd h (by simp [spec_l1Num.f])
  | succ k =>
  simp only [spec_l1Num.f] at h
  have HB := Aside0.mk (Below.refl w.heap.size w)
  have H : (if a0 < 0 then ((spec_l1Num.f k (wrap64 (-a0))).bind fun t101 => (if 1 + t101.size ≤ 9223372036854775807 then (some ((⟨#[45]⟩ : ByteArray) ++ t101)) else (none))) else (if a0 < 10 then (if 0 ≤ a0 then (if a0 ≤ (wrap64 (a0 + 1)) then (if (wrap64 (a0 + 1)) ≤ 10 then (some ((⟨#[48, 49, 50, 51, 52, 53, 54, 55, 56, 57]⟩ : ByteArray).extract (a0 : Int).toNat ((wrap64 (a0 + 1)) : Int).toNat)) else (none)) else (none)) else (none)) else ((spec_l1Num.f k (wrap64 (Int.tdiv a0 10))).bind fun t102 => (if 0 ≤ (Int.tmod a0 10) then (if (Int.tmod a0 10) ≤ (wrap64 ((Int.tmod a0 10) + 1)) then (if (wrap64 ((Int.tmod a0 10) + 1)) ≤ 10 then (if t102.size + ((⟨#[48, 49, 50, 51, 52, 53, 54, 55, 56, 57]⟩ : ByteArray).extract ((Int.tmod a0 10) : Int).toNat ((wrap64 ((Int.tmod a0 10) + 1)) : Int).toNat).size ≤ 9223372036854775807 then (some (t102 ++ ((⟨#[48, 49, 50, 51, 52, 53, 54, 55, 56, 57]⟩ : ByteArray).extract ((Int.tmod a0 10) : Int).toNat ((wrap64 ((Int.tmod a0 10) + 1)) : Int).toNat))) else (none)) else (none)) else (none)) else (none))))) = some r := h
  clear h
  by_cases c2 : a0 < 0
  · rw [if_pos c2] at H
    have c2b0 : decide (a0 < 0) = true := decide_eq_true c2
    clear c2
    replace H := Option.bind_eq_some_iff.mp H
    obtain ⟨t101, A30, H⟩ := H
    replace H : (if 1 + t101.size ≤ 9223372036854775807 then (some ((⟨#[45]⟩ : ByteArray) ++ t101)) else (none)) = some r := H
    have A3 := Aside0.mk A30
    clear A30
    by_cases c4 : 1 + t101.size ≤ 9223372036854775807
    · rw [if_pos c4] at H
      have c4b0 := eq_true c4
      have c4b1 : decide (1 + t101.size ≤ 9223372036854775807) = true := decide_eq_true c4
      try have c4b2 : (9223372036854775807 < 1 + t101.size) = False := eq_false (Nat.not_lt.2 c4)
      obtain rfl := Option.some.inj H
      go_enter Tryd.func9, Tryd.ntmps9
      go_wp2_with (first | ((with_reducible refine gate_callee (f := 9) rfl ?_); refine goesL_ (some 7) rfl rfl Tryd.func9 (by kernel_rfl) rfl #[.int .i64 (wrap64 (-a0))] rfl (by (try simp only [List.map_toArray, List.map_cons, List.map_nil]); first | done | rfl | (simp only [List.length_drop, List.length_take]; rfl)) ?_; (with_reducible refine (ih k (by omega) (wrap64 (-a0)) t101 _ A3.out).mono ?_); rintro e w5 ⟨rfl, hb⟩; refine ⟨_, rfl, ?_⟩; have n0_ := Aside0.mk (below_step (by exact eS HB.out) hb); clear HB; have HB := n0_; clear n0_; (try clear hb); (try clear hb2); (try clear hk); (try clear hi)))
      go_ret
      exact ⟨by first | rfl | (simp [errW_none, errW_some] <;> rfl) | (simp [*, errW_none, errW_some] <;> rfl), by exact eS HB.out⟩
    · rw [if_neg c4] at H
      exact absurd H (by simp)
  · rw [if_neg c2] at H
    have c2b0 : decide (a0 < 0) = false := decide_eq_false c2
    clear c2
    by_cases c6 : a0 < 10
    · rw [if_pos c6] at H
      have c6b0 : decide (a0 < 10) = true := decide_eq_true c6
      clear c6
      by_cases c7 : 0 ≤ a0
      · rw [if_pos c7] at H
        have c7b0 := eq_true c7
        have c7b1 : decide (0 ≤ a0) = true := decide_eq_true c7
        clear c7
        by_cases c8 : a0 ≤ (wrap64 (a0 + 1))
        · rw [if_pos c8] at H
          have c8b0 := eq_true c8
          have c8b1 : decide (a0 ≤ (wrap64 (a0 + 1))) = true := decide_eq_true c8
          by_cases c9 : (wrap64 (a0 + 1)) ≤ 10
          · rw [if_pos c9] at H
            have c9b0 := eq_true c9
            have c9b1 : decide ((wrap64 (a0 + 1)) ≤ 10) = true := decide_eq_true c9
            obtain rfl := Option.some.inj H
            go_enter Tryd.func9, Tryd.ntmps9
            go_wp2
            go_ret
            exact ⟨by first | rfl | (simp [errW_none, errW_some] <;> rfl) | (simp [*, errW_none, errW_some] <;> rfl), by exact eS HB.out⟩
          · rw [if_neg c9] at H
            exact absurd H (by simp)
        · rw [if_neg c8] at H
          exact absurd H (by simp)
      · rw [if_neg c7] at H
        exact absurd H (by simp)
    · rw [if_neg c6] at H
      have c6b0 : decide (a0 < 10) = false := decide_eq_false c6
      clear c6
      replace H := Option.bind_eq_some_iff.mp H
      obtain ⟨t102, A100, H⟩ := H
      replace H : (if 0 ≤ (Int.tmod a0 10) then (if (Int.tmod a0 10) ≤ (wrap64 ((Int.tmod a0 10) + 1)) then (if (wrap64 ((Int.tmod a0 10) + 1)) ≤ 10 then (if t102.size + ((⟨#[48, 49, 50, 51, 52, 53, 54, 55, 56, 57]⟩ : ByteArray).extract ((Int.tmod a0 10) : Int).toNat ((wrap64 ((Int.tmod a0 10) + 1)) : Int).toNat).size ≤ 9223372036854775807 then (some (t102 ++ ((⟨#[48, 49, 50, 51, 52, 53, 54, 55, 56, 57]⟩ : ByteArray).extract ((Int.tmod a0 10) : Int).toNat ((wrap64 ((Int.tmod a0 10) + 1)) : Int).toNat))) else (none)) else (none)) else (none)) else (none)) = some r := H
      have A10 := Aside0.mk A100
      clear A100
      obtain ⟨ji11, hji11⟩ : ∃ j_ : Int, (Int.tmod a0 10) = j_ := ⟨_, rfl⟩
      replace H : (if 0 ≤ (ji11) then (if (ji11) ≤ (wrap64 ((ji11) + 1)) then (if (wrap64 ((ji11) + 1)) ≤ 10 then (if t102.size + ((⟨#[48, 49, 50, 51, 52, 53, 54, 55, 56, 57]⟩ : ByteArray).extract ((ji11) : Int).toNat ((wrap64 ((ji11) + 1)) : Int).toNat).size ≤ 9223372036854775807 then (some (t102 ++ ((⟨#[48, 49, 50, 51, 52, 53, 54, 55, 56, 57]⟩ : ByteArray).extract ((ji11) : Int).toNat ((wrap64 ((ji11) + 1)) : Int).toNat))) else (none)) else (none)) else (none)) else (none)) = some r := by first | (rw [hji11] at H; exact H) | (simp only [hji11] at H ⊢; exact H)
      (try rw [hji11] at A10)
      by_cases c12 : 0 ≤ (ji11)
      · rw [if_pos c12] at H
        have c12b0 := eq_true c12
        have c12b1 : decide (0 ≤ (ji11)) = true := decide_eq_true c12
        clear c12
        by_cases c13 : (ji11) ≤ (wrap64 ((ji11) + 1))
        · rw [if_pos c13] at H
          have c13b0 := eq_true c13
          have c13b1 : decide ((ji11) ≤ (wrap64 ((ji11) + 1))) = true := decide_eq_true c13
          by_cases c14 : (wrap64 ((ji11) + 1)) ≤ 10
          · rw [if_pos c14] at H
            have c14b0 := eq_true c14
            have c14b1 : decide ((wrap64 ((ji11) + 1)) ≤ 10) = true := decide_eq_true c14
            by_cases c15 : t102.size + ((⟨#[48, 49, 50, 51, 52, 53, 54, 55, 56, 57]⟩ : ByteArray).extract ((ji11) : Int).toNat ((wrap64 ((ji11) + 1)) : Int).toNat).size ≤ 9223372036854775807
            · rw [if_pos c15] at H
              have c15b0 := eq_true c15
              have c15b1 : decide (t102.size + ((⟨#[48, 49, 50, 51, 52, 53, 54, 55, 56, 57]⟩ : ByteArray).extract ((ji11) : Int).toNat ((wrap64 ((ji11) + 1)) : Int).toNat).size ≤ 9223372036854775807) = true := decide_eq_true c15
              try have c15b2 : (9223372036854775807 < t102.size + ((⟨#[48, 49, 50, 51, 52, 53, 54, 55, 56, 57]⟩ : ByteArray).extract ((ji11) : Int).toNat ((wrap64 ((ji11) + 1)) : Int).toNat).size) = False := eq_false (Nat.not_lt.2 c15)
              have c15b3 : (9223372036854775807 < t102.size + ((wrap64 (ji11 + 1)).toNat - ji11.toNat)) = False := eq_false (by have h_ := c15; rw [ByteArray.size_extract] at h_; have e_ : (⟨#[48, 49, 50, 51, 52, 53, 54, 55, 56, 57]⟩ : ByteArray).size = 10 := rfl; rw [e_] at h_; omega)
              obtain rfl := Option.some.inj H
              go_enter Tryd.func9, Tryd.ntmps9
              try go_wp2
              have n0_ := Aside0.mk (below_drew1 HB.out)
              clear HB
              have HB := n0_
              clear n0_
              refine start_ (n := 11) (S := fun w' => True) (ds := []) #[false, false, false, false, false, false, false, false, false, false, false] (by kernel_rfl) rfl rfl trivial (fun hHeld => ?_); refine with_tabW spec_l1Num.tab5 spec_l1Num.bits5 (fun HT_ HW_ => ?_)
              generalize w.drew = w16 at HB hHeld ⊢
              refine pure_ (i := 0) (N := some 15) (v := ?_) (a' := ?_) #[true, false, false, false, false, false, false, false, false, false, false] rfl rfl (any_of HT_.out (by kernel_rfl)) (fun _ _ _ h => h) (Or.inl ⟨by rfl, ?_⟩) ?_ ?_
              rotate_left
              · intro w'
                go_simp
                with_reducible rfl
              rotate_left
              · simp only [Act.put, List.setIfInBounds_toArray, List.set_cons_zero, List.set_cons_succ, i64_w, i32_w]
                rfl
              refine pure_ (i := 1) (N := some 16) (v := ?_) (a' := ?_) #[true, true, false, false, false, false, false, false, false, false, false] rfl rfl (any_of HT_.out (by kernel_rfl)) (fun _ _ _ h => h) (Or.inl ⟨by rfl, ?_⟩) ?_ ?_
              rotate_left
              · intro w'
                go_simp
                with_reducible rfl
              rotate_left
              · simp only [Act.put, List.setIfInBounds_toArray, List.set_cons_zero, List.set_cons_succ, i64_w, i32_w]
                rfl
              refine pure_ (i := 3) (N := some 18) (v := ?_) (a' := ?_) #[true, true, false, true, false, false, false, false, false, false, false] rfl rfl (any_of HT_.out (by kernel_rfl)) (fun _ _ _ h => h) (Or.inl ⟨by rfl, ?_⟩) ?_ ?_
              rotate_left
              · intro w'
                go_simp
                with_reducible rfl
              rotate_left
              · simp only [Act.put, List.setIfInBounds_toArray, List.set_cons_zero, List.set_cons_succ, i64_w, i32_w]
                rfl
              refine pure_ (i := 4) (N := some 19) (v := ?_) (a' := ?_) #[true, true, false, true, true, false, false, false, false, false, false] rfl rfl (any_of HT_.out (by kernel_rfl)) (fun _ _ _ h => h) (Or.inl ⟨by rfl, ?_⟩) ?_ ?_
              rotate_left
              · intro w'
                go_simp
                with_reducible rfl
              rotate_left
              · simp only [Act.put, List.setIfInBounds_toArray, List.set_cons_zero, List.set_cons_succ, i64_w, i32_w]
                rfl
              refine pure_ (i := 5) (N := some 20) (v := ?_) (a' := ?_) #[true, true, false, true, true, true, false, false, false, false, false] rfl rfl (any_of HT_.out (by kernel_rfl)) (fun _ _ _ h => h) (Or.inl ⟨by rfl, ?_⟩) ?_ ?_
              rotate_left
              · intro w'
                go_simp
                with_reducible rfl
              rotate_left
              · simp only [Act.put, List.setIfInBounds_toArray, List.set_cons_zero, List.set_cons_succ, i64_w, i32_w]
                rfl
              refine pure_ (i := 6) (N := some 21) (v := ?_) (a' := ?_) #[true, true, false, true, true, true, true, false, false, false, false] rfl rfl (any_of HT_.out (by kernel_rfl)) (fun _ _ _ h => h) (Or.inl ⟨by rfl, ?_⟩) ?_ ?_
              rotate_left
              · intro w'
                go_simp
                with_reducible rfl
              rotate_left
              · simp only [Act.put, List.setIfInBounds_toArray, List.set_cons_zero, List.set_cons_succ, i64_w, i32_w]
                rfl
              refine pure_ (i := 7) (N := some 22) (v := ?_) (a' := ?_) #[true, true, false, true, true, true, true, true, false, false, false] rfl rfl (any_of HT_.out (by kernel_rfl)) (fun _ _ _ h => h) (Or.inl ⟨by rfl, ?_⟩) ?_ ?_
              rotate_left
              · intro w'
                go_simp
                with_reducible rfl
              rotate_left
              · simp only [Act.put, List.setIfInBounds_toArray, List.set_cons_zero, List.set_cons_succ, i64_w, i32_w]
                rfl
              refine pure_ (i := 8) (N := some 23) (v := ?_) (a' := ?_) #[true, true, false, true, true, true, true, true, true, false, false] rfl rfl (any_of HT_.out (by kernel_rfl)) (fun _ _ _ h => h) (Or.inl ⟨by rfl, ?_⟩) ?_ ?_
              rotate_left
              · intro w'
                go_simp
                with_reducible rfl
              rotate_left
              · simp only [Act.put, List.setIfInBounds_toArray, List.set_cons_zero, List.set_cons_succ, i64_w, i32_w]
                rfl
              refine one_ (i := 2) (N := some 17) #[true, true, true, true, true, true, true, true, true, false, false] rfl rfl (one_of HT_.out (by kernel_rfl)) (by decide) (fun K hK => ?_)
              refine goes_ Tryd.func9 (by kernel_rfl) rfl #[.int .i64 (wrap64 (Int.tdiv a0 10))] (by rfl) rfl rfl (by (try simp only [List.map_toArray, List.map_cons, List.map_nil]); first | done | rfl | (simp only [List.length_drop, List.length_take]; rfl)) ?_
              with_reducible refine (ih k (by omega) (wrap64 (Int.tdiv a0 10)) t102 _ A10.out).mono ?_
              rintro e w17 ⟨rfl, hb⟩
              refine ⟨_, rfl, ?_⟩
              have n0_ := Aside0.mk (below_step (by exact eS HB.out) hb)
              clear HB
              have HB := n0_
              clear n0_
              (try clear hb)
              (try clear hb2)
              (try clear hk)
              (try clear hi)
              refine hK.out _ _ trivial (fun hHeld => ?_)
              clear hK K
              refine norm_ (a' := ?_) ?_ ?_
              rotate_left
              · show Act.put _ (some 17) _ = _
                simp only [Act.put, List.setIfInBounds_toArray, List.set_cons_zero, List.set_cons_succ, i64_w, i32_w]
                rfl
              refine pure_ (i := 9) (N := some 24) (v := ?_) (a' := ?_) #[true, true, true, true, true, true, true, true, true, true, false] rfl rfl (any_of HT_.out (by kernel_rfl)) (fun _ _ _ h => h) (Or.inl ⟨by rfl, ?_⟩) ?_ ?_
              rotate_left
              · intro w'
                go_simp
                with_reducible rfl
              rotate_left
              · simp only [Act.put, List.setIfInBounds_toArray, List.set_cons_zero, List.set_cons_succ, i64_w, i32_w]
                rfl
              refine pure_ (i := 10) (N := some 2) (v := ?_) (a' := ?_) #[true, true, true, true, true, true, true, true, true, true, true] rfl rfl (any_of HT_.out (by kernel_rfl)) (fun _ _ _ h => h) (Or.inl ⟨by rfl, ?_⟩) ?_ ?_
              rotate_left
              · intro w'
                go_simp
                with_reducible rfl
              rotate_left
              · simp only [Act.put, List.setIfInBounds_toArray, List.set_cons_zero, List.set_cons_succ, i64_w, i32_w]
                rfl
              refine done_ (done_of HT_.out (by kernel_rfl)) ?_
              try go_wp2
              go_ret
              exact ⟨by first | rfl | (simp [errW_none, errW_some] <;> rfl) | (simp only [← hji11]; first | rfl | (simp [errW_none, errW_some] <;> rfl)) | (simp [*, errW_none, errW_some] <;> rfl), by exact eS HB.out⟩
            · rw [if_neg c15] at H
              exact absurd H (by simp)
          · rw [if_neg c14] at H
            exact absurd H (by simp)
        · rw [if_neg c13] at H
          exact absurd H (by simp)
      · rw [if_neg c12] at H
        exact absurd H (by simp)

end Go.Proofs.YtfibaganajembaaDoor.X

-- Xspecl22FlawF7
namespace Go.Proofs.YtfibaganajembaaDoor.X
open Ho (bS eS)
open Go.RowKit Go.Proofs.YtfibaganajembaaDoorW.PrintWords Go.Proofs.YtfibaganajembaaDoorW.PrintLast Go.Proofs.YtfibaganajembaaDoorW.PrintMore
attribute [local go_sem] max2_int min2_int max_two min_two max_three min_three max_four min_four   -- for this text's walks alone
set_option linter.unusedVariables false
set_option linter.unusedSimpArgs false

attribute [local go_sem ↓] Ho.isSome_setCell_   -- a store leaves all places there
/-! ### spec_l22Flaw: function 7 -/
def spec_l22Flaw.f (a0_0 : Int) (a0_1 : Int) (a0_2 : Int) (a0_3 : Int) : Option (Bool) := (spec_l1In.f a0_0 0 4).bind fun t102 => (if t102 = true then ((spec_l1In.f a0_3 1 9).bind fun t103 => (some t103)) else (some false))
set_option maxHeartbeats 8000000 in
set_option maxRecDepth 100000 in
theorem spec_l22Flaw.calls (a0_0 : Int) (a0_1 : Int) (a0_2 : Int) (a0_3 : Int) (r : Bool) (w : World) (h : spec_l22Flaw.f a0_0 a0_1 a0_2 a0_3 = some r) :
    Calls Tryd.prog 7 #[.agg #[.int .i64 a0_0, .int .i64 a0_1, .int .i64 a0_2, .int .i64 a0_3]] w fun e w' => e = .returned (.bool r) ∧ Below w.heap.size w w' := by
  have hu26 := Tryd.underlying26
  have HB := Aside0.mk (Below.refl w.heap.size w)
  have H : ((spec_l1In.f a0_0 0 4).bind fun t102 => (if t102 = true then ((spec_l1In.f a0_3 1 9).bind fun t103 => (some t103)) else (some false))) = some r := h
  clear h
  replace H := Option.bind_eq_some_iff.mp H
  obtain ⟨t102, A20, H⟩ := H
  replace H : (if t102 = true then ((spec_l1In.f a0_3 1 9).bind fun t103 => (some t103)) else (some false)) = some r := H
  have A2 := Aside0.mk A20
  clear A20
  by_cases c3 : t102 = true
  · subst c3
    have H1 : ((spec_l1In.f a0_3 1 9).bind fun t103 => (some t103)) = some r := by rw [if_pos rfl] at H; exact H
    clear H
    have H := H1
    clear H1
    replace H := Option.bind_eq_some_iff.mp H
    obtain ⟨t103, A40, H⟩ := H
    replace H : (some t103) = some r := H
    have A4 := Aside0.mk A40
    clear A40
    obtain rfl := Option.some.inj H
    go_enter Tryd.func7, Tryd.ntmps7
    go_wp2_with (first | ((with_reducible refine gate_dst (N := 1) rfl ?_); refine box_event ?hg (N := 1) ?hd (cs := #[.int .i64 a0_0, .int .i64 a0_1, .int .i64 a0_2, .int .i64 a0_3]) (t := 26) ?hr ?_; (case hd => rfl); (case hg => rfl); (case hr => first | (go_simp; done) | (go_simp; rfl)); intro gb101 hg w5 hbox hb; have n0_ := Aside0.mk (below_step (by exact eS HB.out) hb); have n1_ := Aside0.mk (hbox); have n2_ := Aside0.mk ((by rw [hg]; exact (below_size (by exact eS HB.out)) : w.heap.size ≤ gb101)); have n3_ := Aside0.mk ((by rw [hg]; exact (below_size (by exact eS HB.out)) : w.heap.size ≤ gb101)); clear HB; have HB := n0_; have BK101 := n1_; have GW101 := n2_; have GE101 := n3_; clear n0_ n1_ n2_ n3_; clear hb hbox hg; have hcz6_0 : w5.cell? ⟨gb101, 0, none⟩ = some (.int .i64 a0_0) := (blk_cell BK101.out 0).trans rfl; have hcz6_1 : w5.cell? ⟨gb101, 1, none⟩ = some (.int .i64 a0_1) := (blk_cell BK101.out 1).trans rfl; have hcz6_2 : w5.cell? ⟨gb101, 2, none⟩ = some (.int .i64 a0_2) := (blk_cell BK101.out 2).trans rfl; have hcz6_3 : w5.cell? ⟨gb101, 3, none⟩ = some (.int .i64 a0_3) := (blk_cell BK101.out 3).trans rfl; have hfz6_0 := blk_frozen BK101.out 0; have hfz6_1 := blk_frozen BK101.out 1; have hfz6_2 := blk_frozen BK101.out 2; have hfz6_3 := blk_frozen BK101.out 3) | ((with_reducible refine gate_callee (f := 8) rfl ?_); refine goesL_ (some 5) rfl rfl Tryd.func8 (by kernel_rfl) rfl #[.int .i64 a0_0, .int .i64 0, .int .i64 4] rfl (by (try simp only [List.map_toArray, List.map_cons, List.map_nil]); first | done | rfl | (simp only [List.length_drop, List.length_take]; rfl)) ?_; (with_reducible refine (spec_l1In.calls a0_0 0 4 true _ A2.out).mono ?_); rintro e w' ⟨rfl, ⟨nd, rfl⟩⟩; refine ⟨_, rfl, ?_⟩) | (go_at_call 8; (with_reducible refine (spec_l1In.calls a0_3 1 9 t103 _ A4.out).mono ?_); rintro e w' ⟨rfl, ⟨nd, rfl⟩⟩))
    go_ret
    exact ⟨by first | rfl | (simp [errW_none, errW_some] <;> rfl) | (simp [*, errW_none, errW_some] <;> rfl), by exact eS HB.out⟩
  · replace c3 := Bool.eq_false_iff.mpr c3
    subst c3
    have H1 : (some false) = some r := by rw [if_neg (show ¬ (false = true) by decide)] at H; exact H
    clear H
    have H := H1
    clear H1
    obtain rfl := Option.some.inj H
    go_enter Tryd.func7, Tryd.ntmps7
    go_wp2_with (first | ((with_reducible refine gate_dst (N := 1) rfl ?_); refine box_event ?hg (N := 1) ?hd (cs := #[.int .i64 a0_0, .int .i64 a0_1, .int .i64 a0_2, .int .i64 a0_3]) (t := 26) ?hr ?_; (case hd => rfl); (case hg => rfl); (case hr => first | (go_simp; done) | (go_simp; rfl)); intro gb101 hg w7 hbox hb; have n0_ := Aside0.mk (below_step (by exact eS HB.out) hb); have n1_ := Aside0.mk (hbox); have n2_ := Aside0.mk ((by rw [hg]; exact (below_size (by exact eS HB.out)) : w.heap.size ≤ gb101)); have n3_ := Aside0.mk ((by rw [hg]; exact (below_size (by exact eS HB.out)) : w.heap.size ≤ gb101)); clear HB; have HB := n0_; have BK101 := n1_; have GW101 := n2_; have GE101 := n3_; clear n0_ n1_ n2_ n3_; clear hb hbox hg; have hcz8_0 : w7.cell? ⟨gb101, 0, none⟩ = some (.int .i64 a0_0) := (blk_cell BK101.out 0).trans rfl; have hcz8_1 : w7.cell? ⟨gb101, 1, none⟩ = some (.int .i64 a0_1) := (blk_cell BK101.out 1).trans rfl; have hcz8_2 : w7.cell? ⟨gb101, 2, none⟩ = some (.int .i64 a0_2) := (blk_cell BK101.out 2).trans rfl; have hcz8_3 : w7.cell? ⟨gb101, 3, none⟩ = some (.int .i64 a0_3) := (blk_cell BK101.out 3).trans rfl; have hfz8_0 := blk_frozen BK101.out 0; have hfz8_1 := blk_frozen BK101.out 1; have hfz8_2 := blk_frozen BK101.out 2; have hfz8_3 := blk_frozen BK101.out 3) | ((with_reducible refine gate_callee (f := 8) rfl ?_); refine goesL_ (some 5) rfl rfl Tryd.func8 (by kernel_rfl) rfl #[.int .i64 a0_0, .int .i64 0, .int .i64 4] rfl (by (try simp only [List.map_toArray, List.map_cons, List.map_nil]); first | done | rfl | (simp only [List.length_drop, List.length_take]; rfl)) ?_; (with_reducible refine (spec_l1In.calls a0_0 0 4 false _ A2.out).mono ?_); rintro e w' ⟨rfl, ⟨nd, rfl⟩⟩; refine ⟨_, rfl, ?_⟩))
    go_ret
    exact ⟨by first | rfl | (simp [errW_none, errW_some] <;> rfl) | (simp [*, errW_none, errW_some] <;> rfl), by exact eS HB.out⟩

end Go.Proofs.YtfibaganajembaaDoor.X

-- Sq
namespace Go.Proofs.YtfibaganajembaaDoor.X.Sq
open Go.RowKit Go.Proofs.YtfibaganajembaaDoorW.PrintWords Go.Proofs.YtfibaganajembaaDoorW.PrintLast
/-- done -/
abbrev I : Bool := true
/-- to be done -/
abbrev O : Bool := false
/-- what a letter's place holds -/
theorem Z : (∀ (a : Act) (v : Value), a.put none v = a) ∧ (∀ (a : Act) (n : Tmp) (v : Value), a.put (some n) v = { a with tmps := a.tmps.setIfInBounds n v }) ∧ (∀ (l : List Value) (i : Nat) (x : Value), l.toArray.setIfInBounds i x = (l.set i x).toArray) ∧ (∀ (b : Value) (l : List Value) (x : Value), (b :: l).set 0 x = x :: l) ∧ (∀ (b : Value) (l : List Value) (n : Nat) (x : Value), (b :: l).set (n + 1) x = b :: l.set n x) ∧ (∀ n : Int, IntKind.i64.wrap n = Go.RowKit.wrap64 n) ∧ (∀ n : Int, IntKind.i32.wrap n = Go.RowKit.wrap32 n) :=
  ⟨fun _ _ => rfl, fun _ _ _ => rfl, fun l i x => by simp, fun _ _ _ => rfl, fun _ _ _ _ => rfl, i64_w, i32_w⟩
theorem c2 {w : World} {g t : Nat} {v0 v1 : Value} (h : w.heap[g]? = some (.cells #[v0, v1] t (0, 0))) : w.cell? ⟨g, 0, none⟩ = some v0 ∧ w.cell? ⟨g, 1, none⟩ = some v1 ∧ w.frozen? ⟨g, 0, none⟩ = false ∧ w.frozen? ⟨g, 1, none⟩ = false :=
  ⟨(blk_cell h 0).trans rfl, (blk_cell h 1).trans rfl, blk_frozen h 0, blk_frozen h 1⟩
theorem put2 {w : World} {g t : Nat} {v0 v1 o0 o1 : Value} (h : w.heap[g]? = some (.cells #[o0, o1] t (0, 0))) : ((w.setCell ⟨g, 0, none⟩ v0).setCell ⟨g, 1, none⟩ v1).heap[g]? = some (.cells #[v0, v1] t (0, 0)) :=
  (blk_put (cs := #[v0, o1]) (blk_put (cs := #[o0, o1]) h 0 v0 rfl) 1 v1 rfl)
theorem c3 {w : World} {g t : Nat} {v0 v1 v2 : Value} (h : w.heap[g]? = some (.cells #[v0, v1, v2] t (0, 0))) : w.cell? ⟨g, 0, none⟩ = some v0 ∧ w.cell? ⟨g, 1, none⟩ = some v1 ∧ w.cell? ⟨g, 2, none⟩ = some v2 ∧ w.frozen? ⟨g, 0, none⟩ = false ∧ w.frozen? ⟨g, 1, none⟩ = false ∧ w.frozen? ⟨g, 2, none⟩ = false :=
  ⟨(blk_cell h 0).trans rfl, (blk_cell h 1).trans rfl, (blk_cell h 2).trans rfl, blk_frozen h 0, blk_frozen h 1, blk_frozen h 2⟩
theorem put3 {w : World} {g t : Nat} {v0 v1 v2 o0 o1 o2 : Value} (h : w.heap[g]? = some (.cells #[o0, o1, o2] t (0, 0))) : (((w.setCell ⟨g, 0, none⟩ v0).setCell ⟨g, 1, none⟩ v1).setCell ⟨g, 2, none⟩ v2).heap[g]? = some (.cells #[v0, v1, v2] t (0, 0)) :=
  (blk_put (cs := #[v0, v1, o2]) (blk_put (cs := #[v0, o1, o2]) (blk_put (cs := #[o0, o1, o2]) h 0 v0 rfl) 1 v1 rfl) 2 v2 rfl)
theorem c4 {w : World} {g t : Nat} {v0 v1 v2 v3 : Value} (h : w.heap[g]? = some (.cells #[v0, v1, v2, v3] t (0, 0))) : w.cell? ⟨g, 0, none⟩ = some v0 ∧ w.cell? ⟨g, 1, none⟩ = some v1 ∧ w.cell? ⟨g, 2, none⟩ = some v2 ∧ w.cell? ⟨g, 3, none⟩ = some v3 ∧ w.frozen? ⟨g, 0, none⟩ = false ∧ w.frozen? ⟨g, 1, none⟩ = false ∧ w.frozen? ⟨g, 2, none⟩ = false ∧ w.frozen? ⟨g, 3, none⟩ = false :=
  ⟨(blk_cell h 0).trans rfl, (blk_cell h 1).trans rfl, (blk_cell h 2).trans rfl, (blk_cell h 3).trans rfl, blk_frozen h 0, blk_frozen h 1, blk_frozen h 2, blk_frozen h 3⟩
theorem put4 {w : World} {g t : Nat} {v0 v1 v2 v3 o0 o1 o2 o3 : Value} (h : w.heap[g]? = some (.cells #[o0, o1, o2, o3] t (0, 0))) : ((((w.setCell ⟨g, 0, none⟩ v0).setCell ⟨g, 1, none⟩ v1).setCell ⟨g, 2, none⟩ v2).setCell ⟨g, 3, none⟩ v3).heap[g]? = some (.cells #[v0, v1, v2, v3] t (0, 0)) :=
  (blk_put (cs := #[v0, v1, v2, o3]) (blk_put (cs := #[v0, v1, o2, o3]) (blk_put (cs := #[v0, o1, o2, o3]) (blk_put (cs := #[o0, o1, o2, o3]) h 0 v0 rfl) 1 v1 rfl) 2 v2 rfl) 3 v3 rfl)
theorem c5 {w : World} {g t : Nat} {v0 v1 v2 v3 v4 : Value} (h : w.heap[g]? = some (.cells #[v0, v1, v2, v3, v4] t (0, 0))) : w.cell? ⟨g, 0, none⟩ = some v0 ∧ w.cell? ⟨g, 1, none⟩ = some v1 ∧ w.cell? ⟨g, 2, none⟩ = some v2 ∧ w.cell? ⟨g, 3, none⟩ = some v3 ∧ w.cell? ⟨g, 4, none⟩ = some v4 ∧ w.frozen? ⟨g, 0, none⟩ = false ∧ w.frozen? ⟨g, 1, none⟩ = false ∧ w.frozen? ⟨g, 2, none⟩ = false ∧ w.frozen? ⟨g, 3, none⟩ = false ∧ w.frozen? ⟨g, 4, none⟩ = false :=
  ⟨(blk_cell h 0).trans rfl, (blk_cell h 1).trans rfl, (blk_cell h 2).trans rfl, (blk_cell h 3).trans rfl, (blk_cell h 4).trans rfl, blk_frozen h 0, blk_frozen h 1, blk_frozen h 2, blk_frozen h 3, blk_frozen h 4⟩
theorem put5 {w : World} {g t : Nat} {v0 v1 v2 v3 v4 o0 o1 o2 o3 o4 : Value} (h : w.heap[g]? = some (.cells #[o0, o1, o2, o3, o4] t (0, 0))) : (((((w.setCell ⟨g, 0, none⟩ v0).setCell ⟨g, 1, none⟩ v1).setCell ⟨g, 2, none⟩ v2).setCell ⟨g, 3, none⟩ v3).setCell ⟨g, 4, none⟩ v4).heap[g]? = some (.cells #[v0, v1, v2, v3, v4] t (0, 0)) :=
  (blk_put (cs := #[v0, v1, v2, v3, o4]) (blk_put (cs := #[v0, v1, v2, o3, o4]) (blk_put (cs := #[v0, v1, o2, o3, o4]) (blk_put (cs := #[v0, o1, o2, o3, o4]) (blk_put (cs := #[o0, o1, o2, o3, o4]) h 0 v0 rfl) 1 v1 rfl) 2 v2 rfl) 3 v3 rfl) 4 v4 rfl)
theorem c6 {w : World} {g t : Nat} {v0 v1 v2 v3 v4 v5 : Value} (h : w.heap[g]? = some (.cells #[v0, v1, v2, v3, v4, v5] t (0, 0))) : w.cell? ⟨g, 0, none⟩ = some v0 ∧ w.cell? ⟨g, 1, none⟩ = some v1 ∧ w.cell? ⟨g, 2, none⟩ = some v2 ∧ w.cell? ⟨g, 3, none⟩ = some v3 ∧ w.cell? ⟨g, 4, none⟩ = some v4 ∧ w.cell? ⟨g, 5, none⟩ = some v5 ∧ w.frozen? ⟨g, 0, none⟩ = false ∧ w.frozen? ⟨g, 1, none⟩ = false ∧ w.frozen? ⟨g, 2, none⟩ = false ∧ w.frozen? ⟨g, 3, none⟩ = false ∧ w.frozen? ⟨g, 4, none⟩ = false ∧ w.frozen? ⟨g, 5, none⟩ = false :=
  ⟨(blk_cell h 0).trans rfl, (blk_cell h 1).trans rfl, (blk_cell h 2).trans rfl, (blk_cell h 3).trans rfl, (blk_cell h 4).trans rfl, (blk_cell h 5).trans rfl, blk_frozen h 0, blk_frozen h 1, blk_frozen h 2, blk_frozen h 3, blk_frozen h 4, blk_frozen h 5⟩
theorem put6 {w : World} {g t : Nat} {v0 v1 v2 v3 v4 v5 o0 o1 o2 o3 o4 o5 : Value} (h : w.heap[g]? = some (.cells #[o0, o1, o2, o3, o4, o5] t (0, 0))) : ((((((w.setCell ⟨g, 0, none⟩ v0).setCell ⟨g, 1, none⟩ v1).setCell ⟨g, 2, none⟩ v2).setCell ⟨g, 3, none⟩ v3).setCell ⟨g, 4, none⟩ v4).setCell ⟨g, 5, none⟩ v5).heap[g]? = some (.cells #[v0, v1, v2, v3, v4, v5] t (0, 0)) :=
  (blk_put (cs := #[v0, v1, v2, v3, v4, o5]) (blk_put (cs := #[v0, v1, v2, v3, o4, o5]) (blk_put (cs := #[v0, v1, v2, o3, o4, o5]) (blk_put (cs := #[v0, v1, o2, o3, o4, o5]) (blk_put (cs := #[v0, o1, o2, o3, o4, o5]) (blk_put (cs := #[o0, o1, o2, o3, o4, o5]) h 0 v0 rfl) 1 v1 rfl) 2 v2 rfl) 3 v3 rfl) 4 v4 rfl) 5 v5 rfl)
theorem c7 {w : World} {g t : Nat} {v0 v1 v2 v3 v4 v5 v6 : Value} (h : w.heap[g]? = some (.cells #[v0, v1, v2, v3, v4, v5, v6] t (0, 0))) : w.cell? ⟨g, 0, none⟩ = some v0 ∧ w.cell? ⟨g, 1, none⟩ = some v1 ∧ w.cell? ⟨g, 2, none⟩ = some v2 ∧ w.cell? ⟨g, 3, none⟩ = some v3 ∧ w.cell? ⟨g, 4, none⟩ = some v4 ∧ w.cell? ⟨g, 5, none⟩ = some v5 ∧ w.cell? ⟨g, 6, none⟩ = some v6 ∧ w.frozen? ⟨g, 0, none⟩ = false ∧ w.frozen? ⟨g, 1, none⟩ = false ∧ w.frozen? ⟨g, 2, none⟩ = false ∧ w.frozen? ⟨g, 3, none⟩ = false ∧ w.frozen? ⟨g, 4, none⟩ = false ∧ w.frozen? ⟨g, 5, none⟩ = false ∧ w.frozen? ⟨g, 6, none⟩ = false :=
  ⟨(blk_cell h 0).trans rfl, (blk_cell h 1).trans rfl, (blk_cell h 2).trans rfl, (blk_cell h 3).trans rfl, (blk_cell h 4).trans rfl, (blk_cell h 5).trans rfl, (blk_cell h 6).trans rfl, blk_frozen h 0, blk_frozen h 1, blk_frozen h 2, blk_frozen h 3, blk_frozen h 4, blk_frozen h 5, blk_frozen h 6⟩
theorem put7 {w : World} {g t : Nat} {v0 v1 v2 v3 v4 v5 v6 o0 o1 o2 o3 o4 o5 o6 : Value} (h : w.heap[g]? = some (.cells #[o0, o1, o2, o3, o4, o5, o6] t (0, 0))) : (((((((w.setCell ⟨g, 0, none⟩ v0).setCell ⟨g, 1, none⟩ v1).setCell ⟨g, 2, none⟩ v2).setCell ⟨g, 3, none⟩ v3).setCell ⟨g, 4, none⟩ v4).setCell ⟨g, 5, none⟩ v5).setCell ⟨g, 6, none⟩ v6).heap[g]? = some (.cells #[v0, v1, v2, v3, v4, v5, v6] t (0, 0)) :=
  (blk_put (cs := #[v0, v1, v2, v3, v4, v5, o6]) (blk_put (cs := #[v0, v1, v2, v3, v4, o5, o6]) (blk_put (cs := #[v0, v1, v2, v3, o4, o5, o6]) (blk_put (cs := #[v0, v1, v2, o3, o4, o5, o6]) (blk_put (cs := #[v0, v1, o2, o3, o4, o5, o6]) (blk_put (cs := #[v0, o1, o2, o3, o4, o5, o6]) (blk_put (cs := #[o0, o1, o2, o3, o4, o5, o6]) h 0 v0 rfl) 1 v1 rfl) 2 v2 rfl) 3 v3 rfl) 4 v4 rfl) 5 v5 rfl) 6 v6 rfl)
theorem c8 {w : World} {g t : Nat} {v0 v1 v2 v3 v4 v5 v6 v7 : Value} (h : w.heap[g]? = some (.cells #[v0, v1, v2, v3, v4, v5, v6, v7] t (0, 0))) : w.cell? ⟨g, 0, none⟩ = some v0 ∧ w.cell? ⟨g, 1, none⟩ = some v1 ∧ w.cell? ⟨g, 2, none⟩ = some v2 ∧ w.cell? ⟨g, 3, none⟩ = some v3 ∧ w.cell? ⟨g, 4, none⟩ = some v4 ∧ w.cell? ⟨g, 5, none⟩ = some v5 ∧ w.cell? ⟨g, 6, none⟩ = some v6 ∧ w.cell? ⟨g, 7, none⟩ = some v7 ∧ w.frozen? ⟨g, 0, none⟩ = false ∧ w.frozen? ⟨g, 1, none⟩ = false ∧ w.frozen? ⟨g, 2, none⟩ = false ∧ w.frozen? ⟨g, 3, none⟩ = false ∧ w.frozen? ⟨g, 4, none⟩ = false ∧ w.frozen? ⟨g, 5, none⟩ = false ∧ w.frozen? ⟨g, 6, none⟩ = false ∧ w.frozen? ⟨g, 7, none⟩ = false :=
  ⟨(blk_cell h 0).trans rfl, (blk_cell h 1).trans rfl, (blk_cell h 2).trans rfl, (blk_cell h 3).trans rfl, (blk_cell h 4).trans rfl, (blk_cell h 5).trans rfl, (blk_cell h 6).trans rfl, (blk_cell h 7).trans rfl, blk_frozen h 0, blk_frozen h 1, blk_frozen h 2, blk_frozen h 3, blk_frozen h 4, blk_frozen h 5, blk_frozen h 6, blk_frozen h 7⟩
theorem put8 {w : World} {g t : Nat} {v0 v1 v2 v3 v4 v5 v6 v7 o0 o1 o2 o3 o4 o5 o6 o7 : Value} (h : w.heap[g]? = some (.cells #[o0, o1, o2, o3, o4, o5, o6, o7] t (0, 0))) : ((((((((w.setCell ⟨g, 0, none⟩ v0).setCell ⟨g, 1, none⟩ v1).setCell ⟨g, 2, none⟩ v2).setCell ⟨g, 3, none⟩ v3).setCell ⟨g, 4, none⟩ v4).setCell ⟨g, 5, none⟩ v5).setCell ⟨g, 6, none⟩ v6).setCell ⟨g, 7, none⟩ v7).heap[g]? = some (.cells #[v0, v1, v2, v3, v4, v5, v6, v7] t (0, 0)) :=
  (blk_put (cs := #[v0, v1, v2, v3, v4, v5, v6, o7]) (blk_put (cs := #[v0, v1, v2, v3, v4, v5, o6, o7]) (blk_put (cs := #[v0, v1, v2, v3, v4, o5, o6, o7]) (blk_put (cs := #[v0, v1, v2, v3, o4, o5, o6, o7]) (blk_put (cs := #[v0, v1, v2, o3, o4, o5, o6, o7]) (blk_put (cs := #[v0, v1, o2, o3, o4, o5, o6, o7]) (blk_put (cs := #[v0, o1, o2, o3, o4, o5, o6, o7]) (blk_put (cs := #[o0, o1, o2, o3, o4, o5, o6, o7]) h 0 v0 rfl) 1 v1 rfl) 2 v2 rfl) 3 v3 rfl) 4 v4 rfl) 5 v5 rfl) 6 v6 rfl) 7 v7 rfl)
theorem cB {w w' : World} {a : Addr} {v : Value} (hB : Below w.heap.size w w') (h : w.cell? a = some v) : w'.cell? a = some v := (hB.cell (World.block_lt_of_cell? w _ h)).trans h
end Go.Proofs.YtfibaganajembaaDoor.X.Sq

-- XspecFlawTextF4
namespace Go.Proofs.YtfibaganajembaaDoor.X
open Ho (bS eS)
open Go.RowKit Go.Proofs.YtfibaganajembaaDoorW.PrintWords Go.Proofs.YtfibaganajembaaDoorW.PrintLast Go.Proofs.YtfibaganajembaaDoorW.PrintMore
attribute [local go_sem] max2_int min2_int max_two min_two max_three min_three max_four min_four   -- for this text's walks alone
set_option linter.unusedVariables false
set_option linter.unusedSimpArgs false

open Sq (I O Z)
attribute [local go_sem ↓] Ho.isSome_setCell_   -- a store leaves all places there
/-! ### spec_FlawText: function 4 -/
def spec_FlawText.j0 : Nat → Bool → Int → Int → Int → Int → Option (ByteArray × Bool)
  | 0, _, _, _, _, _ => none
  | k + 1, x18, x102000, x102001, x102002, x102003 => if x18 = true then (some ((⟨#[]⟩ : ByteArray), false)) else ((some (([(⟨#[107, 110, 111, 116]⟩ : ByteArray), (⟨#[101, 100, 103, 101]⟩ : ByteArray), (⟨#[115, 116, 97, 105, 110]⟩ : ByteArray), (⟨#[115, 107, 101, 119]⟩ : ByteArray), (⟨#[98, 111, 114, 100, 101, 114]⟩ : ByteArray)] : List ByteArray) : List ByteArray)).bind fun y105 => (if 0 ≤ x102000 then (if x102000 < (y105.length : Int) then (if (rdOf ByteArray.empty y105 x102000).size + 1 ≤ 9223372036854775807 then ((spec_l1Num.f k x102003).bind fun t109 => (if ((rdOf ByteArray.empty y105 x102000) ++ (⟨#[32]⟩ : ByteArray)).size + t109.size ≤ 9223372036854775807 then (if (((rdOf ByteArray.empty y105 x102000) ++ (⟨#[32]⟩ : ByteArray)) ++ t109).size + 4 ≤ 9223372036854775807 then ((spec_l1Num.f k x102001).bind fun t110 => (if ((((rdOf ByteArray.empty y105 x102000) ++ (⟨#[32]⟩ : ByteArray)) ++ t109) ++ (⟨#[32, 97, 116, 32]⟩ : ByteArray)).size + t110.size ≤ 9223372036854775807 then (if (((((rdOf ByteArray.empty y105 x102000) ++ (⟨#[32]⟩ : ByteArray)) ++ t109) ++ (⟨#[32, 97, 116, 32]⟩ : ByteArray)) ++ t110).size + 1 ≤ 9223372036854775807 then ((spec_l1Num.f k x102002).bind fun t111 => (if ((((((rdOf ByteArray.empty y105 x102000) ++ (⟨#[32]⟩ : ByteArray)) ++ t109) ++ (⟨#[32, 97, 116, 32]⟩ : ByteArray)) ++ t110) ++ (⟨#[47]⟩ : ByteArray)).size + t111.size ≤ 9223372036854775807 then (some (((((((rdOf ByteArray.empty y105 x102000) ++ (⟨#[32]⟩ : ByteArray)) ++ t109) ++ (⟨#[32, 97, 116, 32]⟩ : ByteArray)) ++ t110) ++ (⟨#[47]⟩ : ByteArray)) ++ t111, true)) else (none))) else (none)) else (none))) else (none)) else (none))) else (none)) else (none)) else (none)))
def spec_FlawText.f (k : Nat) (a0_0 : Int) (a0_1 : Int) (a0_2 : Int) (a0_3 : Int) : Option (ByteArray × Bool) := (spec_l22Flaw.f a0_0 a0_1 a0_2 a0_3).bind fun t102 => (if t102 = true then ((spec_l1In.f a0_1 0 7).bind fun t103 => (if t103 = true then ((spec_l1In.f a0_2 0 7).bind fun t104 => (spec_FlawText.j0 k (!t104) a0_0 a0_1 a0_2 a0_3)) else (spec_FlawText.j0 k true a0_0 a0_1 a0_2 a0_3))) else (spec_FlawText.j0 k true a0_0 a0_1 a0_2 a0_3))
theorem spec_FlawText.mono_l : ∀ k, (∀ y0 y1 y2 y3 y4, LeO (spec_FlawText.j0 k y0 y1 y2 y3 y4) (spec_FlawText.j0 (k + 1) y0 y1 y2 y3 y4))
  | 0 => fun _ _ _ _ _ r h => by simp [spec_FlawText.j0] at h
  | k + 1 => by
    have ih0 := spec_FlawText.mono_l k
    · intro y0 y1 y2 y3 y4
      unfold spec_FlawText.j0
      repeat' first
      | (with_reducible exact ih0 _ _ _ _ _)
      | (with_reducible exact spec_l1Num.mono _ _)
      | (with_reducible exact LeO.refl _)
      | (with_reducible exact LeO.none _)
      | (with_reducible refine LeO.ite ?_ ?_)
      | (with_reducible refine LeO.bind ?_ (fun _ => ?_))
      | exact ih0 _ _ _ _ _
      | exact spec_l1Num.mono _ _
      | exact LeO.none _
      | refine LeO.ite ?_ ?_
      | refine LeO.bind ?_ (fun _ => ?_)
theorem spec_FlawText.mono : ∀ a0 a1 a2 a3 k, LeO (spec_FlawText.f k a0 a1 a2 a3) (spec_FlawText.f (k + 1) a0 a1 a2 a3) := by
  intro a0 a1 a2 a3 k
  have ih0 := spec_FlawText.mono_l k
  unfold spec_FlawText.f
  repeat' first
      | (with_reducible exact ih0 _ _ _ _ _)
      | (with_reducible exact spec_l1Num.mono _ _)
      | (with_reducible exact LeO.refl _)
      | (with_reducible exact LeO.none _)
      | (with_reducible refine LeO.ite ?_ ?_)
      | (with_reducible refine LeO.bind ?_ (fun _ => ?_))
      | exact ih0 _ _ _ _ _
      | exact spec_l1Num.mono _ _
      | exact LeO.none _
      | refine LeO.ite ?_ ?_
      | refine LeO.bind ?_ (fun _ => ?_)
def spec_FlawText.T3 : Bool × List (List Nat × List Nat) := (true, [([], []), ([], []), ([1], [1]), ([0, 2], [0, 2]), ([3], [3]), ([4], [4]), ([], []), ([6], [6]), ([7], [7]), ([5, 8], [5, 8]), ([9], [9]), ([], []), ([11], [11]), ([12, 8], [12]), ([10, 13], [10, 13]), ([14], [14]), ([], []), ([16], [16]), ([17, 13], [17]), ([15, 18], [15, 18]), ([19, 18, 0, 1, 2, 3, 4, 5, 6, 7, 8, 9, 10, 11, 12, 13, 14, 15, 16, 17, 18, 19], [19]), ([20, 0, 1, 2, 3, 4, 5, 6, 7, 8, 9, 10, 11, 12, 13, 14, 15, 16, 17, 18, 19, 20], [])])
def spec_FlawText.B3 : List Nat := [0, 0, 2, 7, 15, 31, 0, 64, 192, 511, 1023, 0, 2048, 6592, 16383, 32767, 0, 65536, 211392, 524287, 1048575, 2097151]
theorem spec_FlawText.tab3 : rtab .any (opsOf Tryd.f4 3) = spec_FlawText.T3 := by kernel_rfl
theorem spec_FlawText.bits3 : waitsOk spec_FlawText.T3.2 spec_FlawText.B3 = true := by kernel_rfl
set_option maxHeartbeats 8000000 in
set_option maxRecDepth 100000 in
theorem spec_FlawText.calls (k : Nat) (a0_0 : Int) (a0_1 : Int) (a0_2 : Int) (a0_3 : Int) (r1 : ByteArray) (r2 : Bool) (w : World) (h : spec_FlawText.f k a0_0 a0_1 a0_2 a0_3 = some (r1, r2)) :
  Calls Tryd.prog 4 #[.agg #[.int .i64 a0_0, .int .i64 a0_1, .int .i64 a0_2, .int .i64 a0_3]] w fun e w' => e = .returned (.tuple #[.string r1, .bool r2]) ∧ Below w.heap.size w w' := by
 have hu26 := Tryd.underlying26
 have HB := Aside0.mk (Below.refl w.heap.size w)
 have H : ((spec_l22Flaw.f a0_0 a0_1 a0_2 a0_3).bind fun t102 => (if t102 = true then ((spec_l1In.f a0_1 0 7).bind fun t103 => (if t103 = true then ((spec_l1In.f a0_2 0 7).bind fun t104 => (spec_FlawText.j0 k (!t104) a0_0 a0_1 a0_2 a0_3)) else (spec_FlawText.j0 k true a0_0 a0_1 a0_2 a0_3))) else (spec_FlawText.j0 k true a0_0 a0_1 a0_2 a0_3))) = some (r1, r2) := h
 clear h
 have HC2 := Aside0.mk H
 clear H
 go_enter Tryd.func4, Tryd.ntmps4
 go_upto_region 1 with (first | ((with_reducible refine gate_dst (N := 1) rfl ?_); refine box_event ?hg (N := 1) ?hd (cs := #[.int .i64 a0_0, .int .i64 a0_1, .int .i64 a0_2, .int .i64 a0_3]) (t := 26) ?hr ?_; (case hd => rfl); (case hg => rfl); (case hr => first | (go_simp; done) | (go_simp; rfl)); intro gb101 hg w3 hbox hb; have n0_ := Aside0.mk (below_step (by exact eS HB.out) hb); have n1_ := Aside0.mk (hbox); have n2_ := Aside0.mk ((by rw [hg]; exact (below_size (by exact eS HB.out)) : w.heap.size ≤ gb101)); have n3_ := Aside0.mk ((by rw [hg]; exact (below_size (by exact eS HB.out)) : w.heap.size ≤ gb101)); clear HB; have HB := n0_; have BK101 := n1_; have GW101 := n2_; have GE101 := n3_; clear n0_ n1_ n2_ n3_; clear hb hbox hg))
 (try simp only [Act.put, List.setIfInBounds_toArray, List.set_cons_zero, List.set_cons_succ])
 go_cut [18] (fun v18 wc => ∃ (kq : Nat) (x18_1 : Bool), v18 = .bool x18_1 ∧ Aside0 (spec_FlawText.j0 kq x18_1 a0_0 a0_1 a0_2 a0_3 = some (r1, r2)) ∧ Aside0 (kq ≤ k) ∧ Aside0 (wc.heap[gb101]? = some (.cells #[.int .i64 a0_0, .int .i64 a0_1, .int .i64 a0_2, .int .i64 a0_3] 26 (0, 0))) ∧ Aside0 (Below w.heap.size w wc))
 case first =>
  have H := HC2.out
  clear HC2
  replace H := Option.bind_eq_some_iff.mp H
  obtain ⟨t102, A40, H⟩ := H
  replace H : (if t102 = true then ((spec_l1In.f a0_1 0 7).bind fun t103 => (if t103 = true then ((spec_l1In.f a0_2 0 7).bind fun t104 => (spec_FlawText.j0 k (!t104) a0_0 a0_1 a0_2 a0_3)) else (spec_FlawText.j0 k true a0_0 a0_1 a0_2 a0_3))) else (spec_FlawText.j0 k true a0_0 a0_1 a0_2 a0_3)) = some (r1, r2) := H
  have A4 := Aside0.mk A40
  clear A40
  by_cases c5 : t102 = true
  ·subst c5
   have H1 : ((spec_l1In.f a0_1 0 7).bind fun t103 => (if t103 = true then ((spec_l1In.f a0_2 0 7).bind fun t104 => (spec_FlawText.j0 k (!t104) a0_0 a0_1 a0_2 a0_3)) else (spec_FlawText.j0 k true a0_0 a0_1 a0_2 a0_3))) = some (r1, r2) := by rw [if_pos rfl] at H; exact H
   clear H
   have H := H1
   clear H1
   replace H := Option.bind_eq_some_iff.mp H
   obtain ⟨t103, A60, H⟩ := H
   replace H : (if t103 = true then ((spec_l1In.f a0_2 0 7).bind fun t104 => (spec_FlawText.j0 k (!t104) a0_0 a0_1 a0_2 a0_3)) else (spec_FlawText.j0 k true a0_0 a0_1 a0_2 a0_3)) = some (r1, r2) := H
   have A6 := Aside0.mk A60
   clear A60
   by_cases c7 : t103 = true
   ·subst c7
    have H1 : ((spec_l1In.f a0_2 0 7).bind fun t104 => (spec_FlawText.j0 k (!t104) a0_0 a0_1 a0_2 a0_3)) = some (r1, r2) := by rw [if_pos rfl] at H; exact H
    clear H
    have H := H1
    clear H1
    replace H := Option.bind_eq_some_iff.mp H
    obtain ⟨t104, A80, H⟩ := H
    replace H : (spec_FlawText.j0 k (!t104) a0_0 a0_1 a0_2 a0_3) = some (r1, r2) := H
    have A8 := Aside0.mk A80
    clear A80
    have H' := Aside0.mk H
    clear H
    have hcz9_0 : w3.cell? ⟨gb101, 0, none⟩ = some (.int .i64 a0_0) := (blk_cell BK101.out 0).trans rfl
    have hcz9_1 : w3.cell? ⟨gb101, 1, none⟩ = some (.int .i64 a0_1) := (blk_cell BK101.out 1).trans rfl
    have hcz9_2 : w3.cell? ⟨gb101, 2, none⟩ = some (.int .i64 a0_2) := (blk_cell BK101.out 2).trans rfl
    have hcz9_3 : w3.cell? ⟨gb101, 3, none⟩ = some (.int .i64 a0_3) := (blk_cell BK101.out 3).trans rfl
    have hfz9_0 := blk_frozen BK101.out 0
    have hfz9_1 := blk_frozen BK101.out 1
    have hfz9_2 := blk_frozen BK101.out 2
    have hfz9_3 := blk_frozen BK101.out 3
    go_wp2_with (first | ((with_reducible refine gate_callee (f := 7) rfl ?_); refine goesL_ (some 5) rfl rfl Tryd.func7 (by kernel_rfl) rfl #[.agg #[.int .i64 a0_0, .int .i64 a0_1, .int .i64 a0_2, .int .i64 a0_3]] rfl (by (try simp only [List.map_toArray, List.map_cons, List.map_nil]); first | done | rfl | (simp only [List.length_drop, List.length_take]; rfl)) ?_; (with_reducible refine (spec_l22Flaw.calls a0_0 a0_1 a0_2 a0_3 true _ A4.out).mono ?_); rintro e w10 ⟨rfl, hb⟩; refine ⟨_, rfl, ?_⟩; have n0_ := Aside0.mk (blk_below (bS BK101.out) hb); have n1_ := Aside0.mk (below_step (by exact eS HB.out) hb); clear BK101; clear HB; have BK101 := n0_; have HB := n1_; clear n0_ n1_; (try clear hb); (try clear hb2); (try clear hk); (try clear hi); have hcz11_0 : w10.cell? ⟨gb101, 0, none⟩ = some (.int .i64 a0_0) := (blk_cell BK101.out 0).trans rfl; have hcz11_1 : w10.cell? ⟨gb101, 1, none⟩ = some (.int .i64 a0_1) := (blk_cell BK101.out 1).trans rfl; have hcz11_2 : w10.cell? ⟨gb101, 2, none⟩ = some (.int .i64 a0_2) := (blk_cell BK101.out 2).trans rfl; have hcz11_3 : w10.cell? ⟨gb101, 3, none⟩ = some (.int .i64 a0_3) := (blk_cell BK101.out 3).trans rfl; have hfz11_0 := blk_frozen BK101.out 0; have hfz11_1 := blk_frozen BK101.out 1; have hfz11_2 := blk_frozen BK101.out 2; have hfz11_3 := blk_frozen BK101.out 3) | (go_at_call 8; (with_reducible refine (spec_l1In.calls a0_1 0 7 true _ A6.out).mono ?_); rintro e w' ⟨rfl, ⟨nd, rfl⟩⟩) | (go_at_call 8; (with_reducible refine (spec_l1In.calls a0_2 0 7 t104 _ A8.out).mono ?_); rintro e w' ⟨rfl, ⟨nd, rfl⟩⟩))
    go_meet
    case rel => exact ⟨_, (!t104), (by first | rfl | (simp; done) | (simp [*]; done)), H', ⟨by first | omega | exact Nat.le_refl _⟩, ⟨by exact bS BK101.out⟩, ⟨by exact eS HB.out⟩⟩
   ·replace c7 := Bool.eq_false_iff.mpr c7
    subst c7
    have H1 : (spec_FlawText.j0 k true a0_0 a0_1 a0_2 a0_3) = some (r1, r2) := by rw [if_neg (show ¬ (false = true) by decide)] at H; exact H
    clear H
    have H := H1
    clear H1
    have H' := Aside0.mk H
    clear H
    have hcz12_0 : w3.cell? ⟨gb101, 0, none⟩ = some (.int .i64 a0_0) := (blk_cell BK101.out 0).trans rfl
    have hcz12_1 : w3.cell? ⟨gb101, 1, none⟩ = some (.int .i64 a0_1) := (blk_cell BK101.out 1).trans rfl
    have hcz12_2 : w3.cell? ⟨gb101, 2, none⟩ = some (.int .i64 a0_2) := (blk_cell BK101.out 2).trans rfl
    have hcz12_3 : w3.cell? ⟨gb101, 3, none⟩ = some (.int .i64 a0_3) := (blk_cell BK101.out 3).trans rfl
    have hfz12_0 := blk_frozen BK101.out 0
    have hfz12_1 := blk_frozen BK101.out 1
    have hfz12_2 := blk_frozen BK101.out 2
    have hfz12_3 := blk_frozen BK101.out 3
    go_wp2_with (first | ((with_reducible refine gate_callee (f := 7) rfl ?_); refine goesL_ (some 5) rfl rfl Tryd.func7 (by kernel_rfl) rfl #[.agg #[.int .i64 a0_0, .int .i64 a0_1, .int .i64 a0_2, .int .i64 a0_3]] rfl (by (try simp only [List.map_toArray, List.map_cons, List.map_nil]); first | done | rfl | (simp only [List.length_drop, List.length_take]; rfl)) ?_; (with_reducible refine (spec_l22Flaw.calls a0_0 a0_1 a0_2 a0_3 true _ A4.out).mono ?_); rintro e w13 ⟨rfl, hb⟩; refine ⟨_, rfl, ?_⟩; have n0_ := Aside0.mk (blk_below (bS BK101.out) hb); have n1_ := Aside0.mk (below_step (by exact eS HB.out) hb); clear BK101; clear HB; have BK101 := n0_; have HB := n1_; clear n0_ n1_; (try clear hb); (try clear hb2); (try clear hk); (try clear hi); have hcz14_0 : w13.cell? ⟨gb101, 0, none⟩ = some (.int .i64 a0_0) := (blk_cell BK101.out 0).trans rfl; have hcz14_1 : w13.cell? ⟨gb101, 1, none⟩ = some (.int .i64 a0_1) := (blk_cell BK101.out 1).trans rfl; have hcz14_2 : w13.cell? ⟨gb101, 2, none⟩ = some (.int .i64 a0_2) := (blk_cell BK101.out 2).trans rfl; have hcz14_3 : w13.cell? ⟨gb101, 3, none⟩ = some (.int .i64 a0_3) := (blk_cell BK101.out 3).trans rfl; have hfz14_0 := blk_frozen BK101.out 0; have hfz14_1 := blk_frozen BK101.out 1; have hfz14_2 := blk_frozen BK101.out 2; have hfz14_3 := blk_frozen BK101.out 3) | (go_at_call 8; (with_reducible refine (spec_l1In.calls a0_1 0 7 false _ A6.out).mono ?_); rintro e w' ⟨rfl, ⟨nd, rfl⟩⟩))
    go_meet
    case rel => exact ⟨_, (true), (by first | rfl | (simp; done) | (simp [*]; done)), H', ⟨by first | omega | exact Nat.le_refl _⟩, ⟨by exact bS BK101.out⟩, ⟨by exact eS HB.out⟩⟩
  ·replace c5 := Bool.eq_false_iff.mpr c5
   subst c5
   have H1 : (spec_FlawText.j0 k true a0_0 a0_1 a0_2 a0_3) = some (r1, r2) := by rw [if_neg (show ¬ (false = true) by decide)] at H; exact H
   clear H
   have H := H1
   clear H1
   have H' := Aside0.mk H
   clear H
   have hcz15_0 : w3.cell? ⟨gb101, 0, none⟩ = some (.int .i64 a0_0) := (blk_cell BK101.out 0).trans rfl
   have hcz15_1 : w3.cell? ⟨gb101, 1, none⟩ = some (.int .i64 a0_1) := (blk_cell BK101.out 1).trans rfl
   have hcz15_2 : w3.cell? ⟨gb101, 2, none⟩ = some (.int .i64 a0_2) := (blk_cell BK101.out 2).trans rfl
   have hcz15_3 : w3.cell? ⟨gb101, 3, none⟩ = some (.int .i64 a0_3) := (blk_cell BK101.out 3).trans rfl
   have hfz15_0 := blk_frozen BK101.out 0
   have hfz15_1 := blk_frozen BK101.out 1
   have hfz15_2 := blk_frozen BK101.out 2
   have hfz15_3 := blk_frozen BK101.out 3
   go_wp2_with (first | ((with_reducible refine gate_callee (f := 7) rfl ?_); refine goesL_ (some 5) rfl rfl Tryd.func7 (by kernel_rfl) rfl #[.agg #[.int .i64 a0_0, .int .i64 a0_1, .int .i64 a0_2, .int .i64 a0_3]] rfl (by (try simp only [List.map_toArray, List.map_cons, List.map_nil]); first | done | rfl | (simp only [List.length_drop, List.length_take]; rfl)) ?_; (with_reducible refine (spec_l22Flaw.calls a0_0 a0_1 a0_2 a0_3 false _ A4.out).mono ?_); rintro e w16 ⟨rfl, hb⟩; refine ⟨_, rfl, ?_⟩; have n0_ := Aside0.mk (blk_below (bS BK101.out) hb); have n1_ := Aside0.mk (below_step (by exact eS HB.out) hb); clear BK101; clear HB; have BK101 := n0_; have HB := n1_; clear n0_ n1_; (try clear hb); (try clear hb2); (try clear hk); (try clear hi)))
   go_meet
   case rel => exact ⟨_, (true), (by first | rfl | (simp; done) | (simp [*]; done)), H', ⟨by first | omega | exact Nat.le_refl _⟩, ⟨by exact bS BK101.out⟩, ⟨by exact eS HB.out⟩⟩
 case rest =>
  clear HC2
  try clear p2
  try clear c4
  try clear c5
  try clear c7
  try clear hcz11_0
  try clear hcz11_1
  try clear hcz11_2
  try clear hcz11_3
  try clear hcz12_0
  try clear hcz12_1
  try clear hcz12_2
  try clear hcz12_3
  try clear hcz14_0
  try clear hcz14_1
  try clear hcz14_2
  try clear hcz14_3
  try clear hcz15_0
  try clear hcz15_1
  try clear hcz15_2
  try clear hcz15_3
  try clear hcz9_0
  try clear hcz9_1
  try clear hcz9_2
  try clear hcz9_3
  try clear hfz11_0
  try clear hfz11_1
  try clear hfz11_2
  try clear hfz11_3
  try clear hfz12_0
  try clear hfz12_1
  try clear hfz12_2
  try clear hfz12_3
  try clear hfz14_0
  try clear hfz14_1
  try clear hfz14_2
  try clear hfz14_3
  try clear hfz15_0
  try clear hfz15_1
  try clear hfz15_2
  try clear hfz15_3
  try clear hfz9_0
  try clear hfz9_1
  try clear hfz9_2
  try clear hfz9_3
  obtain ⟨kq, x18_1, rfl, HA, HJ1, BK101, HB⟩ := hcut
  cases kq with
  | zero => exact absurd HA.out (by simp [spec_FlawText.j0])
  | succ kj1 =>
   have H := HA.out
   clear HA
   simp only [spec_FlawText.j0] at H
   by_cases c17 : x18_1 = true
   ·subst c17
    have H1 : (some ((⟨#[]⟩ : ByteArray), false)) = some (r1, r2) := by rw [if_pos rfl] at H; exact H
    clear H
    have H := H1
    clear H1
    simp only [Option.some.injEq, Prod.mk.injEq] at H
    obtain ⟨rfl, rfl⟩ := H
    go_wp2
    go_ret2
    exact ⟨by first | rfl | (simp [errW_none, errW_some] <;> rfl) | (simp [*, errW_none, errW_some] <;> rfl), by exact eS HB.out⟩
   ·replace c17 := Bool.eq_false_iff.mpr c17
    subst c17
    have H1 : ((some (([(⟨#[107, 110, 111, 116]⟩ : ByteArray), (⟨#[101, 100, 103, 101]⟩ : ByteArray), (⟨#[115, 116, 97, 105, 110]⟩ : ByteArray), (⟨#[115, 107, 101, 119]⟩ : ByteArray), (⟨#[98, 111, 114, 100, 101, 114]⟩ : ByteArray)] : List ByteArray) : List ByteArray)).bind fun y105 => (if 0 ≤ a0_0 then (if a0_0 < (y105.length : Int) then (if (rdOf ByteArray.empty y105 a0_0).size + 1 ≤ 9223372036854775807 then ((spec_l1Num.f kj1 a0_3).bind fun t109 => (if ((rdOf ByteArray.empty y105 a0_0) ++ (⟨#[32]⟩ : ByteArray)).size + t109.size ≤ 9223372036854775807 then (if (((rdOf ByteArray.empty y105 a0_0) ++ (⟨#[32]⟩ : ByteArray)) ++ t109).size + 4 ≤ 9223372036854775807 then ((spec_l1Num.f kj1 a0_1).bind fun t110 => (if ((((rdOf ByteArray.empty y105 a0_0) ++ (⟨#[32]⟩ : ByteArray)) ++ t109) ++ (⟨#[32, 97, 116, 32]⟩ : ByteArray)).size + t110.size ≤ 9223372036854775807 then (if (((((rdOf ByteArray.empty y105 a0_0) ++ (⟨#[32]⟩ : ByteArray)) ++ t109) ++ (⟨#[32, 97, 116, 32]⟩ : ByteArray)) ++ t110).size + 1 ≤ 9223372036854775807 then ((spec_l1Num.f kj1 a0_2).bind fun t111 => (if ((((((rdOf ByteArray.empty y105 a0_0) ++ (⟨#[32]⟩ : ByteArray)) ++ t109) ++ (⟨#[32, 97, 116, 32]⟩ : ByteArray)) ++ t110) ++ (⟨#[47]⟩ : ByteArray)).size + t111.size ≤ 9223372036854775807 then (some (((((((rdOf ByteArray.empty y105 a0_0) ++ (⟨#[32]⟩ : ByteArray)) ++ t109) ++ (⟨#[32, 97, 116, 32]⟩ : ByteArray)) ++ t110) ++ (⟨#[47]⟩ : ByteArray)) ++ t111, true)) else (none))) else (none)) else (none))) else (none)) else (none))) else (none)) else (none)) else (none))) = some (r1, r2) := by rw [if_neg (show ¬ (false = true) by decide)] at H; exact H
    clear H
    have H := H1
    clear H1
    obtain ⟨y105, hy105⟩ : ∃ y_ : List ByteArray, y_ = (([(⟨#[107, 110, 111, 116]⟩ : ByteArray), (⟨#[101, 100, 103, 101]⟩ : ByteArray), (⟨#[115, 116, 97, 105, 110]⟩ : ByteArray), (⟨#[115, 107, 101, 119]⟩ : ByteArray), (⟨#[98, 111, 114, 100, 101, 114]⟩ : ByteArray)] : List ByteArray)) := ⟨_, rfl⟩
    replace H : (if 0 ≤ a0_0 then (if a0_0 < (y105.length : Int) then (if (rdOf ByteArray.empty y105 a0_0).size + 1 ≤ 9223372036854775807 then ((spec_l1Num.f kj1 a0_3).bind fun t109 => (if ((rdOf ByteArray.empty y105 a0_0) ++ (⟨#[32]⟩ : ByteArray)).size + t109.size ≤ 9223372036854775807 then (if (((rdOf ByteArray.empty y105 a0_0) ++ (⟨#[32]⟩ : ByteArray)) ++ t109).size + 4 ≤ 9223372036854775807 then ((spec_l1Num.f kj1 a0_1).bind fun t110 => (if ((((rdOf ByteArray.empty y105 a0_0) ++ (⟨#[32]⟩ : ByteArray)) ++ t109) ++ (⟨#[32, 97, 116, 32]⟩ : ByteArray)).size + t110.size ≤ 9223372036854775807 then (if (((((rdOf ByteArray.empty y105 a0_0) ++ (⟨#[32]⟩ : ByteArray)) ++ t109) ++ (⟨#[32, 97, 116, 32]⟩ : ByteArray)) ++ t110).size + 1 ≤ 9223372036854775807 then ((spec_l1Num.f kj1 a0_2).bind fun t111 => (if ((((((rdOf ByteArray.empty y105 a0_0) ++ (⟨#[32]⟩ : ByteArray)) ++ t109) ++ (⟨#[32, 97, 116, 32]⟩ : ByteArray)) ++ t110) ++ (⟨#[47]⟩ : ByteArray)).size + t111.size ≤ 9223372036854775807 then (some (((((((rdOf ByteArray.empty y105 a0_0) ++ (⟨#[32]⟩ : ByteArray)) ++ t109) ++ (⟨#[32, 97, 116, 32]⟩ : ByteArray)) ++ t110) ++ (⟨#[47]⟩ : ByteArray)) ++ t111, true)) else (none))) else (none)) else (none))) else (none)) else (none))) else (none)) else (none)) else (none)) = some (r1, r2) := by first | (rw [hy105]; with_reducible exact H) | (have H2_ := (Option.bind_some _ _).symm.trans H; rw [hy105]; with_reducible exact H2_) | (have H2_ := (Option.bind_some _ _).symm.trans H; with_reducible exact H2_) | with_reducible exact H | (rw [hy105]; exact H) | exact H
    have Ny105 := Aside0.mk hy105
    clear hy105
    by_cases c18 : 0 ≤ a0_0
    ·rw [if_pos c18] at H
     have c18b0 : decide (0 ≤ a0_0) = true := decide_eq_true c18
     clear c18
     by_cases c19 : a0_0 < (y105.length : Int)
     ·rw [if_pos c19] at H
      have c19b0 : decide (a0_0 < (y105.length : Int)) = true := decide_eq_true c19
      clear c19
      by_cases c20 : (rdOf ByteArray.empty y105 a0_0).size + 1 ≤ 9223372036854775807
      ·rw [if_pos c20] at H
       have c20b0 := eq_true c20
       have c20b1 : decide ((rdOf ByteArray.empty y105 a0_0).size + 1 ≤ 9223372036854775807) = true := decide_eq_true c20
       try have c20b2 : (9223372036854775807 < (rdOf ByteArray.empty y105 a0_0).size + 1) = False := eq_false (Nat.not_lt.2 c20)
       replace H := Option.bind_eq_some_iff.mp H
       obtain ⟨t109, A210, H⟩ := H
       replace H : (if ((rdOf ByteArray.empty y105 a0_0) ++ (⟨#[32]⟩ : ByteArray)).size + t109.size ≤ 9223372036854775807 then (if (((rdOf ByteArray.empty y105 a0_0) ++ (⟨#[32]⟩ : ByteArray)) ++ t109).size + 4 ≤ 9223372036854775807 then ((spec_l1Num.f kj1 a0_1).bind fun t110 => (if ((((rdOf ByteArray.empty y105 a0_0) ++ (⟨#[32]⟩ : ByteArray)) ++ t109) ++ (⟨#[32, 97, 116, 32]⟩ : ByteArray)).size + t110.size ≤ 9223372036854775807 then (if (((((rdOf ByteArray.empty y105 a0_0) ++ (⟨#[32]⟩ : ByteArray)) ++ t109) ++ (⟨#[32, 97, 116, 32]⟩ : ByteArray)) ++ t110).size + 1 ≤ 9223372036854775807 then ((spec_l1Num.f kj1 a0_2).bind fun t111 => (if ((((((rdOf ByteArray.empty y105 a0_0) ++ (⟨#[32]⟩ : ByteArray)) ++ t109) ++ (⟨#[32, 97, 116, 32]⟩ : ByteArray)) ++ t110) ++ (⟨#[47]⟩ : ByteArray)).size + t111.size ≤ 9223372036854775807 then (some (((((((rdOf ByteArray.empty y105 a0_0) ++ (⟨#[32]⟩ : ByteArray)) ++ t109) ++ (⟨#[32, 97, 116, 32]⟩ : ByteArray)) ++ t110) ++ (⟨#[47]⟩ : ByteArray)) ++ t111, true)) else (none))) else (none)) else (none))) else (none)) else (none)) = some (r1, r2) := H
       have A21 := Aside0.mk A210
       clear A210
       by_cases c22 : ((rdOf ByteArray.empty y105 a0_0) ++ (⟨#[32]⟩ : ByteArray)).size + t109.size ≤ 9223372036854775807
       ·rw [if_pos c22] at H
        have c22b0 := eq_true c22
        have c22b1 : decide (((rdOf ByteArray.empty y105 a0_0) ++ (⟨#[32]⟩ : ByteArray)).size + t109.size ≤ 9223372036854775807) = true := decide_eq_true c22
        try have c22b2 : (9223372036854775807 < ((rdOf ByteArray.empty y105 a0_0) ++ (⟨#[32]⟩ : ByteArray)).size + t109.size) = False := eq_false (Nat.not_lt.2 c22)
        by_cases c23 : (((rdOf ByteArray.empty y105 a0_0) ++ (⟨#[32]⟩ : ByteArray)) ++ t109).size + 4 ≤ 9223372036854775807
        ·rw [if_pos c23] at H
         have c23b0 := eq_true c23
         have c23b1 : decide ((((rdOf ByteArray.empty y105 a0_0) ++ (⟨#[32]⟩ : ByteArray)) ++ t109).size + 4 ≤ 9223372036854775807) = true := decide_eq_true c23
         try have c23b2 : (9223372036854775807 < (((rdOf ByteArray.empty y105 a0_0) ++ (⟨#[32]⟩ : ByteArray)) ++ t109).size + 4) = False := eq_false (Nat.not_lt.2 c23)
         replace H := Option.bind_eq_some_iff.mp H
         obtain ⟨t110, A240, H⟩ := H
         replace H : (if ((((rdOf ByteArray.empty y105 a0_0) ++ (⟨#[32]⟩ : ByteArray)) ++ t109) ++ (⟨#[32, 97, 116, 32]⟩ : ByteArray)).size + t110.size ≤ 9223372036854775807 then (if (((((rdOf ByteArray.empty y105 a0_0) ++ (⟨#[32]⟩ : ByteArray)) ++ t109) ++ (⟨#[32, 97, 116, 32]⟩ : ByteArray)) ++ t110).size + 1 ≤ 9223372036854775807 then ((spec_l1Num.f kj1 a0_2).bind fun t111 => (if ((((((rdOf ByteArray.empty y105 a0_0) ++ (⟨#[32]⟩ : ByteArray)) ++ t109) ++ (⟨#[32, 97, 116, 32]⟩ : ByteArray)) ++ t110) ++ (⟨#[47]⟩ : ByteArray)).size + t111.size ≤ 9223372036854775807 then (some (((((((rdOf ByteArray.empty y105 a0_0) ++ (⟨#[32]⟩ : ByteArray)) ++ t109) ++ (⟨#[32, 97, 116, 32]⟩ : ByteArray)) ++ t110) ++ (⟨#[47]⟩ : ByteArray)) ++ t111, true)) else (none))) else (none)) else (none)) = some (r1, r2) := H
         have A24 := Aside0.mk A240
         clear A240
         by_cases c25 : ((((rdOf ByteArray.empty y105 a0_0) ++ (⟨#[32]⟩ : ByteArray)) ++ t109) ++ (⟨#[32, 97, 116, 32]⟩ : ByteArray)).size + t110.size ≤ 9223372036854775807
         ·rw [if_pos c25] at H
          have c25b0 := eq_true c25
          have c25b1 : decide (((((rdOf ByteArray.empty y105 a0_0) ++ (⟨#[32]⟩ : ByteArray)) ++ t109) ++ (⟨#[32, 97, 116, 32]⟩ : ByteArray)).size + t110.size ≤ 9223372036854775807) = true := decide_eq_true c25
          try have c25b2 : (9223372036854775807 < ((((rdOf ByteArray.empty y105 a0_0) ++ (⟨#[32]⟩ : ByteArray)) ++ t109) ++ (⟨#[32, 97, 116, 32]⟩ : ByteArray)).size + t110.size) = False := eq_false (Nat.not_lt.2 c25)
          by_cases c26 : (((((rdOf ByteArray.empty y105 a0_0) ++ (⟨#[32]⟩ : ByteArray)) ++ t109) ++ (⟨#[32, 97, 116, 32]⟩ : ByteArray)) ++ t110).size + 1 ≤ 9223372036854775807
          ·rw [if_pos c26] at H
           have c26b0 := eq_true c26
           have c26b1 : decide ((((((rdOf ByteArray.empty y105 a0_0) ++ (⟨#[32]⟩ : ByteArray)) ++ t109) ++ (⟨#[32, 97, 116, 32]⟩ : ByteArray)) ++ t110).size + 1 ≤ 9223372036854775807) = true := decide_eq_true c26
           try have c26b2 : (9223372036854775807 < (((((rdOf ByteArray.empty y105 a0_0) ++ (⟨#[32]⟩ : ByteArray)) ++ t109) ++ (⟨#[32, 97, 116, 32]⟩ : ByteArray)) ++ t110).size + 1) = False := eq_false (Nat.not_lt.2 c26)
           replace H := Option.bind_eq_some_iff.mp H
           obtain ⟨t111, A270, H⟩ := H
           replace H : (if ((((((rdOf ByteArray.empty y105 a0_0) ++ (⟨#[32]⟩ : ByteArray)) ++ t109) ++ (⟨#[32, 97, 116, 32]⟩ : ByteArray)) ++ t110) ++ (⟨#[47]⟩ : ByteArray)).size + t111.size ≤ 9223372036854775807 then (some (((((((rdOf ByteArray.empty y105 a0_0) ++ (⟨#[32]⟩ : ByteArray)) ++ t109) ++ (⟨#[32, 97, 116, 32]⟩ : ByteArray)) ++ t110) ++ (⟨#[47]⟩ : ByteArray)) ++ t111, true)) else (none)) = some (r1, r2) := H
           have A27 := Aside0.mk A270
           clear A270
           by_cases c28 : ((((((rdOf ByteArray.empty y105 a0_0) ++ (⟨#[32]⟩ : ByteArray)) ++ t109) ++ (⟨#[32, 97, 116, 32]⟩ : ByteArray)) ++ t110) ++ (⟨#[47]⟩ : ByteArray)).size + t111.size ≤ 9223372036854775807
           ·rw [if_pos c28] at H
            have c28b0 := eq_true c28
            have c28b1 : decide (((((((rdOf ByteArray.empty y105 a0_0) ++ (⟨#[32]⟩ : ByteArray)) ++ t109) ++ (⟨#[32, 97, 116, 32]⟩ : ByteArray)) ++ t110) ++ (⟨#[47]⟩ : ByteArray)).size + t111.size ≤ 9223372036854775807) = true := decide_eq_true c28
            try have c28b2 : (9223372036854775807 < ((((((rdOf ByteArray.empty y105 a0_0) ++ (⟨#[32]⟩ : ByteArray)) ++ t109) ++ (⟨#[32, 97, 116, 32]⟩ : ByteArray)) ++ t110) ++ (⟨#[47]⟩ : ByteArray)).size + t111.size) = False := eq_false (Nat.not_lt.2 c28)
            simp only [Option.some.injEq, Prod.mk.injEq] at H
            obtain ⟨rfl, rfl⟩ := H
            try go_wp2
            have pi108 : (0 ≤ (a0_0 : Int)) = True := eq_true (of_decide_eq_true (by first | (with_reducible assumption) | assumption))
            have qi108 : (a0_0 < (y105.length : Int)) = True := eq_true (of_decide_eq_true (by first | (with_reducible assumption) | assumption))
            have n0_ := Aside0.mk (blk_drew BK101.out)
            have n1_ := Aside0.mk (below_drew1 HB.out)
            clear BK101
            clear HB
            have BK101 := n0_
            have HB := n1_
            clear n0_ n1_
            refine start_ (n := 22) (S := fun w' => True) (ds := []) #[O,O,O,O,O,O,O,O,O,O,O,O,O,O,O,O,O,O,O,O,O,O] (by kernel_rfl) rfl rfl trivial (fun hHeld => ?_); refine with_tabW spec_FlawText.tab3 spec_FlawText.bits3 (fun HT_ HW_ => ?_)
            generalize wc.drew = w29 at BK101 HB hHeld ⊢
            refine pure_ (i := 1) (N := some 20) (v := ?_) (a' := ?_) #[O,I,O,O,O,O,O,O,O,O,O,O,O,O,O,O,O,O,O,O,O,O] rfl rfl (any_of HT_.out (by kernel_rfl)) (fun _ _ _ h => h) (Or.inl ⟨by rfl, ?_⟩) ?_ ?_
            rotate_left; (intro w'; go_simp; with_reducible rfl); rotate_left; (simp only [Z]; rfl)
            refine pure_ (i := 6) (N := some 25) (v := ?_) (a' := ?_) #[O,I,O,O,O,O,I,O,O,O,O,O,O,O,O,O,O,O,O,O,O,O] rfl rfl (any_of HT_.out (by kernel_rfl)) (fun _ _ _ h => h) (Or.inl ⟨by rfl, ?_⟩) ?_ ?_
            rotate_left; (intro w'; go_simp; with_reducible rfl); rotate_left; (simp only [Z]; rfl)
            refine pure_ (i := 11) (N := some 30) (v := ?_) (a' := ?_) #[O,I,O,O,O,O,I,O,O,O,O,I,O,O,O,O,O,O,O,O,O,O] rfl rfl (any_of HT_.out (by kernel_rfl)) (fun _ _ _ h => h) (Or.inl ⟨by rfl, ?_⟩) ?_ ?_
            rotate_left; (intro w'; go_simp; with_reducible rfl); rotate_left; (simp only [Z]; rfl)
            refine pure_ (i := 16) (N := some 35) (v := ?_) (a' := ?_) #[O,I,O,O,O,O,I,O,O,O,O,I,O,O,O,O,I,O,O,O,O,O] rfl rfl (any_of HT_.out (by kernel_rfl)) (fun _ _ _ h => h) (Or.inl ⟨by rfl, ?_⟩) ?_ ?_
            rotate_left; (intro w'; go_simp; with_reducible rfl); rotate_left; (simp only [Z]; rfl)
            refine inv_at [0, 2, 3, 4, 5, 7, 8, 9, 10, 12, 13, 14, 15, 17, 18, 19, 20, 21] (fun a0_ b a w' => ∃ (v106 : Value) (adz_v106 : Addr) (m3_ : Value), a = putSel a0_ b [(0, 19, v106), (2, 21, .int .i64 a0_0), (3, 22, m3_), (4, 23, .string (rdOf ByteArray.empty y105 a0_0)), (5, 24, .string ((rdOf ByteArray.empty y105 a0_0) ++ (⟨#[32]⟩ : ByteArray))), (7, 26, .int .i64 a0_3), (8, 27, .string t109), (9, 28, .string (((rdOf ByteArray.empty y105 a0_0) ++ (⟨#[32]⟩ : ByteArray)) ++ t109)), (10, 29, .string ((((rdOf ByteArray.empty y105 a0_0) ++ (⟨#[32]⟩ : ByteArray)) ++ t109) ++ (⟨#[32, 97, 116, 32]⟩ : ByteArray))), (12, 31, .int .i64 a0_1), (13, 32, .string t110), (14, 33, .string (((((rdOf ByteArray.empty y105 a0_0) ++ (⟨#[32]⟩ : ByteArray)) ++ t109) ++ (⟨#[32, 97, 116, 32]⟩ : ByteArray)) ++ t110)), (15, 34, .string ((((((rdOf ByteArray.empty y105 a0_0) ++ (⟨#[32]⟩ : ByteArray)) ++ t109) ++ (⟨#[32, 97, 116, 32]⟩ : ByteArray)) ++ t110) ++ (⟨#[47]⟩ : ByteArray))), (17, 36, .int .i64 a0_2), (18, 37, .string t111), (19, 38, .string (((((((rdOf ByteArray.empty y105 a0_0) ++ (⟨#[32]⟩ : ByteArray)) ++ t109) ++ (⟨#[32, 97, 116, 32]⟩ : ByteArray)) ++ t110) ++ (⟨#[47]⟩ : ByteArray)) ++ t111)), (20, 2, .string (((((((rdOf ByteArray.empty y105 a0_0) ++ (⟨#[32]⟩ : ByteArray)) ++ t109) ++ (⟨#[32, 97, 116, 32]⟩ : ByteArray)) ++ t110) ++ (⟨#[47]⟩ : ByteArray)) ++ t111)), (21, 3, .bool true)] ∧ (w'.heap[gb101]? = some (.cells #[.int .i64 a0_0, .int .i64 a0_1, .int .i64 a0_2, .int .i64 a0_3] 26 (0, 0))) ∧ (Below w.heap.size w w') ∧ (b 0 = true → Kd.R Kd.string 9 w' w.heap.size (fun _ => True) v106 y105) ∧ (b 0 = true → ∃ c_, (v106 : Value) = .slice (some adz_v106) y105.length c_) ∧ (b 3 = true → (m3_ : Value) = .pointer (some (adz_v106.add (a0_0).toNat)))) HT_.out HW_.out (by kernel_rfl) (by kernel_rfl) ?_ ?_ ?_
            ·exact ⟨.bool false, ⟨0, 0, none⟩, .bool false, by simp only [putSel, Bool.false_eq_true, if_false], BK101.out, HB.out, fun h_ => absurd h_ (by decide), fun h_ => absurd h_ (by decide), fun h_ => absurd h_ (by decide)⟩
            ·skip
             clear BK101 HB
             refine steps_cons ?_ ?_
             ·rintro b a w' ⟨v106, adz_v106, m3_, ha, Q_BK101, Q_HB, Q_HO107, Q_HA_HO107, Q_X3_⟩ hb_ hon hoff
              refine ⟨_, rfl, fun K hK => ?_⟩
              replace ha := Aside0.mk ha
              have BK101 := Aside0.mk Q_BK101
              have HB := Aside0.mk Q_HB
              refine Kd.R_lit_step Kd.string _ 9 ?hg (N := 19) ?hd (xs := ([(⟨#[107, 110, 111, 116]⟩ : ByteArray), (⟨#[101, 100, 103, 101]⟩ : ByteArray), (⟨#[115, 116, 97, 105, 110]⟩ : ByteArray), (⟨#[115, 107, 101, 119]⟩ : ByteArray), (⟨#[98, 111, 114, 100, 101, 114]⟩ : ByteArray)] : List ByteArray)) (inner := [.string (⟨#[107, 110, 111, 116]⟩ : ByteArray), .string (⟨#[101, 100, 103, 101]⟩ : ByteArray), .string (⟨#[115, 116, 97, 105, 110]⟩ : ByteArray), .string (⟨#[115, 107, 101, 119]⟩ : ByteArray), .string (⟨#[98, 111, 114, 100, 101, 114]⟩ : ByteArray)]) (ok := fun _ => True) (okp := fun _ => True) ?hr ?hp (fun _ hk => hk) trivial (Below.refl _ _) (Nat.le_refl _) (by simp) ?_; (case hd => rfl); (case hg => rfl); (case hr => first | (go_simp; done) | (go_simp; rfl)); (case hp => exact (Reps.one (show Kd.M Kd.string _ _ _ (⟨#[107, 110, 111, 116]⟩ : ByteArray) [.string (⟨#[107, 110, 111, 116]⟩ : ByteArray)] from rfl) (Reps.one (show Kd.M Kd.string _ _ _ (⟨#[101, 100, 103, 101]⟩ : ByteArray) [.string (⟨#[101, 100, 103, 101]⟩ : ByteArray)] from rfl) (Reps.one (show Kd.M Kd.string _ _ _ (⟨#[115, 116, 97, 105, 110]⟩ : ByteArray) [.string (⟨#[115, 116, 97, 105, 110]⟩ : ByteArray)] from rfl) (Reps.one (show Kd.M Kd.string _ _ _ (⟨#[115, 107, 101, 119]⟩ : ByteArray) [.string (⟨#[115, 107, 101, 119]⟩ : ByteArray)] from rfl) (Reps.one (show Kd.M Kd.string _ _ _ (⟨#[98, 111, 114, 100, 101, 114]⟩ : ByteArray) [.string (⟨#[98, 111, 114, 100, 101, 114]⟩ : ByteArray)] from rfl) (Reps.none _ _)))))))
              intro v106 w30 ho31 hb hg_ hnew_
              clear hg_ hnew_
              (first | rw [← Ny105.out] at ho31 | (simp only [Int.reduceToNat] at ho31; rw [← Ny105.out] at ho31))
              have n0_ := Aside0.mk (Kd.R_lower ho31 (below_size (by exact eS HB.out)))
              have n1_ := Aside0.mk (blk_below (bS BK101.out) hb)
              have n2_ := Aside0.mk (below_step (by exact eS HB.out) hb)
              clear BK101
              clear HB
              have HO107 := n0_
              have BK101 := n1_
              have HB := n2_
              clear n0_ n1_ n2_
              clear hb ho31
              obtain ⟨Ao32, co32, eo32⟩ := Kd.R_slice HO107.out
              subst eo32
              obtain ⟨ado32, fo32, _⟩ := Kd.at_string (Kd.R_reads' HO107.out).2.2 0 (by decide) (by rw [Ny105.out]; simp)
              cases fo32
              refine hK.out _ _ ⟨.slice (some ado32) y105.length co32, ado32, m3_, (by rw [ha.out]; exact putSel_upk 0 hb_ rfl rfl rfl), (by exact bS BK101.out), (by exact eS HB.out), fun _ => (by exact Ho.RS <| HO107.out), fun _ => ⟨_, rfl⟩, fun h0_ => absurd ((hoff 3 (by kernel_rfl)).symm.trans h0_) (by decide)⟩
             refine steps_cons ?_ ?_
             ·rintro b a w' ⟨v106, adz_v106, m3_, ha, Q_BK101, Q_HB, Q_HO107, Q_HA_HO107, Q_X3_⟩ hb_ hon hoff
              refine ⟨_, rfl, fun K hK => ?_⟩
              have e20 : a.tmps[20]? = some (.pointer (some ⟨gb101, 0, none⟩)) := by rw [ha]; exact (putSel_off rfl).trans rfl
              replace ha := Aside0.mk ha
              have BK101 := Aside0.mk Q_BK101
              have HB := Aside0.mk Q_HB
              have hc0_ : w'.cell? ⟨gb101, 0, none⟩ = some (.int .i64 a0_0) := (blk_cell BK101.out 0).trans rfl
              have hc1_ : w'.cell? ⟨gb101, 1, none⟩ = some (.int .i64 a0_1) := (blk_cell BK101.out 1).trans rfl
              have hc2_ : w'.cell? ⟨gb101, 2, none⟩ = some (.int .i64 a0_2) := (blk_cell BK101.out 2).trans rfl
              have hc3_ : w'.cell? ⟨gb101, 3, none⟩ = some (.int .i64 a0_3) := (blk_cell BK101.out 3).trans rfl
              refine value_ (w1 := w') (v := .int .i64 a0_0) (by rfl) rfl ?_ ?_
              ·go_simp
               (try simp only [i64_w])
               try rfl
               (try (have z0_ : (⟨#[32, 97, 116, 32]⟩ : ByteArray).size = 4 := rfl; have z1_ : (⟨#[32]⟩ : ByteArray).size = 1 := rfl; have z2_ : (⟨#[47]⟩ : ByteArray).size = 1 := rfl; (try simp only [ByteArray.size_append, z0_, z1_, z2_] at c20); (try simp only [ByteArray.size_append, z0_, z1_, z2_] at c22); (try simp only [ByteArray.size_append, z0_, z1_, z2_] at c23); (try simp only [ByteArray.size_append, z0_, z1_, z2_] at c25); (try simp only [ByteArray.size_append, z0_, z1_, z2_] at c26); (try simp only [ByteArray.size_append, z0_, z1_, z2_] at c28); omega))
              refine hK.out _ _ ⟨v106, adz_v106, m3_, (by rw [ha.out]; exact putSel_upk 1 hb_ rfl rfl rfl), Q_BK101, Q_HB, Q_HO107, Q_HA_HO107, fun h0_ => absurd ((hoff 3 (by kernel_rfl)).symm.trans h0_) (by decide)⟩
             refine steps_cons ?_ ?_
             ·rintro b a w' ⟨v106, adz_v106, m3_, ha, Q_BK101, Q_HB, Q_HO107, Q_HA_HO107, Q_X3_⟩ hb_ hon hoff
              refine ⟨_, rfl, fun K hK => ?_⟩
              have e19 : a.tmps[19]? = some (v106) := by rw [ha]; exact putSel_on (e := (0, 19, v106)) 0 rfl rfl (hon 0 (by kernel_rfl)) rfl
              have e21 : a.tmps[21]? = some (.int .i64 a0_0) := by rw [ha]; exact putSel_on (e := (2, 21, .int .i64 a0_0)) 1 rfl rfl (hon 2 (by kernel_rfl)) rfl
              replace ha := Aside0.mk ha
              have BK101 := Aside0.mk Q_BK101
              have HB := Aside0.mk Q_HB
              have HO107 := Aside0.mk (Q_HO107 (hon 0 (by kernel_rfl)))
              have HA_HO107 := Aside0.mk (Q_HA_HO107 (hon 0 (by kernel_rfl)))
              obtain ⟨c_, hv_⟩ := HA_HO107.out
              rw [hv_] at e19
              refine value_ (w1 := w') (v := .pointer (some (adz_v106.add (a0_0).toNat))) (by rfl) rfl ?_ ?_
              ·go_simp
               (try simp only [i64_w])
               try rfl
               (try (have z0_ : (⟨#[32, 97, 116, 32]⟩ : ByteArray).size = 4 := rfl; have z1_ : (⟨#[32]⟩ : ByteArray).size = 1 := rfl; have z2_ : (⟨#[47]⟩ : ByteArray).size = 1 := rfl; (try simp only [ByteArray.size_append, z0_, z1_, z2_] at c20); (try simp only [ByteArray.size_append, z0_, z1_, z2_] at c22); (try simp only [ByteArray.size_append, z0_, z1_, z2_] at c23); (try simp only [ByteArray.size_append, z0_, z1_, z2_] at c25); (try simp only [ByteArray.size_append, z0_, z1_, z2_] at c26); (try simp only [ByteArray.size_append, z0_, z1_, z2_] at c28); omega))
              refine hK.out _ _ ⟨v106, adz_v106, (.pointer (some (adz_v106.add (a0_0).toNat))), (by rw [ha.out]; exact putSel_upk 2 hb_ rfl rfl rfl), Q_BK101, Q_HB, Q_HO107, Q_HA_HO107, fun _ => rfl⟩
             refine steps_cons ?_ ?_
             ·rintro b a w' ⟨v106, adz_v106, m3_, ha, Q_BK101, Q_HB, Q_HO107, Q_HA_HO107, Q_X3_⟩ hb_ hon hoff
              refine ⟨_, rfl, fun K hK => ?_⟩
              have e22 : a.tmps[22]? = some (m3_) := by rw [ha]; exact putSel_on (e := (3, 22, m3_)) 2 rfl rfl (hon 3 (by kernel_rfl)) rfl
              rw [Q_X3_ (hon 3 (by kernel_rfl))] at e22
              replace ha := Aside0.mk ha
              have BK101 := Aside0.mk Q_BK101
              have HB := Aside0.mk Q_HB
              have HO107 := Aside0.mk (Q_HO107 (hon 0 (by kernel_rfl)))
              have HA_HO107 := Aside0.mk (Q_HA_HO107 (hon 0 (by kernel_rfl)))
              obtain ⟨c_, hv_⟩ := HA_HO107.out
              have hF_ := HO107.out
              rw [hv_] at hF_
              obtain ⟨ad_, ea_, hx_⟩ := Kd.at_string (Kd.R_reads' hF_).2.2 a0_0 (of_eq_true pi108) (of_eq_true qi108)
              cases ea_
              refine value_ (w1 := w') (v := .string (rdOf ByteArray.empty y105 a0_0)) (by rfl) rfl ?_ ?_
              ·go_simp
               (try simp only [i64_w])
               try rfl
               (try (have z0_ : (⟨#[32, 97, 116, 32]⟩ : ByteArray).size = 4 := rfl; have z1_ : (⟨#[32]⟩ : ByteArray).size = 1 := rfl; have z2_ : (⟨#[47]⟩ : ByteArray).size = 1 := rfl; (try simp only [ByteArray.size_append, z0_, z1_, z2_] at c20); (try simp only [ByteArray.size_append, z0_, z1_, z2_] at c22); (try simp only [ByteArray.size_append, z0_, z1_, z2_] at c23); (try simp only [ByteArray.size_append, z0_, z1_, z2_] at c25); (try simp only [ByteArray.size_append, z0_, z1_, z2_] at c26); (try simp only [ByteArray.size_append, z0_, z1_, z2_] at c28); omega))
              refine hK.out _ _ ⟨v106, adz_v106, m3_, (by rw [ha.out]; exact putSel_upk 3 hb_ rfl rfl rfl), Q_BK101, Q_HB, Q_HO107, Q_HA_HO107, Q_X3_⟩
             refine steps_cons ?_ ?_
             ·rintro b a w' ⟨v106, adz_v106, m3_, ha, Q_BK101, Q_HB, Q_HO107, Q_HA_HO107, Q_X3_⟩ hb_ hon hoff
              refine ⟨_, rfl, fun K hK => ?_⟩
              have e23 : a.tmps[23]? = some (.string (rdOf ByteArray.empty y105 a0_0)) := by rw [ha]; exact putSel_on (e := (4, 23, .string (rdOf ByteArray.empty y105 a0_0))) 3 rfl rfl (hon 4 (by kernel_rfl)) rfl
              replace ha := Aside0.mk ha
              have BK101 := Aside0.mk Q_BK101
              have HB := Aside0.mk Q_HB
              have HO107 := Aside0.mk (Q_HO107 (hon 0 (by kernel_rfl)))
              have HA_HO107 := Aside0.mk (Q_HA_HO107 (hon 0 (by kernel_rfl)))
              refine value_ (w1 := w') (v := .string ((rdOf ByteArray.empty y105 a0_0) ++ (⟨#[32]⟩ : ByteArray))) (by rfl) rfl ?_ ?_
              ·go_simp
               (try simp only [i64_w])
               try rfl
               (try (have z0_ : (⟨#[32, 97, 116, 32]⟩ : ByteArray).size = 4 := rfl; have z1_ : (⟨#[32]⟩ : ByteArray).size = 1 := rfl; have z2_ : (⟨#[47]⟩ : ByteArray).size = 1 := rfl; (try simp only [ByteArray.size_append, z0_, z1_, z2_] at c20); (try simp only [ByteArray.size_append, z0_, z1_, z2_] at c22); (try simp only [ByteArray.size_append, z0_, z1_, z2_] at c23); (try simp only [ByteArray.size_append, z0_, z1_, z2_] at c25); (try simp only [ByteArray.size_append, z0_, z1_, z2_] at c26); (try simp only [ByteArray.size_append, z0_, z1_, z2_] at c28); omega))
              refine hK.out _ _ ⟨v106, adz_v106, m3_, (by rw [ha.out]; exact putSel_upk 4 hb_ rfl rfl rfl), Q_BK101, Q_HB, Q_HO107, Q_HA_HO107, Q_X3_⟩
             refine steps_cons ?_ ?_
             ·rintro b a w' ⟨v106, adz_v106, m3_, ha, Q_BK101, Q_HB, Q_HO107, Q_HA_HO107, Q_X3_⟩ hb_ hon hoff
              refine ⟨_, rfl, fun K hK => ?_⟩
              have e25 : a.tmps[25]? = some (.pointer (some ⟨gb101, 3, none⟩)) := by rw [ha]; exact (putSel_off rfl).trans rfl
              replace ha := Aside0.mk ha
              have BK101 := Aside0.mk Q_BK101
              have HB := Aside0.mk Q_HB
              have hc0_ : w'.cell? ⟨gb101, 0, none⟩ = some (.int .i64 a0_0) := (blk_cell BK101.out 0).trans rfl
              have hc1_ : w'.cell? ⟨gb101, 1, none⟩ = some (.int .i64 a0_1) := (blk_cell BK101.out 1).trans rfl
              have hc2_ : w'.cell? ⟨gb101, 2, none⟩ = some (.int .i64 a0_2) := (blk_cell BK101.out 2).trans rfl
              have hc3_ : w'.cell? ⟨gb101, 3, none⟩ = some (.int .i64 a0_3) := (blk_cell BK101.out 3).trans rfl
              refine value_ (w1 := w') (v := .int .i64 a0_3) (by rfl) rfl ?_ ?_
              ·go_simp
               (try simp only [i64_w])
               try rfl
               (try (have z0_ : (⟨#[32, 97, 116, 32]⟩ : ByteArray).size = 4 := rfl; have z1_ : (⟨#[32]⟩ : ByteArray).size = 1 := rfl; have z2_ : (⟨#[47]⟩ : ByteArray).size = 1 := rfl; (try simp only [ByteArray.size_append, z0_, z1_, z2_] at c20); (try simp only [ByteArray.size_append, z0_, z1_, z2_] at c22); (try simp only [ByteArray.size_append, z0_, z1_, z2_] at c23); (try simp only [ByteArray.size_append, z0_, z1_, z2_] at c25); (try simp only [ByteArray.size_append, z0_, z1_, z2_] at c26); (try simp only [ByteArray.size_append, z0_, z1_, z2_] at c28); omega))
              refine hK.out _ _ ⟨v106, adz_v106, m3_, (by rw [ha.out]; exact putSel_upk 5 hb_ rfl rfl rfl), Q_BK101, Q_HB, Q_HO107, Q_HA_HO107, Q_X3_⟩
             refine steps_cons ?_ ?_
             ·rintro b a w' ⟨v106, adz_v106, m3_, ha, Q_BK101, Q_HB, Q_HO107, Q_HA_HO107, Q_X3_⟩ hb_ hon hoff
              refine ⟨_, rfl, fun K hK => ?_⟩
              have e26 : a.tmps[26]? = some (.int .i64 a0_3) := by rw [ha]; exact putSel_on (e := (7, 26, .int .i64 a0_3)) 5 rfl rfl (hon 7 (by kernel_rfl)) rfl
              replace ha := Aside0.mk ha
              have BK101 := Aside0.mk Q_BK101
              have HB := Aside0.mk Q_HB
              refine goes_ Tryd.func9 (by kernel_rfl) rfl #[.int .i64 a0_3] (by rfl) rfl rfl (by first | (simp only [List.map_toArray, List.map_cons, List.map_nil, Act.eval, Array.getD_eq_getD_getElem?, Option.getD_some, e26]; done) | (simp only [List.map_toArray, List.map_cons, List.map_nil, Act.eval, Array.getD_eq_getD_getElem?, Option.getD_some, e26]; rfl)) ?_
              with_reducible refine (spec_l1Num.calls kj1 a0_3 t109 _ A21.out).mono ?_
              rintro e w30 ⟨rfl, hb⟩
              refine ⟨_, rfl, ?_⟩
              have n0_ := Aside0.mk (blk_below (bS BK101.out) hb)
              have n1_ := Aside0.mk (below_step (by exact eS HB.out) hb)
              have z_HO107 := fun (h0_ : b 0 = true) => (show Kd.R Kd.string 9 w30 w.heap.size (fun _ => True) v106 y105 from by first | exact (Kd.R_below (by exact Ho.RS <| (Q_HO107 h0_)) hb) | exact Kd.R_mono (Kd.R_below (by exact Ho.RS <| (Q_HO107 h0_)) hb) (fun _ h_ => by first | trivial | exact h_ | exact h_.1))
              clear BK101
              clear HB
              have BK101 := n0_
              have HB := n1_
              clear n0_ n1_
              (try clear hb)
              (try clear hb2)
              (try clear hk)
              (try clear hi)
              refine hK.out _ _ ⟨v106, adz_v106, m3_, (by rw [ha.out]; exact putSel_upk 6 hb_ rfl rfl rfl), (by exact bS BK101.out), (by exact eS HB.out), z_HO107, Q_HA_HO107, Q_X3_⟩
             refine steps_cons ?_ ?_
             ·rintro b a w' ⟨v106, adz_v106, m3_, ha, Q_BK101, Q_HB, Q_HO107, Q_HA_HO107, Q_X3_⟩ hb_ hon hoff
              refine ⟨_, rfl, fun K hK => ?_⟩
              have e24 : a.tmps[24]? = some (.string ((rdOf ByteArray.empty y105 a0_0) ++ (⟨#[32]⟩ : ByteArray))) := by rw [ha]; exact putSel_on (e := (5, 24, .string ((rdOf ByteArray.empty y105 a0_0) ++ (⟨#[32]⟩ : ByteArray)))) 4 rfl rfl (hon 5 (by kernel_rfl)) rfl
              have e27 : a.tmps[27]? = some (.string t109) := by rw [ha]; exact putSel_on (e := (8, 27, .string t109)) 6 rfl rfl (hon 8 (by kernel_rfl)) rfl
              replace ha := Aside0.mk ha
              have BK101 := Aside0.mk Q_BK101
              have HB := Aside0.mk Q_HB
              have HO107 := Aside0.mk (Q_HO107 (hon 0 (by kernel_rfl)))
              have HA_HO107 := Aside0.mk (Q_HA_HO107 (hon 0 (by kernel_rfl)))
              refine value_ (w1 := w') (v := .string (((rdOf ByteArray.empty y105 a0_0) ++ (⟨#[32]⟩ : ByteArray)) ++ t109)) (by rfl) rfl ?_ ?_
              ·go_simp
               (try simp only [i64_w])
               try rfl
               (try (have z0_ : (⟨#[32, 97, 116, 32]⟩ : ByteArray).size = 4 := rfl; have z1_ : (⟨#[32]⟩ : ByteArray).size = 1 := rfl; have z2_ : (⟨#[47]⟩ : ByteArray).size = 1 := rfl; (try simp only [ByteArray.size_append, z0_, z1_, z2_] at c20); (try simp only [ByteArray.size_append, z0_, z1_, z2_] at c22); (try simp only [ByteArray.size_append, z0_, z1_, z2_] at c23); (try simp only [ByteArray.size_append, z0_, z1_, z2_] at c25); (try simp only [ByteArray.size_append, z0_, z1_, z2_] at c26); (try simp only [ByteArray.size_append, z0_, z1_, z2_] at c28); omega))
              refine hK.out _ _ ⟨v106, adz_v106, m3_, (by rw [ha.out]; exact putSel_upk 7 hb_ rfl rfl rfl), Q_BK101, Q_HB, Q_HO107, Q_HA_HO107, Q_X3_⟩
             refine steps_cons ?_ ?_
             ·rintro b a w' ⟨v106, adz_v106, m3_, ha, Q_BK101, Q_HB, Q_HO107, Q_HA_HO107, Q_X3_⟩ hb_ hon hoff
              refine ⟨_, rfl, fun K hK => ?_⟩
              have e28 : a.tmps[28]? = some (.string (((rdOf ByteArray.empty y105 a0_0) ++ (⟨#[32]⟩ : ByteArray)) ++ t109)) := by rw [ha]; exact putSel_on (e := (9, 28, .string (((rdOf ByteArray.empty y105 a0_0) ++ (⟨#[32]⟩ : ByteArray)) ++ t109))) 7 rfl rfl (hon 9 (by kernel_rfl)) rfl
              replace ha := Aside0.mk ha
              have BK101 := Aside0.mk Q_BK101
              have HB := Aside0.mk Q_HB
              have HO107 := Aside0.mk (Q_HO107 (hon 0 (by kernel_rfl)))
              have HA_HO107 := Aside0.mk (Q_HA_HO107 (hon 0 (by kernel_rfl)))
              refine value_ (w1 := w') (v := .string ((((rdOf ByteArray.empty y105 a0_0) ++ (⟨#[32]⟩ : ByteArray)) ++ t109) ++ (⟨#[32, 97, 116, 32]⟩ : ByteArray))) (by rfl) rfl ?_ ?_
              ·go_simp
               (try simp only [i64_w])
               try rfl
               (try (have z0_ : (⟨#[32, 97, 116, 32]⟩ : ByteArray).size = 4 := rfl; have z1_ : (⟨#[32]⟩ : ByteArray).size = 1 := rfl; have z2_ : (⟨#[47]⟩ : ByteArray).size = 1 := rfl; (try simp only [ByteArray.size_append, z0_, z1_, z2_] at c20); (try simp only [ByteArray.size_append, z0_, z1_, z2_] at c22); (try simp only [ByteArray.size_append, z0_, z1_, z2_] at c23); (try simp only [ByteArray.size_append, z0_, z1_, z2_] at c25); (try simp only [ByteArray.size_append, z0_, z1_, z2_] at c26); (try simp only [ByteArray.size_append, z0_, z1_, z2_] at c28); omega))
              refine hK.out _ _ ⟨v106, adz_v106, m3_, (by rw [ha.out]; exact putSel_upk 8 hb_ rfl rfl rfl), Q_BK101, Q_HB, Q_HO107, Q_HA_HO107, Q_X3_⟩
             refine steps_cons ?_ ?_
             ·rintro b a w' ⟨v106, adz_v106, m3_, ha, Q_BK101, Q_HB, Q_HO107, Q_HA_HO107, Q_X3_⟩ hb_ hon hoff
              refine ⟨_, rfl, fun K hK => ?_⟩
              have e30 : a.tmps[30]? = some (.pointer (some ⟨gb101, 1, none⟩)) := by rw [ha]; exact (putSel_off rfl).trans rfl
              replace ha := Aside0.mk ha
              have BK101 := Aside0.mk Q_BK101
              have HB := Aside0.mk Q_HB
              have hc0_ : w'.cell? ⟨gb101, 0, none⟩ = some (.int .i64 a0_0) := (blk_cell BK101.out 0).trans rfl
              have hc1_ : w'.cell? ⟨gb101, 1, none⟩ = some (.int .i64 a0_1) := (blk_cell BK101.out 1).trans rfl
              have hc2_ : w'.cell? ⟨gb101, 2, none⟩ = some (.int .i64 a0_2) := (blk_cell BK101.out 2).trans rfl
              have hc3_ : w'.cell? ⟨gb101, 3, none⟩ = some (.int .i64 a0_3) := (blk_cell BK101.out 3).trans rfl
              refine value_ (w1 := w') (v := .int .i64 a0_1) (by rfl) rfl ?_ ?_
              ·go_simp
               (try simp only [i64_w])
               try rfl
               (try (have z0_ : (⟨#[32, 97, 116, 32]⟩ : ByteArray).size = 4 := rfl; have z1_ : (⟨#[32]⟩ : ByteArray).size = 1 := rfl; have z2_ : (⟨#[47]⟩ : ByteArray).size = 1 := rfl; (try simp only [ByteArray.size_append, z0_, z1_, z2_] at c20); (try simp only [ByteArray.size_append, z0_, z1_, z2_] at c22); (try simp only [ByteArray.size_append, z0_, z1_, z2_] at c23); (try simp only [ByteArray.size_append, z0_, z1_, z2_] at c25); (try simp only [ByteArray.size_append, z0_, z1_, z2_] at c26); (try simp only [ByteArray.size_append, z0_, z1_, z2_] at c28); omega))
              refine hK.out _ _ ⟨v106, adz_v106, m3_, (by rw [ha.out]; exact putSel_upk 9 hb_ rfl rfl rfl), Q_BK101, Q_HB, Q_HO107, Q_HA_HO107, Q_X3_⟩
             refine steps_cons ?_ ?_
             ·rintro b a w' ⟨v106, adz_v106, m3_, ha, Q_BK101, Q_HB, Q_HO107, Q_HA_HO107, Q_X3_⟩ hb_ hon hoff
              refine ⟨_, rfl, fun K hK => ?_⟩
              have e31 : a.tmps[31]? = some (.int .i64 a0_1) := by rw [ha]; exact putSel_on (e := (12, 31, .int .i64 a0_1)) 9 rfl rfl (hon 12 (by kernel_rfl)) rfl
              replace ha := Aside0.mk ha
              have BK101 := Aside0.mk Q_BK101
              have HB := Aside0.mk Q_HB
              refine goes_ Tryd.func9 (by kernel_rfl) rfl #[.int .i64 a0_1] (by rfl) rfl rfl (by first | (simp only [List.map_toArray, List.map_cons, List.map_nil, Act.eval, Array.getD_eq_getD_getElem?, Option.getD_some, e31]; done) | (simp only [List.map_toArray, List.map_cons, List.map_nil, Act.eval, Array.getD_eq_getD_getElem?, Option.getD_some, e31]; rfl)) ?_
              with_reducible refine (spec_l1Num.calls kj1 a0_1 t110 _ A24.out).mono ?_
              rintro e w32 ⟨rfl, hb⟩
              refine ⟨_, rfl, ?_⟩
              have n0_ := Aside0.mk (blk_below (bS BK101.out) hb)
              have n1_ := Aside0.mk (below_step (by exact eS HB.out) hb)
              have z_HO107 := fun (h0_ : b 0 = true) => (show Kd.R Kd.string 9 w32 w.heap.size (fun _ => True) v106 y105 from by first | exact (Kd.R_below (by exact Ho.RS <| (Q_HO107 h0_)) hb) | exact Kd.R_mono (Kd.R_below (by exact Ho.RS <| (Q_HO107 h0_)) hb) (fun _ h_ => by first | trivial | exact h_ | exact h_.1))
              clear BK101
              clear HB
              have BK101 := n0_
              have HB := n1_
              clear n0_ n1_
              (try clear hb)
              (try clear hb2)
              (try clear hk)
              (try clear hi)
              refine hK.out _ _ ⟨v106, adz_v106, m3_, (by rw [ha.out]; exact putSel_upk 10 hb_ rfl rfl rfl), (by exact bS BK101.out), (by exact eS HB.out), z_HO107, Q_HA_HO107, Q_X3_⟩
             refine steps_cons ?_ ?_
             ·rintro b a w' ⟨v106, adz_v106, m3_, ha, Q_BK101, Q_HB, Q_HO107, Q_HA_HO107, Q_X3_⟩ hb_ hon hoff
              refine ⟨_, rfl, fun K hK => ?_⟩
              have e29 : a.tmps[29]? = some (.string ((((rdOf ByteArray.empty y105 a0_0) ++ (⟨#[32]⟩ : ByteArray)) ++ t109) ++ (⟨#[32, 97, 116, 32]⟩ : ByteArray))) := by rw [ha]; exact putSel_on (e := (10, 29, .string ((((rdOf ByteArray.empty y105 a0_0) ++ (⟨#[32]⟩ : ByteArray)) ++ t109) ++ (⟨#[32, 97, 116, 32]⟩ : ByteArray)))) 8 rfl rfl (hon 10 (by kernel_rfl)) rfl
              have e32 : a.tmps[32]? = some (.string t110) := by rw [ha]; exact putSel_on (e := (13, 32, .string t110)) 10 rfl rfl (hon 13 (by kernel_rfl)) rfl
              replace ha := Aside0.mk ha
              have BK101 := Aside0.mk Q_BK101
              have HB := Aside0.mk Q_HB
              have HO107 := Aside0.mk (Q_HO107 (hon 0 (by kernel_rfl)))
              have HA_HO107 := Aside0.mk (Q_HA_HO107 (hon 0 (by kernel_rfl)))
              refine value_ (w1 := w') (v := .string (((((rdOf ByteArray.empty y105 a0_0) ++ (⟨#[32]⟩ : ByteArray)) ++ t109) ++ (⟨#[32, 97, 116, 32]⟩ : ByteArray)) ++ t110)) (by rfl) rfl ?_ ?_
              ·go_simp
               (try simp only [i64_w])
               try rfl
               (try (have z0_ : (⟨#[32, 97, 116, 32]⟩ : ByteArray).size = 4 := rfl; have z1_ : (⟨#[32]⟩ : ByteArray).size = 1 := rfl; have z2_ : (⟨#[47]⟩ : ByteArray).size = 1 := rfl; (try simp only [ByteArray.size_append, z0_, z1_, z2_] at c20); (try simp only [ByteArray.size_append, z0_, z1_, z2_] at c22); (try simp only [ByteArray.size_append, z0_, z1_, z2_] at c23); (try simp only [ByteArray.size_append, z0_, z1_, z2_] at c25); (try simp only [ByteArray.size_append, z0_, z1_, z2_] at c26); (try simp only [ByteArray.size_append, z0_, z1_, z2_] at c28); omega))
              refine hK.out _ _ ⟨v106, adz_v106, m3_, (by rw [ha.out]; exact putSel_upk 11 hb_ rfl rfl rfl), Q_BK101, Q_HB, Q_HO107, Q_HA_HO107, Q_X3_⟩
             refine steps_cons ?_ ?_
             ·rintro b a w' ⟨v106, adz_v106, m3_, ha, Q_BK101, Q_HB, Q_HO107, Q_HA_HO107, Q_X3_⟩ hb_ hon hoff
              refine ⟨_, rfl, fun K hK => ?_⟩
              have e33 : a.tmps[33]? = some (.string (((((rdOf ByteArray.empty y105 a0_0) ++ (⟨#[32]⟩ : ByteArray)) ++ t109) ++ (⟨#[32, 97, 116, 32]⟩ : ByteArray)) ++ t110)) := by rw [ha]; exact putSel_on (e := (14, 33, .string (((((rdOf ByteArray.empty y105 a0_0) ++ (⟨#[32]⟩ : ByteArray)) ++ t109) ++ (⟨#[32, 97, 116, 32]⟩ : ByteArray)) ++ t110))) 11 rfl rfl (hon 14 (by kernel_rfl)) rfl
              replace ha := Aside0.mk ha
              have BK101 := Aside0.mk Q_BK101
              have HB := Aside0.mk Q_HB
              have HO107 := Aside0.mk (Q_HO107 (hon 0 (by kernel_rfl)))
              have HA_HO107 := Aside0.mk (Q_HA_HO107 (hon 0 (by kernel_rfl)))
              refine value_ (w1 := w') (v := .string ((((((rdOf ByteArray.empty y105 a0_0) ++ (⟨#[32]⟩ : ByteArray)) ++ t109) ++ (⟨#[32, 97, 116, 32]⟩ : ByteArray)) ++ t110) ++ (⟨#[47]⟩ : ByteArray))) (by rfl) rfl ?_ ?_
              ·go_simp
               (try simp only [i64_w])
               try rfl
               (try (have z0_ : (⟨#[32, 97, 116, 32]⟩ : ByteArray).size = 4 := rfl; have z1_ : (⟨#[32]⟩ : ByteArray).size = 1 := rfl; have z2_ : (⟨#[47]⟩ : ByteArray).size = 1 := rfl; (try simp only [ByteArray.size_append, z0_, z1_, z2_] at c20); (try simp only [ByteArray.size_append, z0_, z1_, z2_] at c22); (try simp only [ByteArray.size_append, z0_, z1_, z2_] at c23); (try simp only [ByteArray.size_append, z0_, z1_, z2_] at c25); (try simp only [ByteArray.size_append, z0_, z1_, z2_] at c26); (try simp only [ByteArray.size_append, z0_, z1_, z2_] at c28); omega))
              refine hK.out _ _ ⟨v106, adz_v106, m3_, (by rw [ha.out]; exact putSel_upk 12 hb_ rfl rfl rfl), Q_BK101, Q_HB, Q_HO107, Q_HA_HO107, Q_X3_⟩
             refine steps_cons ?_ ?_
             ·rintro b a w' ⟨v106, adz_v106, m3_, ha, Q_BK101, Q_HB, Q_HO107, Q_HA_HO107, Q_X3_⟩ hb_ hon hoff
              refine ⟨_, rfl, fun K hK => ?_⟩
              have e35 : a.tmps[35]? = some (.pointer (some ⟨gb101, 2, none⟩)) := by rw [ha]; exact (putSel_off rfl).trans rfl
              replace ha := Aside0.mk ha
              have BK101 := Aside0.mk Q_BK101
              have HB := Aside0.mk Q_HB
              have hc0_ : w'.cell? ⟨gb101, 0, none⟩ = some (.int .i64 a0_0) := (blk_cell BK101.out 0).trans rfl
              have hc1_ : w'.cell? ⟨gb101, 1, none⟩ = some (.int .i64 a0_1) := (blk_cell BK101.out 1).trans rfl
              have hc2_ : w'.cell? ⟨gb101, 2, none⟩ = some (.int .i64 a0_2) := (blk_cell BK101.out 2).trans rfl
              have hc3_ : w'.cell? ⟨gb101, 3, none⟩ = some (.int .i64 a0_3) := (blk_cell BK101.out 3).trans rfl
              refine value_ (w1 := w') (v := .int .i64 a0_2) (by rfl) rfl ?_ ?_
              ·go_simp
               (try simp only [i64_w])
               try rfl
               (try (have z0_ : (⟨#[32, 97, 116, 32]⟩ : ByteArray).size = 4 := rfl; have z1_ : (⟨#[32]⟩ : ByteArray).size = 1 := rfl; have z2_ : (⟨#[47]⟩ : ByteArray).size = 1 := rfl; (try simp only [ByteArray.size_append, z0_, z1_, z2_] at c20); (try simp only [ByteArray.size_append, z0_, z1_, z2_] at c22); (try simp only [ByteArray.size_append, z0_, z1_, z2_] at c23); (try simp only [ByteArray.size_append, z0_, z1_, z2_] at c25); (try simp only [ByteArray.size_append, z0_, z1_, z2_] at c26); (try simp only [ByteArray.size_append, z0_, z1_, z2_] at c28); omega))
              refine hK.out _ _ ⟨v106, adz_v106, m3_, (by rw [ha.out]; exact putSel_upk 13 hb_ rfl rfl rfl), Q_BK101, Q_HB, Q_HO107, Q_HA_HO107, Q_X3_⟩
             refine steps_cons ?_ ?_
             ·rintro b a w' ⟨v106, adz_v106, m3_, ha, Q_BK101, Q_HB, Q_HO107, Q_HA_HO107, Q_X3_⟩ hb_ hon hoff
              refine ⟨_, rfl, fun K hK => ?_⟩
              have e36 : a.tmps[36]? = some (.int .i64 a0_2) := by rw [ha]; exact putSel_on (e := (17, 36, .int .i64 a0_2)) 13 rfl rfl (hon 17 (by kernel_rfl)) rfl
              replace ha := Aside0.mk ha
              have BK101 := Aside0.mk Q_BK101
              have HB := Aside0.mk Q_HB
              refine goes_ Tryd.func9 (by kernel_rfl) rfl #[.int .i64 a0_2] (by rfl) rfl rfl (by first | (simp only [List.map_toArray, List.map_cons, List.map_nil, Act.eval, Array.getD_eq_getD_getElem?, Option.getD_some, e36]; done) | (simp only [List.map_toArray, List.map_cons, List.map_nil, Act.eval, Array.getD_eq_getD_getElem?, Option.getD_some, e36]; rfl)) ?_
              with_reducible refine (spec_l1Num.calls kj1 a0_2 t111 _ A27.out).mono ?_
              rintro e w33 ⟨rfl, hb⟩
              refine ⟨_, rfl, ?_⟩
              have n0_ := Aside0.mk (blk_below (bS BK101.out) hb)
              have n1_ := Aside0.mk (below_step (by exact eS HB.out) hb)
              have z_HO107 := fun (h0_ : b 0 = true) => (show Kd.R Kd.string 9 w33 w.heap.size (fun _ => True) v106 y105 from by first | exact (Kd.R_below (by exact Ho.RS <| (Q_HO107 h0_)) hb) | exact Kd.R_mono (Kd.R_below (by exact Ho.RS <| (Q_HO107 h0_)) hb) (fun _ h_ => by first | trivial | exact h_ | exact h_.1))
              clear BK101
              clear HB
              have BK101 := n0_
              have HB := n1_
              clear n0_ n1_
              (try clear hb)
              (try clear hb2)
              (try clear hk)
              (try clear hi)
              refine hK.out _ _ ⟨v106, adz_v106, m3_, (by rw [ha.out]; exact putSel_upk 14 hb_ rfl rfl rfl), (by exact bS BK101.out), (by exact eS HB.out), z_HO107, Q_HA_HO107, Q_X3_⟩
             refine steps_cons ?_ ?_
             ·rintro b a w' ⟨v106, adz_v106, m3_, ha, Q_BK101, Q_HB, Q_HO107, Q_HA_HO107, Q_X3_⟩ hb_ hon hoff
              refine ⟨_, rfl, fun K hK => ?_⟩
              have e34 : a.tmps[34]? = some (.string ((((((rdOf ByteArray.empty y105 a0_0) ++ (⟨#[32]⟩ : ByteArray)) ++ t109) ++ (⟨#[32, 97, 116, 32]⟩ : ByteArray)) ++ t110) ++ (⟨#[47]⟩ : ByteArray))) := by rw [ha]; exact putSel_on (e := (15, 34, .string ((((((rdOf ByteArray.empty y105 a0_0) ++ (⟨#[32]⟩ : ByteArray)) ++ t109) ++ (⟨#[32, 97, 116, 32]⟩ : ByteArray)) ++ t110) ++ (⟨#[47]⟩ : ByteArray)))) 12 rfl rfl (hon 15 (by kernel_rfl)) rfl
              have e37 : a.tmps[37]? = some (.string t111) := by rw [ha]; exact putSel_on (e := (18, 37, .string t111)) 14 rfl rfl (hon 18 (by kernel_rfl)) rfl
              replace ha := Aside0.mk ha
              have BK101 := Aside0.mk Q_BK101
              have HB := Aside0.mk Q_HB
              have HO107 := Aside0.mk (Q_HO107 (hon 0 (by kernel_rfl)))
              have HA_HO107 := Aside0.mk (Q_HA_HO107 (hon 0 (by kernel_rfl)))
              refine value_ (w1 := w') (v := .string (((((((rdOf ByteArray.empty y105 a0_0) ++ (⟨#[32]⟩ : ByteArray)) ++ t109) ++ (⟨#[32, 97, 116, 32]⟩ : ByteArray)) ++ t110) ++ (⟨#[47]⟩ : ByteArray)) ++ t111)) (by rfl) rfl ?_ ?_
              ·go_simp
               (try simp only [i64_w])
               try rfl
               (try (have z0_ : (⟨#[32, 97, 116, 32]⟩ : ByteArray).size = 4 := rfl; have z1_ : (⟨#[32]⟩ : ByteArray).size = 1 := rfl; have z2_ : (⟨#[47]⟩ : ByteArray).size = 1 := rfl; (try simp only [ByteArray.size_append, z0_, z1_, z2_] at c20); (try simp only [ByteArray.size_append, z0_, z1_, z2_] at c22); (try simp only [ByteArray.size_append, z0_, z1_, z2_] at c23); (try simp only [ByteArray.size_append, z0_, z1_, z2_] at c25); (try simp only [ByteArray.size_append, z0_, z1_, z2_] at c26); (try simp only [ByteArray.size_append, z0_, z1_, z2_] at c28); omega))
              refine hK.out _ _ ⟨v106, adz_v106, m3_, (by rw [ha.out]; exact putSel_upk 15 hb_ rfl rfl rfl), Q_BK101, Q_HB, Q_HO107, Q_HA_HO107, Q_X3_⟩
             refine steps_cons ?_ ?_
             ·rintro b a w' ⟨v106, adz_v106, m3_, ha, Q_BK101, Q_HB, Q_HO107, Q_HA_HO107, Q_X3_⟩ hb_ hon hoff
              refine ⟨_, rfl, fun K hK => ?_⟩
              have e38 : a.tmps[38]? = some (.string (((((((rdOf ByteArray.empty y105 a0_0) ++ (⟨#[32]⟩ : ByteArray)) ++ t109) ++ (⟨#[32, 97, 116, 32]⟩ : ByteArray)) ++ t110) ++ (⟨#[47]⟩ : ByteArray)) ++ t111)) := by rw [ha]; exact putSel_on (e := (19, 38, .string (((((((rdOf ByteArray.empty y105 a0_0) ++ (⟨#[32]⟩ : ByteArray)) ++ t109) ++ (⟨#[32, 97, 116, 32]⟩ : ByteArray)) ++ t110) ++ (⟨#[47]⟩ : ByteArray)) ++ t111))) 15 rfl rfl (hon 19 (by kernel_rfl)) rfl
              replace ha := Aside0.mk ha
              have BK101 := Aside0.mk Q_BK101
              have HB := Aside0.mk Q_HB
              have HO107 := Aside0.mk (Q_HO107 (hon 0 (by kernel_rfl)))
              have HA_HO107 := Aside0.mk (Q_HA_HO107 (hon 0 (by kernel_rfl)))
              refine value_ (w1 := w') (v := .string (((((((rdOf ByteArray.empty y105 a0_0) ++ (⟨#[32]⟩ : ByteArray)) ++ t109) ++ (⟨#[32, 97, 116, 32]⟩ : ByteArray)) ++ t110) ++ (⟨#[47]⟩ : ByteArray)) ++ t111)) (by rfl) rfl ?_ ?_
              ·go_simp
               (try simp only [i64_w])
               try rfl
               (try (have z0_ : (⟨#[32, 97, 116, 32]⟩ : ByteArray).size = 4 := rfl; have z1_ : (⟨#[32]⟩ : ByteArray).size = 1 := rfl; have z2_ : (⟨#[47]⟩ : ByteArray).size = 1 := rfl; (try simp only [ByteArray.size_append, z0_, z1_, z2_] at c20); (try simp only [ByteArray.size_append, z0_, z1_, z2_] at c22); (try simp only [ByteArray.size_append, z0_, z1_, z2_] at c23); (try simp only [ByteArray.size_append, z0_, z1_, z2_] at c25); (try simp only [ByteArray.size_append, z0_, z1_, z2_] at c26); (try simp only [ByteArray.size_append, z0_, z1_, z2_] at c28); omega))
              refine hK.out _ _ ⟨v106, adz_v106, m3_, (by rw [ha.out]; exact putSel_upk 16 hb_ rfl rfl rfl), Q_BK101, Q_HB, Q_HO107, Q_HA_HO107, Q_X3_⟩
             refine steps_cons ?_ ?_
             ·rintro b a w' ⟨v106, adz_v106, m3_, ha, Q_BK101, Q_HB, Q_HO107, Q_HA_HO107, Q_X3_⟩ hb_ hon hoff
              refine ⟨_, rfl, fun K hK => ?_⟩
              replace ha := Aside0.mk ha
              have BK101 := Aside0.mk Q_BK101
              have HB := Aside0.mk Q_HB
              have HO107 := Aside0.mk (Q_HO107 (hon 0 (by kernel_rfl)))
              have HA_HO107 := Aside0.mk (Q_HA_HO107 (hon 0 (by kernel_rfl)))
              refine value_ (w1 := w') (v := .bool true) (by rfl) rfl ?_ ?_
              ·go_simp
               (try simp only [i64_w])
               try rfl
               (try (have z0_ : (⟨#[32, 97, 116, 32]⟩ : ByteArray).size = 4 := rfl; have z1_ : (⟨#[32]⟩ : ByteArray).size = 1 := rfl; have z2_ : (⟨#[47]⟩ : ByteArray).size = 1 := rfl; (try simp only [ByteArray.size_append, z0_, z1_, z2_] at c20); (try simp only [ByteArray.size_append, z0_, z1_, z2_] at c22); (try simp only [ByteArray.size_append, z0_, z1_, z2_] at c23); (try simp only [ByteArray.size_append, z0_, z1_, z2_] at c25); (try simp only [ByteArray.size_append, z0_, z1_, z2_] at c26); (try simp only [ByteArray.size_append, z0_, z1_, z2_] at c28); omega))
              refine hK.out _ _ ⟨v106, adz_v106, m3_, (by rw [ha.out]; exact putSel_upk 17 hb_ rfl rfl rfl), Q_BK101, Q_HB, Q_HO107, Q_HA_HO107, Q_X3_⟩
             exact steps_nil
            rintro b a w36 hall ⟨v106, adz_v106, m3_, ha, Q_BK101, Q_HB, Q_HO107, Q_HA_HO107, Q_X3_⟩
            clear BK101 HB
            have hb0_ := hall 0 (by kernel_rfl)
            have hb2_ := hall 2 (by kernel_rfl)
            have hb3_ := hall 3 (by kernel_rfl)
            have hb4_ := hall 4 (by kernel_rfl)
            have hb5_ := hall 5 (by kernel_rfl)
            have hb7_ := hall 7 (by kernel_rfl)
            have hb8_ := hall 8 (by kernel_rfl)
            have hb9_ := hall 9 (by kernel_rfl)
            have hb10_ := hall 10 (by kernel_rfl)
            have hb12_ := hall 12 (by kernel_rfl)
            have hb13_ := hall 13 (by kernel_rfl)
            have hb14_ := hall 14 (by kernel_rfl)
            have hb15_ := hall 15 (by kernel_rfl)
            have hb17_ := hall 17 (by kernel_rfl)
            have hb18_ := hall 18 (by kernel_rfl)
            have hb19_ := hall 19 (by kernel_rfl)
            have hb20_ := hall 20 (by kernel_rfl)
            have hb21_ := hall 21 (by kernel_rfl)
            subst ha
            obtain rfl := Q_X3_ hb3_
            simp only [putSel, hb0_, hb2_, hb3_, hb4_, hb5_, hb7_, hb8_, hb9_, hb10_, hb12_, hb13_, hb14_, hb15_, hb17_, hb18_, hb19_, hb20_, hb21_, if_true, Act.put, List.setIfInBounds_toArray, List.set_cons_zero, List.set_cons_succ]
            have BK101 := Aside0.mk Q_BK101
            clear Q_BK101
            have HB := Aside0.mk Q_HB
            clear Q_HB
            have HO107 := Aside0.mk (Q_HO107 hb0_)
            clear Q_HO107
            have HA_HO107 := Aside0.mk (Q_HA_HO107 hb0_)
            clear Q_HA_HO107
            clear hall hb0_ hb2_ hb3_ hb4_ hb5_ hb7_ hb8_ hb9_ hb10_ hb12_ hb13_ hb14_ hb15_ hb17_ hb18_ hb19_ hb20_ hb21_
            obtain ⟨co37, eo37⟩ := HA_HO107.out
            clear HA_HO107
            subst eo37
            try go_wp2
            go_ret2
            exact ⟨by first | rfl | (simp [errW_none, errW_some] <;> rfl) | (simp [*, errW_none, errW_some] <;> rfl), by exact eS HB.out⟩
           ·rw [if_neg c28] at H
            exact absurd H (by simp)
          ·rw [if_neg c26] at H
           exact absurd H (by simp)
         ·rw [if_neg c25] at H
          exact absurd H (by simp)
        ·rw [if_neg c23] at H
         exact absurd H (by simp)
       ·rw [if_neg c22] at H
        exact absurd H (by simp)
      ·rw [if_neg c20] at H
       exact absurd H (by simp)
     ·rw [if_neg c19] at H
      exact absurd H (by simp)
    ·rw [if_neg c18] at H
     exact absurd H (by simp)

end Go.Proofs.YtfibaganajembaaDoor.X

-- XlawsFnExactFlawTextF3
namespace Go.Proofs.YtfibaganajembaaDoor.X
open Ho (bS eS)
open Go.RowKit Go.Proofs.YtfibaganajembaaDoorW.PrintWords Go.Proofs.YtfibaganajembaaDoorW.PrintLast Go.Proofs.YtfibaganajembaaDoorW.PrintMore
attribute [local go_sem] max2_int min2_int max_two min_two max_three min_three max_four min_four   -- for this text's walks alone
set_option linter.unusedVariables false
set_option linter.unusedSimpArgs false

attribute [local go_sem ↓] Ho.isSome_setCell_   -- a store leaves all places there
/-! ### laws_FnExactFlawText: function 3 -/
def laws_FnExactFlawText.f (k : Nat) (a0_0 : Int) (a0_1 : Int) (a0_2 : Int) (a0_3 : Int) : Option (Bool) := (laws_toFlaw.f a0_0 a0_1 a0_2 a0_3).bind fun bt102 => ((spec_FlawText.f k bt102.1 bt102.2.1 bt102.2.2.1 bt102.2.2.2).bind fun bt106 => ((laws_toFlaw.f a0_0 a0_1 a0_2 a0_3).bind fun bt108 => ((impl_FlawText.f bt108.1 bt108.2.1 bt108.2.2.1 bt108.2.2.2).bind fun bt112 => (if bt112.1.toList = bt106.1.toList then (if (bt112.2 != bt106.2) = true then (some false) else (some true)) else (some false)))))
theorem laws_FnExactFlawText.mono : ∀ a0 a1 a2 a3 k, LeO (laws_FnExactFlawText.f k a0 a1 a2 a3) (laws_FnExactFlawText.f (k + 1) a0 a1 a2 a3) := by
  intro a0 a1 a2 a3 k
  unfold laws_FnExactFlawText.f
  repeat' first
      | (with_reducible exact spec_FlawText.mono _ _ _ _ _)
      | (with_reducible exact LeO.refl _)
      | (with_reducible exact LeO.none _)
      | (with_reducible refine LeO.ite ?_ ?_)
      | (with_reducible refine LeO.bind ?_ (fun _ => ?_))
      | exact spec_FlawText.mono _ _ _ _ _
      | exact LeO.none _
      | refine LeO.ite ?_ ?_
      | refine LeO.bind ?_ (fun _ => ?_)
set_option maxHeartbeats 8000000 in
set_option maxRecDepth 100000 in
theorem laws_FnExactFlawText.calls (k : Nat) (a0_0 : Int) (a0_1 : Int) (a0_2 : Int) (a0_3 : Int) (r : Bool) (w : World) (ht : r = true) (h : laws_FnExactFlawText.f k a0_0 a0_1 a0_2 a0_3 = some r) :
    Calls Tryd.prog 3 #[.agg #[.int .i64 a0_0, .int .i64 a0_1, .int .i64 a0_2, .int .i64 a0_3]] w fun e w' => e = .returned (.bool r) ∧ Below w.heap.size w w' := by
  have hu23 := Tryd.underlying23
  have HB := Aside0.mk (Below.refl w.heap.size w)
  have HT := Aside0.mk ht
  clear ht
  have H : ((laws_toFlaw.f a0_0 a0_1 a0_2 a0_3).bind fun bt102 => ((spec_FlawText.f k bt102.1 bt102.2.1 bt102.2.2.1 bt102.2.2.2).bind fun bt106 => ((laws_toFlaw.f a0_0 a0_1 a0_2 a0_3).bind fun bt108 => ((impl_FlawText.f bt108.1 bt108.2.1 bt108.2.2.1 bt108.2.2.2).bind fun bt112 => (if bt112.1.toList = bt106.1.toList then (if (bt112.2 != bt106.2) = true then (some false) else (some true)) else (some false)))))) = some r := h
  clear h
  replace H := Option.bind_eq_some_iff.mp H
  obtain ⟨⟨t102, t103, t104, t105⟩, A20, H⟩ := H
  replace H : ((spec_FlawText.f k t102 t103 t104 t105).bind fun bt106 => ((laws_toFlaw.f a0_0 a0_1 a0_2 a0_3).bind fun bt108 => ((impl_FlawText.f bt108.1 bt108.2.1 bt108.2.2.1 bt108.2.2.2).bind fun bt112 => (if bt112.1.toList = bt106.1.toList then (if (bt112.2 != bt106.2) = true then (some false) else (some true)) else (some false))))) = some r := H
  have A2 := Aside0.mk A20
  clear A20
  replace H := Option.bind_eq_some_iff.mp H
  obtain ⟨⟨t106, t107⟩, A30, H⟩ := H
  replace H : ((laws_toFlaw.f a0_0 a0_1 a0_2 a0_3).bind fun bt108 => ((impl_FlawText.f bt108.1 bt108.2.1 bt108.2.2.1 bt108.2.2.2).bind fun bt112 => (if bt112.1.toList = t106.toList then (if (bt112.2 != t107) = true then (some false) else (some true)) else (some false)))) = some r := H
  have A3 := Aside0.mk A30
  clear A30
  replace H := Option.bind_eq_some_iff.mp H
  obtain ⟨⟨t108, t109, t110, t111⟩, A40, H⟩ := H
  replace H : ((impl_FlawText.f t108 t109 t110 t111).bind fun bt112 => (if bt112.1.toList = t106.toList then (if (bt112.2 != t107) = true then (some false) else (some true)) else (some false))) = some r := H
  have A4 := Aside0.mk A40
  clear A40
  replace H := Option.bind_eq_some_iff.mp H
  obtain ⟨⟨t112, t113⟩, A50, H⟩ := H
  replace H : (if t112.toList = t106.toList then (if (t113 != t107) = true then (some false) else (some true)) else (some false)) = some r := H
  have A5 := Aside0.mk A50
  clear A50
  by_cases c6 : t112.toList = t106.toList
  · rw [if_pos c6] at H
    have c6b0 : (t112.toList == t106.toList) = true := beq_iff_eq.mpr c6
    have c6b1 : (t112.toList != t106.toList) = false := bne_eq_false_iff_eq.mpr c6
    clear c6
    by_cases c7 : (t113 != t107) = true
    · rw [if_pos c7] at H
      have c7b0 : (t113 != t107) = true := c7
      (try (have c7b1 : decide (t113 = t107) = false := by simpa using c7))
      (try (have c7b2 : (t113 == t107) = false := by simpa using c7))
      (try (have c7b3 : ¬ (t113 = t107) := by simpa using c7))
      clear c7
      exact absurd ((Option.some.inj H).trans HT.out) (by decide)
    · rw [if_neg c7] at H
      have c7b0 : (t113 != t107) = false := by simpa using c7
      (try (have c7b1 : decide (t113 = t107) = true := by simpa using c7))
      (try (have c7b2 : (t113 == t107) = true := by simpa using c7))
      clear c7
      obtain rfl := Option.some.inj H
      go_enter Tryd.func3, Tryd.ntmps3
      go_wp2_with (first | ((with_reducible refine gate_dst (N := 1) rfl ?_); refine box_event ?hg (N := 1) ?hd (cs := #[.int .i64 a0_0, .int .i64 a0_1, .int .i64 a0_2, .int .i64 a0_3]) (t := 23) ?hr ?_; (case hd => rfl); (case hg => rfl); (case hr => first | (go_simp; done) | (go_simp; rfl)); intro gb101 hg w8 hbox hb; have n0_ := Aside0.mk (below_step (by exact eS HB.out) hb); have n1_ := Aside0.mk (hbox); have n2_ := Aside0.mk ((by rw [hg]; exact (below_size (by exact eS HB.out)) : w.heap.size ≤ gb101)); have n3_ := Aside0.mk ((by rw [hg]; exact (below_size (by exact eS HB.out)) : w.heap.size ≤ gb101)); clear HB; have HB := n0_; have BK101 := n1_; have GW101 := n2_; have GE101 := n3_; clear n0_ n1_ n2_ n3_; clear hb hbox hg; have hcz9_0 : w8.cell? ⟨gb101, 0, none⟩ = some (.int .i64 a0_0) := (blk_cell BK101.out 0).trans rfl; have hcz9_1 : w8.cell? ⟨gb101, 1, none⟩ = some (.int .i64 a0_1) := (blk_cell BK101.out 1).trans rfl; have hcz9_2 : w8.cell? ⟨gb101, 2, none⟩ = some (.int .i64 a0_2) := (blk_cell BK101.out 2).trans rfl; have hcz9_3 : w8.cell? ⟨gb101, 3, none⟩ = some (.int .i64 a0_3) := (blk_cell BK101.out 3).trans rfl; have hfz9_0 := blk_frozen BK101.out 0; have hfz9_1 := blk_frozen BK101.out 1; have hfz9_2 := blk_frozen BK101.out 2; have hfz9_3 := blk_frozen BK101.out 3) | ((with_reducible refine gate_callee (f := 5) rfl ?_); refine goesL_ (some 9) rfl rfl Tryd.func5 (by kernel_rfl) rfl #[.agg #[.int .i64 a0_0, .int .i64 a0_1, .int .i64 a0_2, .int .i64 a0_3]] rfl (by (try simp only [List.map_toArray, List.map_cons, List.map_nil]); first | done | rfl | (simp only [List.length_drop, List.length_take]; rfl)) ?_; (with_reducible refine (laws_toFlaw.calls a0_0 a0_1 a0_2 a0_3 t102 t103 t104 t105 _ A2.out).mono ?_); rintro e w10 ⟨rfl, hb⟩; refine ⟨_, rfl, ?_⟩; have n0_ := Aside0.mk (blk_below (bS BK101.out) hb); have n1_ := Aside0.mk (below_step (by exact eS HB.out) hb); clear BK101; clear HB; have BK101 := n0_; have HB := n1_; clear n0_ n1_; (try clear hb); (try clear hb2); (try clear hk); (try clear hi)) | ((with_reducible refine gate_callee (f := 4) rfl ?_); refine goesL_ (some 10) rfl rfl Tryd.func4 (by kernel_rfl) rfl #[.agg #[.int .i64 t102, .int .i64 t103, .int .i64 t104, .int .i64 t105]] rfl (by (try simp only [List.map_toArray, List.map_cons, List.map_nil]); first | done | rfl | (simp only [List.length_drop, List.length_take]; rfl)) ?_; (with_reducible refine (spec_FlawText.calls k t102 t103 t104 t105 t106 t107 _ A3.out).mono ?_); rintro e w11 ⟨rfl, hb⟩; refine ⟨_, rfl, ?_⟩; have n0_ := Aside0.mk (blk_below (bS BK101.out) hb); have n1_ := Aside0.mk (below_step (by exact eS HB.out) hb); clear BK101; clear HB; have BK101 := n0_; have HB := n1_; clear n0_ n1_; (try clear hb); (try clear hb2); (try clear hk); (try clear hi); have hcz12_0 : w11.cell? ⟨gb101, 0, none⟩ = some (.int .i64 a0_0) := (blk_cell BK101.out 0).trans rfl; have hcz12_1 : w11.cell? ⟨gb101, 1, none⟩ = some (.int .i64 a0_1) := (blk_cell BK101.out 1).trans rfl; have hcz12_2 : w11.cell? ⟨gb101, 2, none⟩ = some (.int .i64 a0_2) := (blk_cell BK101.out 2).trans rfl; have hcz12_3 : w11.cell? ⟨gb101, 3, none⟩ = some (.int .i64 a0_3) := (blk_cell BK101.out 3).trans rfl; have hfz12_0 := blk_frozen BK101.out 0; have hfz12_1 := blk_frozen BK101.out 1; have hfz12_2 := blk_frozen BK101.out 2; have hfz12_3 := blk_frozen BK101.out 3) | ((with_reducible refine gate_callee (f := 5) rfl ?_); refine goesL_ (some 15) rfl rfl Tryd.func5 (by kernel_rfl) rfl #[.agg #[.int .i64 a0_0, .int .i64 a0_1, .int .i64 a0_2, .int .i64 a0_3]] rfl (by (try simp only [List.map_toArray, List.map_cons, List.map_nil]); first | done | rfl | (simp only [List.length_drop, List.length_take]; rfl)) ?_; (with_reducible refine (laws_toFlaw.calls a0_0 a0_1 a0_2 a0_3 t108 t109 t110 t111 _ A4.out).mono ?_); rintro e w13 ⟨rfl, hb⟩; refine ⟨_, rfl, ?_⟩; have n0_ := Aside0.mk (blk_below (bS BK101.out) hb); have n1_ := Aside0.mk (below_step (by exact eS HB.out) hb); clear BK101; clear HB; have BK101 := n0_; have HB := n1_; clear n0_ n1_; (try clear hb); (try clear hb2); (try clear hk); (try clear hi)) | ((with_reducible refine gate_callee (f := 6) rfl ?_); refine goesL_ (some 16) rfl rfl Tryd.func6 (by kernel_rfl) rfl #[.agg #[.int .i64 t108, .int .i64 t109, .int .i64 t110, .int .i64 t111]] rfl (by (try simp only [List.map_toArray, List.map_cons, List.map_nil]); first | done | rfl | (simp only [List.length_drop, List.length_take]; rfl)) ?_; (with_reducible refine (impl_FlawText.calls t108 t109 t110 t111 t112 t113 _ A5.out).mono ?_); rintro e w14 ⟨rfl, hb⟩; refine ⟨_, rfl, ?_⟩; have n0_ := Aside0.mk (blk_below (bS BK101.out) hb); have n1_ := Aside0.mk (below_step (by exact eS HB.out) hb); clear BK101; clear HB; have BK101 := n0_; have HB := n1_; clear n0_ n1_; (try clear hb); (try clear hb2); (try clear hk); (try clear hi)))
      go_ret
      exact ⟨by first | rfl | (simp [errW_none, errW_some] <;> rfl) | (simp [*, errW_none, errW_some] <;> rfl), by exact eS HB.out⟩
  · rw [if_neg c6] at H
    have c6b0 : (t112.toList == t106.toList) = false := beq_eq_false_iff_ne.mpr c6
    have c6b1 : (t112.toList != t106.toList) = true := bne_iff_ne.mpr c6
    exact absurd ((Option.some.inj H).trans HT.out) (by decide)

/-- THE ONE PURE STATEMENT of laws_FnExactFlawText: yours. -/
def laws_FnExactFlawText.Pure : Prop := ∀ (a0_0 : Int) (a0_1 : Int) (a0_2 : Int) (a0_3 : Int), (Lit.int .i64 a0_0).wf = true → (Lit.int .i64 a0_1).wf = true → (Lit.int .i64 a0_2).wf = true → (Lit.int .i64 a0_3).wf = true → ∃ k, laws_FnExactFlawText.f k a0_0 a0_1 a0_2 a0_3 = some true

end Go.Proofs.YtfibaganajembaaDoor.X

-- Qbase
namespace Go.Proofs.YtfibaganajembaaDoor.Pure
open Go Go.RowKit Go.Proofs Go.Proofs.YtfibaganajembaaDoorW.PrintWords Go.Proofs.YtfibaganajembaaDoorW.PrintLast
set_option linter.unusedVariables false
set_option linter.unusedSimpArgs false

theorem w64 {x : Int} (h1 : -9223372036854775808 ≤ x) (h2 : x ≤ 9223372036854775807) : wrap64 x = x := by unfold wrap64; omega
theorem nat_of {i : Int} (h : 0 ≤ i) : ∃ n : Nat, i = n := ⟨i.toNat, by omega⟩
end Go.Proofs.YtfibaganajembaaDoor.Pure

-- Qinrange
namespace Go.Proofs.YtfibaganajembaaDoor.Pure
open Go Go.RowKit Go.Proofs Go.Proofs.YtfibaganajembaaDoor.X Go.Proofs.YtfibaganajembaaDoorW.PrintWords Go.Proofs.YtfibaganajembaaDoorW.PrintLast
set_option linter.unusedVariables false
set_option linter.unusedSimpArgs false

theorem in_eq (x a b : Int) : impl_in.f x a b = some (decide (a ≤ x ∧ x ≤ b)) := by
  unfold impl_in.f
  by_cases h1 : a ≤ x <;> simp [h1]

end Go.Proofs.YtfibaganajembaaDoor.Pure

-- Qspecin
namespace Go.Proofs.YtfibaganajembaaDoor.Pure
open Go Go.RowKit Go.Proofs Go.Proofs.YtfibaganajembaaDoor.X Go.Proofs.YtfibaganajembaaDoorW.PrintWords Go.Proofs.YtfibaganajembaaDoorW.PrintLast
set_option linter.unusedVariables false
set_option linter.unusedSimpArgs false

theorem l1In_eq (x a b : Int) : spec_l1In.f x a b = some (decide (a ≤ x ∧ x ≤ b)) := by
  unfold spec_l1In.f
  by_cases h1 : a ≤ x <;> simp [h1]

end Go.Proofs.YtfibaganajembaaDoor.Pure

-- PureFnExactFlawText
namespace Go.Proofs.YtfibaganajembaaDoor.Pure
open Go Go.RowKit Go.Proofs Go.Proofs.YtfibaganajembaaDoor.X Go.Proofs.YtfibaganajembaaDoorW.PrintWords Go.Proofs.YtfibaganajembaaDoorW.PrintLast
set_option linter.unusedVariables false
set_option linter.unusedSimpArgs false

theorem digit_eq {n : Nat} (h : n < 10) : (⟨#[48, 49, 50, 51, 52, 53, 54, 55, 56, 57]⟩ : ByteArray).extract n (n + 1) = ⟨(Go.Lib.decDigits n).toArray⟩ := by
  have e : Go.Lib.decDigits n = [UInt8.ofNat (48 + n)] := by rw [Go.Lib.decDigits, dif_pos h]
  rw [e]
  have : n = 0 ∨ n = 1 ∨ n = 2 ∨ n = 3 ∨ n = 4 ∨ n = 5 ∨ n = 6 ∨ n = 7 ∨ n = 8 ∨ n = 9 := by omega
  rcases this with rfl | rfl | rfl | rfl | rfl | rfl | rfl | rfl | rfl | rfl <;> decide
theorem num_ex {k : Nat} {n : Int} (h : 0 ≤ n ∧ n ≤ 9) : ∃ s, spec_l1Num.f (k + 1) n = some s ∧ impl_decimal.f n = some s ∧ s.size ≤ 100 := by
  obtain ⟨m, rfl⟩ := nat_of h.1
  refine ⟨⟨(Go.Lib.decDigits m).toArray⟩, ?_, ?_, ?_⟩
  · rw [spec_l1Num.f, if_neg (by omega), if_pos (by omega), if_pos (by omega), w64 (x := (m : Int) + 1) (by omega) (by omega), if_pos (by omega), if_pos (by omega)]
    rw [show ((m : Int) + 1).toNat = m + 1 by omega, Int.toNat_natCast, digit_eq (by omega)]
  · simp only [impl_decimal.f, strconv_Itoa_13.f]
    rw [if_pos (by omega)]; simp
  · have e : Go.Lib.decDigits m = [UInt8.ofNat (48 + m)] := by rw [Go.Lib.decDigits, dif_pos (by omega)]
    rw [e]
    show (1 : Nat) ≤ 100
    omega
theorem FnExactFlawText : laws_FnExactFlawText.Pure := by
  intro a b c d _ _ _ _
  refine ⟨10, ?_⟩
  simp only [laws_FnExactFlawText.f, laws_toFlaw.f, Option.bind_some, spec_FlawText.f, spec_l22Flaw.f, l1In_eq, impl_FlawText.f, impl_isFlawKind.f, in_eq]
  by_cases ha : 0 ≤ a ∧ a ≤ 4
  rotate_left
  · rw [decide_eq_false ha]; simp [spec_FlawText.j0]
  by_cases hd : 1 ≤ d ∧ d ≤ 9
  rotate_left
  · rw [decide_eq_true ha, decide_eq_false hd]; simp [spec_FlawText.j0]
  by_cases hb : 0 ≤ b ∧ b ≤ 7
  rotate_left
  · rw [decide_eq_true ha, decide_eq_true hd, decide_eq_false hb]; simp [spec_FlawText.j0]
  by_cases hc : 0 ≤ c ∧ c ≤ 7
  rotate_left
  · rw [decide_eq_true ha, decide_eq_true hd, decide_eq_true hb, decide_eq_false hc]; simp [spec_FlawText.j0]
  obtain ⟨s3, e3, i3, z3⟩ := num_ex (k := 8) (n := d) (by omega)
  obtain ⟨s1, e1, i1, z1⟩ := num_ex (k := 8) (n := b) (by omega)
  obtain ⟨s2, e2, i2, z2⟩ := num_ex (k := 8) (n := c) (by omega)
  rw [decide_eq_true ha, decide_eq_true hb, decide_eq_true hc, decide_eq_true hd]
  simp only [if_true, Option.bind_some, Bool.not_true, spec_FlawText.j0, Bool.false_eq_true, if_false, e1, e2, e3, i1, i2, i3, z1, z2, z3, and_self]
  have hn : ∃ m : ByteArray, (if a = 0 then some (⟨#[107, 110, 111, 116]⟩ : ByteArray) else if a = 1 then some (⟨#[101, 100, 103, 101]⟩ : ByteArray) else if a = 2 then some (⟨#[115, 116, 97, 105, 110]⟩ : ByteArray) else if a = 3 then some (⟨#[115, 107, 101, 119]⟩ : ByteArray) else if a = 4 then some (⟨#[98, 111, 114, 100, 101, 114]⟩ : ByteArray) else none) = some m ∧ rdOf ByteArray.empty [(⟨#[107, 110, 111, 116]⟩ : ByteArray), (⟨#[101, 100, 103, 101]⟩ : ByteArray), (⟨#[115, 116, 97, 105, 110]⟩ : ByteArray), (⟨#[115, 107, 101, 119]⟩ : ByteArray), (⟨#[98, 111, 114, 100, 101, 114]⟩ : ByteArray)] a = m ∧ m.size ≤ 6 := by
    have : a = 0 ∨ a = 1 ∨ a = 2 ∨ a = 3 ∨ a = 4 := by omega
    rcases this with rfl | rfl | rfl | rfl | rfl
    · exact ⟨_, rfl, rfl, by decide⟩
    · exact ⟨_, rfl, rfl, by decide⟩
    · exact ⟨_, rfl, rfl, by decide⟩
    · exact ⟨_, rfl, rfl, by decide⟩
    · exact ⟨_, rfl, rfl, by decide⟩
  obtain ⟨m, hm1, hm2, hm3⟩ := hn
  rw [hm1, hm2]
  have q1 : (⟨#[32]⟩ : ByteArray).size = 1 := by decide
  have q2 : (⟨#[32, 97, 116, 32]⟩ : ByteArray).size = 4 := by decide
  have q3 : (⟨#[47]⟩ : ByteArray).size = 1 := by decide
  simp only [ByteArray.size_append, q1, q2, q3, List.length_cons, List.length_nil, Option.bind_some]
  rw [if_pos (by omega), if_pos (by omega), if_pos (by omega), if_pos (by omega), if_pos (by omega), if_pos (by omega), if_pos (by omega), if_pos (by omega)]
  simp

end Go.Proofs.YtfibaganajembaaDoor.Pure

-- Open
namespace Go.Proofs.Open
open Go.RowKit Go.WideShapes Go.Proofs.YtfibaganajembaaDoorW.PrintWords
set_option linter.unusedVariables false

theorem mapM_cons_some {α β : Type} {f : α → Option β} {a : α} {l : List α} {ys : List β} (h : (a :: l).mapM f = some ys) : ∃ y ys', f a = some y ∧ l.mapM f = some ys' ∧ ys = y :: ys' := by
  rw [List.mapM_cons] at h
  obtain ⟨y, hy, h⟩ := Option.bind_eq_some_iff.mp h
  obtain ⟨ys', hys, h⟩ := Option.bind_eq_some_iff.mp h
  exact ⟨y, ys', hy, hys, (Option.some.inj h).symm⟩
theorem mapM_some_get {α β : Type} {f : α → Option β} : ∀ {l : List α} {ys : List β}, l.mapM f = some ys → ys.length = l.length ∧ ∀ (i : Nat) (a : α), l[i]? = some a → ∃ y, f a = some y ∧ ys[i]? = some y
  | [], ys, h => by
    obtain rfl : ys = [] := by simpa using h
    exact ⟨rfl, fun i a h => by simp at h⟩
  | a :: l, ys, h => by
    obtain ⟨y, ys', hy, hys, rfl⟩ := mapM_cons_some h
    obtain ⟨hl, hg⟩ := mapM_some_get hys
    refine ⟨by simp [hl], fun i b hb => ?_⟩
    cases i with
    | zero => obtain rfl : a = b := by simpa using hb
              exact ⟨y, hy, rfl⟩
    | succ i => exact hg i b (by simpa using hb)
theorem cells_get {w : World} {base n : Nat} {a : Addr} {cs : List Value} (h : w.cells? base a n = some cs) : cs.length = n ∧ ∀ i u, cs[i]? = some u → w.cell? (a.add i) = some u := by
  unfold World.cells? at h
  split at h
  · obtain ⟨hl, hg⟩ := mapM_some_get h
    rw [List.length_range] at hl
    refine ⟨hl, fun i u hu => ?_⟩
    have hi : i < n := by have := (List.getElem?_eq_some_iff.1 hu).1; omega
    obtain ⟨y, hy, hy2⟩ := hg i i (by simp [List.getElem?_range hi])
    rw [hu] at hy2
    injection hy2 with hy2
    rw [hy2]; exact hy
  · cases h
theorem add_add (a : Addr) (i j : Nat) : (a.add i).add j = a.add (i + j) := by
  by_cases hi : i = 0
  · subst hi
    rw [Nat.zero_add, show a.add 0 = a by unfold Addr.add; simp]
  · by_cases hj : j = 0
    · subst hj
      rw [Nat.add_zero, show (a.add i).add 0 = a.add i by unfold Addr.add; simp]
    · unfold Addr.add
      simp [hi, hj, Nat.add_assoc]
/-- Whatever reads as a datum of type t is an x of kind d, within ok. -/
structure Opens {α : Type} (P : Program) (W : World) (t : TypeId) (d : Kd α) (ok : α → Prop) : Prop where
  get : ∀ {H : Type} (enc : TypeId × Value → H) (base : Nat) (spare : Nat → Bool) (held : Bool) (fuel : Nat) (cs : List Value) (y : DataW H × List MemPlace), DataW.trod enc P W base spare held fuel t cs = some y → ∃ x, d.K W x cs ∧ ok x
theorem Opens.int {P : Program} {W : World} {t : TypeId} {k : IntKind} (hu : P.underlying t = some (.int k)) : Opens P W t (Kd.int k) (fun x => (Lit.int k x).wf = true) := ⟨by
  intro H enc base spare held fuel cs y h
  cases fuel with
  | zero => simp [DataW.trod] at h
  | succ fuel =>
    simp only [DataW.trod, hu] at h
    split at h <;> first | (cases h; done) | skip
    all_goals rename_i heq
    all_goals first | (cases heq; done) | skip
    rename_i k0 k' n
    injection heq with heq
    injection heq with heq
    subst heq
    split at h
    · rename_i hk
      obtain ⟨rfl, hw⟩ := hk
      exact ⟨n, rfl, hw⟩
    · cases h⟩
theorem Opens.bool {P : Program} {W : World} {t : TypeId} (hu : P.underlying t = some .bool) : Opens P W t Kd.bool (fun _ => True) := ⟨by
  intro H enc base spare held fuel cs y h
  cases fuel with
  | zero => simp [DataW.trod] at h
  | succ fuel =>
    simp only [DataW.trod, hu] at h
    split at h <;> first | (cases h; done) | skip
    all_goals rename_i heq
    all_goals first | (cases heq; done) | skip
    rename_i b
    exact ⟨b, rfl, trivial⟩⟩
theorem Opens.string {P : Program} {W : World} {t : TypeId} (hu : P.underlying t = some .string) : Opens P W t Kd.string (fun s => s.size ≤ 9223372036854775807) := ⟨by
  intro H enc base spare held fuel cs y h
  cases fuel with
  | zero => simp [DataW.trod] at h
  | succ fuel =>
    simp only [DataW.trod, hu] at h
    split at h <;> first | (cases h; done) | skip
    all_goals rename_i heq
    all_goals first | (cases heq; done) | skip
    rename_i s
    split at h
    · rename_i hs
      exact ⟨s, rfl, by simpa [maxLen] using hs⟩
    · cases h⟩
theorem pick {α : Type} {n : Nat} {Q : Nat → α → Prop} (h : ∀ i, i < n → ∃ x, Q i x) : ∃ xs : List α, xs.length = n ∧ ∀ i x, xs[i]? = some x → Q i x := by
  induction n with
  | zero => exact ⟨[], rfl, fun i x h => by simp at h⟩
  | succ n ih =>
    obtain ⟨xs, hl, hq⟩ := ih (fun i hi => h i (by omega))
    obtain ⟨x, hx⟩ := h n (by omega)
    refine ⟨xs ++ [x], by simp [hl], fun i z hz => ?_⟩
    by_cases hi : i < n
    · rw [List.getElem?_append_left (by omega)] at hz
      exact hq i z hz
    · have hlt := (List.getElem?_eq_some_iff.1 hz).1
      simp [hl] at hlt
      obtain rfl : i = n := by omega
      rw [List.getElem?_append_right (by omega), hl, Nat.sub_self] at hz
      obtain rfl : x = z := by simpa using hz
      exact hx
theorem Opens.slice {α : Type} {P : Program} {W : World} {t e : TypeId} {d : Kd α} {ok : α → Prop} (hu : P.underlying t = some (.slice e)) (hc : P.cellsOf e = d.sz) (h : Opens P W e d ok) :
    Opens P W t (Kd.slice e d) (fun l => l.length ≤ 9223372036854775807 ∧ ∀ x ∈ l, ok x) := ⟨by
  intro H enc base spare held fuel cs y hd
  cases fuel with
  | zero => simp [DataW.trod] at hd
  | succ fuel =>
    simp only [DataW.trod, hu] at hd
    split at hd <;> first | (cases hd; done) | skip
    all_goals rename_i heq
    all_goals first | (cases heq; done) | skip
    · exact ⟨[], ⟨none, 0, rfl, Nat.le_refl _, rfl, by simp, fun hp => absurd hp (by simp)⟩, by simp, fun x hx => by simp at hx⟩
    · rename_i e' a len cap
      injection heq with heq
      injection heq with heq
      subst heq
      split at hd
      · rename_i hb
        obtain ⟨hb1, hb2, hb3⟩ := hb
        obtain ⟨elems, hel, _⟩ := Option.bind_eq_some_iff.mp hd
        obtain ⟨hl, hg⟩ := mapM_some_get hel
        rw [List.length_range] at hl
        have hm : len ≤ 9223372036854775807 := by have : cap ≤ 9223372036854775807 := by simpa [maxLen] using hb3
                                                  omega
        obtain ⟨xs, hxl, hxs⟩ := pick (n := len) (Q := fun i x => ∃ c, c.length = d.sz ∧ d.K W x c ∧ ok x ∧ ∀ j u, c[j]? = some u → W.cell? (a.add (i * d.sz + j)) = some u) (fun i hi => by
          obtain ⟨z, hz, _⟩ := hg i i (by simp [List.getElem?_range hi])
          obtain ⟨c, hcc, hct⟩ := Option.bind_eq_some_iff.mp hz
          obtain ⟨x, hK, hok⟩ := h.get enc base spare held fuel c z hct
          obtain ⟨hcl, hcell⟩ := cells_get hcc
          refine ⟨x, c, by rw [hcl, hc], hK, hok, fun j u hu => ?_⟩
          have := hcell j u hu
          rw [add_add, hc] at this
          exact this)
        refine ⟨xs, ⟨some a, cap, by rw [hxl], by omega, rfl, by omega, fun _ => ⟨a, rfl, fun j p hj => ?_⟩⟩, by omega, fun x hx => ?_⟩
        · obtain ⟨c, h1, h2, h3, h4⟩ := hxs j p hj
          exact ⟨c, h1, h2, h4⟩
        · obtain ⟨j, hj, rfl⟩ := List.mem_iff_getElem.mp hx
          obtain ⟨c, h1, h2, h3, h4⟩ := hxs j _ (List.getElem?_eq_getElem hj)
          exact h3
      · cases hd⟩
/-- The fields from an offset on. -/
structure OpensAt {α : Type} (P : Program) (W : World) (fs : List Field) (off : Nat) (d : Kd α) (ok : α → Prop) : Prop where
  get : ∀ {H : Type} (enc : TypeId × Value → H) (base : Nat) (spare : Nat → Bool) (held : Bool) (fuel : Nat) (cs : List Value) (ys : List (DataW H × List MemPlace)), cs.length = off + d.sz →
    (fs.mapM fun f => DataW.trod enc P W base spare held fuel f.type ((cs.drop f.offset).take (P.cellsOf f.type))) = some ys → ∃ x, d.K W x (cs.drop off) ∧ ok x
theorem OpensAt.one {α : Type} {P : Program} {W : World} {f : Field} {off : Nat} {d : Kd α} {ok : α → Prop} (ho : f.offset = off) (hc : P.cellsOf f.type = d.sz) (h : Opens P W f.type d ok) : OpensAt P W [f] off d ok := ⟨by
  intro H enc base spare held fuel cs ys hl hm
  obtain ⟨y, _, hy, _, _⟩ := mapM_cons_some hm
  rw [ho, hc, List.take_of_length_le (by rw [List.length_drop]; omega)] at hy
  exact h.get enc base spare held fuel _ y hy⟩
theorem OpensAt.cons {α β : Type} {P : Program} {W : World} {f : Field} {fs : List Field} {off : Nat} {d : Kd α} {d2 : Kd β} {ok : α → Prop} {ok2 : β → Prop} (ho : f.offset = off) (hc : P.cellsOf f.type = d.sz) (h : Opens P W f.type d ok) (h2 : OpensAt P W fs (off + d.sz) d2 ok2) :
    OpensAt P W (f :: fs) off (Kd.pair d d2) (fun x => ok x.1 ∧ ok2 x.2) := ⟨by
  intro H enc base spare held fuel cs ys hl hm
  have hl2 : cs.length = off + (d.sz + d2.sz) := hl
  obtain ⟨y, ys', hy, hys, _⟩ := mapM_cons_some hm
  rw [ho, hc] at hy
  obtain ⟨x, hK, hok⟩ := h.get enc base spare held fuel _ y hy
  obtain ⟨x2, hK2, hok2⟩ := h2.get enc base spare held fuel cs ys' (by omega) hys
  refine ⟨(x, x2), ⟨(cs.drop off).take d.sz, cs.drop (off + d.sz), ?_, hK, hK2⟩, hok, hok2⟩
  rw [← List.drop_drop, List.take_append_drop]⟩
theorem Opens.struct {α : Type} {P : Program} {W : World} {t : TypeId} {fs : Array Field} {d : Kd α} {ok : α → Prop} (hu : P.underlying t = some (.struct fs)) (hc : P.cellsOf t = d.sz) (h : OpensAt P W fs.toList 0 d ok) : Opens P W t d ok := ⟨by
  intro H enc base spare held fuel cs y hd
  cases fuel with
  | zero => simp [DataW.trod] at hd
  | succ fuel =>
    simp only [DataW.trod, hu] at hd
    split at hd
    · rename_i hl
      obtain ⟨ys, hys, _⟩ := Option.map_eq_some_iff.mp hd
      exact h.get enc base spare held fuel cs ys (by omega) hys
    · cases hd⟩
theorem Opens.iso {α β : Type} {P : Program} {W : World} {t : TypeId} {d : Kd α} {f : β → α} {ok : α → Prop} (h : Opens P W t d ok) (g : α → β) (hg : ∀ x, f (g x) = x) : Opens P W t (Kd.iso d f) (fun y => ok (f y)) := ⟨by
  intro H enc base spare held fuel cs y hd
  obtain ⟨x, hK, hok⟩ := h.get enc base spare held fuel cs y hd
  refine ⟨g x, ?_, ?_⟩
  · show d.K W (f (g x)) cs
    rw [hg]; exact hK
  · rw [hg]; exact hok⟩
theorem wf_i64 {x : Int} (h : (Lit.int .i64 x).wf = true) : -9223372036854775808 ≤ x ∧ x ≤ 9223372036854775807 := by
  have h1 := h
  simp [Lit.wf] at h1
  exact ⟨h1.1, h1.2⟩
end Go.Proofs.Open

-- XOpens
namespace Go.Proofs.YtfibaganajembaaDoor.X
open Ho (bS eS)
open Go.RowKit Go.Proofs.YtfibaganajembaaDoorW.PrintWords Go.Proofs.YtfibaganajembaaDoorW.PrintLast Go.Proofs.YtfibaganajembaaDoorW.PrintMore
attribute [local go_sem] max2_int min2_int max_two min_two max_three min_three max_four min_four   -- for this text's walks alone
set_option linter.unusedVariables false
set_option linter.unusedSimpArgs false

def ok23 (x : S23) : Prop := (Lit.int .i64 x.f0).wf = true ∧ (Lit.int .i64 x.f1).wf = true ∧ (Lit.int .i64 x.f2).wf = true ∧ (Lit.int .i64 x.f3).wf = true
theorem opens23 (W : World) : Open.Opens Tryd.prog W 23 k23 ok23 := ⟨fun enc base spare held fuel cs y h => by
  obtain ⟨x, hK, hok⟩ := (Open.Opens.iso (f := fun x : S23 => (x.f0, x.f1, x.f2, x.f3)) (Open.Opens.struct Tryd.underlying23 (by kernel_rfl) (Open.OpensAt.cons rfl (by kernel_rfl) (Open.Opens.int Tryd.underlying3) (Open.OpensAt.cons rfl (by kernel_rfl) (Open.Opens.int Tryd.underlying3) (Open.OpensAt.cons rfl (by kernel_rfl) (Open.Opens.int Tryd.underlying3) (Open.OpensAt.one rfl (by kernel_rfl) (Open.Opens.int Tryd.underlying3)))))) (fun x => ⟨x.1, x.2.1, x.2.2.1, x.2.2.2⟩) (fun x => rfl)).get enc base spare held fuel cs y h
  exact ⟨x, hK, hok⟩⟩
end Go.Proofs.YtfibaganajembaaDoor.X
