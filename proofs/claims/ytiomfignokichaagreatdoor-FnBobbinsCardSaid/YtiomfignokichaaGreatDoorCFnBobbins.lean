/- The law FnBobbins: whatever the input, the call returns true, and each argument reads behind the call as it read before. Conditions: none but those of the given row. Printed by this session's own program (wip/xprint). -/
import Derived.Test.YtiomfignokichaaGreatDoorZFnBobbins4
import Derived.Test.YtiomfignokichaaGreatDoorRows
import Derived.WalkKit
import Derived.ProofKit
import Derived.OpenShut
import Derived.ShutString
import Derived.ChangeOld
import Derived.Below
import Derived.SizedLaws
import Derived.Handed
import Derived.Lay
import Derived.SevenTiedAt
import Derived.LaidOnce
import Derived.Test.YtiomfignokichaaGreatDoorCards
import Derived.Test.YtiomfignokichaaGreatDoorTie
namespace Go.Proofs.YtiomfignokichaaGreatDoor.fnBobbins
open Go.ChangeShapes Go.WideShapes Go.ChangeAt Go.RowKit X
open Go.ChangeMaps (open_string shut_string)
set_option linter.unusedVariables false
theorem own : ownKnob Tryz.prog.godebug = none := by kernel_rfl
theorem laidOut : laidOutB Tryz.prog = true := by kernel_rfl
set_option maxRecDepth 100000 in
theorem lifted (os : Os) (started : os.Started) (H : Type) (enc : TypeId × Value → H) :
    ReturnsInHanded {} Tryz.checked os 3 .any (fun w args => (Rows.fnBobbinsSpec.pre enc Tryz.prog Tryz.f3 Rows.fnBobbinsRow.domain false w args ∧ laidMetH Tryz.prog Rows.fnBobbinsRow.laid w) ∧ sizedMet enc Tryz.prog Tryz.f3 (OpenSpec.ofChange Rows.fnBobbinsSpec) false w args) (Rows.fnBobbinsSpec.post enc Tryz.prog Tryz.f3 false true false false) := by
  refine returnsInHanded_of_change_and (C := Tryz.checked) (X := fun w _ => laidMetH Tryz.prog Rows.fnBobbinsRow.laid w) (fun _ _ _ hh h => h.of_heap hh) own started (by kernel_rfl) Tryz.func3
    (ChangeSpec.witness_shaped (enc := enc) (C := Tryz.checked) (os := os) (X := fun w _ => laidMetH Tryz.prog Rows.fnBobbinsRow.laid w) false (World.laidAll Tryz.prog os Rows.fnBobbinsRow.laid) #[.slice none 0 0] 8 (World.laidAll_os _ _ _)
      (World.shaped_of_ZipB (by kernel_rfl) (by kernel_rfl)) (by kernel_rfl) (by kernel_rfl) (by kernel_rfl)
      (by rw [MakeChecks.laidMetH_plain _ _ _ (by kernel_rfl)]; exact laidMet_laidAll _ (by kernel_rfl) (by kernel_rfl))) ?_
  intro W base args ds gs before hval0 hW hcnd hsz0 hLaid _
  have hval : ∀ (j : Nat) t v, Tryz.f3.params[j]? = some t → args[j]? = some v → Value.okWide Tryz.prog W .any base t v := hval0
  have hW' := hW
  obtain ⟨p, q, hA0, hV, rfl, hfz, hnd⟩ := hW
  have hA : DataW.TrodAll enc Tryz.prog W 0 (fun _ => true) true Tryz.f3.params.toList args.toList ds p := hA0
  rw [Tryz.params3] at hA hval
  obtain ⟨v0, vs0, d0, ds0, p0, q0, hargs, rfl, rfl, h0, r0⟩ := trodAll_cons hA
  obtain ⟨rfl, rfl, rfl⟩ := trodAll_nil r0
  obtain rfl : args = #[v0] := by cases args; simp_all
  obtain ⟨rfl, rfl⟩ := trodVars_none hV
  obtain ⟨a0, len0, cap0, rfl⟩ := okWide_slice Tryz.underlying22 (hval 0 22 v0 rfl rfl)
  have k0 := h0
  have lt0 : ∀ x ∈ p0, x.block < W.heap.size := by obtain ⟨m, hm⟩ := k0; exact DataW.trod_lt m _ _ _ hm
  obtain ⟨fuel0, hf0⟩ := h0
  obtain ⟨x0, ⟨A0, c0, hcs0, hl0, hC0⟩, hok0⟩ := Open.Opens.get (Open.Opens.slice Tryz.underlying22 (by kernel_rfl) (Open.Opens.int Tryz.underlying5)) enc 0 _ _ fuel0 [.slice a0 len0 cap0] _ (by simpa [Value.cells] using hf0)
  simp only [List.cons.injEq, Value.slice.injEq, and_true] at hcs0
  obtain ⟨rfl, rfl, rfl⟩ := hcs0
  clear hA0 hval0 hsz0
  obtain ⟨k, h⟩ := Pure.FnBobbins x0 hok0
  have htab : Lib.TabIs Tryz.prog W "internal/strconv.uint64pow10" .u64 Lib.pow10Tab := by
    have hc := hLaid
    rw [MakeChecks.laidMetH_plain _ _ _ (by kernel_rfl)] at hc
    obtain ⟨_, hL, _⟩ := hc
    obtain ⟨_, _, _, _, _, _, _, _, _, _, hL, _⟩ := hL
    obtain ⟨_, _, _, _, _, _, _, _, _, _, hL, _⟩ := hL
    obtain ⟨g', t', cs, fuel, p, q, hg', ht', hvar, hd, _, _⟩ := hL
    obtain rfl := Option.some.inj (Tryz.lays171.m17.symm.trans hg')
    obtain rfl := Option.some.inj ((show (Tryz.prog.globals[Tryz.lays171_ren.g 17]?).map (·.type) = some 119 by kernel_rfl).symm.trans ht')
    unfold Lib.TabIs
    rw [hvar, ← Lib.cells_of_tab (n := 20) (e := 52) (zs := Lib.pow10Tab) (k := .u64) (by kernel_rfl) (by kernel_rfl) (by kernel_rfl) (by kernel_rfl) hd]
  refine (X.Fj.calls k _ _ x0 true W hC0 hl0 rfl htab h).mono fun e W' ⟨he, hd⟩ => ?_
  have bel : Below W.heap.size W W' := hd
  subst he
  exact ⟨_, rfl, _, _, _, [], _, [], hW', trodAll_mk1 (shut_bool Tryz.underlying4 _), (trodAll_cons_mk (Below.trod laidOut (by kernel_rfl) (of_decide_eq_true (by kernel_rfl)) k0 bel lt0) trodAll_mk0), rfl, bel.frame _, fun h => by cases h⟩
theorem over : Rows.fnBobbinsRow.holds Tryz.pinned (OpenSpec.ofChange Rows.fnBobbinsSpec) :=
  OpenClaim.holds_of_wide 3 Tryz.f3 rfl rfl rfl rfl rfl rfl rfl ⟨rfl, rfl, rfl, rfl, rfl⟩ rfl rfl rfl rfl rfl (by kernel_rfl) Tryz.func3 (by kernel_rfl)
    (of_decide_eq_true (by kernel_rfl)) (by unfold Func.isWrapper; first | (rw [if_pos (by decide +kernel)]; kernel_rfl) | (rw [if_neg (by decide +kernel)]; exact ⟨rfl, rfl⟩))
    (fun os started H enc _ => lifted os started H enc)
theorem card : Rows.FnBobbinsCardSaid :=
  Claim7.holds_tied_plain_at .later [] [.data, .data, .data] true (true, "66072db9d424f75f3599716f725001fcee8763004c4c602523dc0efb8485b32b") false over (fun _ h => by cases h) (by kernel_rfl) (fun _ h => by cases h) fnBobbins_row_tie rfl ⟨rfl, rfl⟩ (by kernel_rfl) rfl
    (fun f fn hf hfn => by
      obtain rfl : f = 3 := Option.some.inj ((show Tryz.prog.funcNamed "loop.example/g01023/laws.FnBobbins" = some 3 by kernel_rfl).symm.trans hf) |>.symm
      obtain rfl : fn = Tryz.f3 := (Option.some.inj (Tryz.func3.symm.trans hfn)).symm
      exact ⟨by kernel_rfl, fun j t ht => by
        rw [Tryz.params3] at ht
        have hm : t ∈ [22] := by simpa using Array.mem_of_getElem? ht
        have hall : ([22].all fun u => !Tryz.prog.wantsStandIn u) = true := by kernel_rfl
        exact (show Tryz.prog.wantsStandIn t = false by simpa using List.all_eq_true.1 hall t hm)⟩)
    (by kernel_rfl)
end Go.Proofs.YtiomfignokichaaGreatDoor.fnBobbins
namespace Go.Proofs.YtiomfignokichaaGreatDoor
/-- The row, under a short name, for the claim. -/
theorem fnBobbins_holds : Rows.FnBobbinsCardSaid := fnBobbins.card
#print axioms fnBobbins_holds
end Go.Proofs.YtiomfignokichaaGreatDoor
