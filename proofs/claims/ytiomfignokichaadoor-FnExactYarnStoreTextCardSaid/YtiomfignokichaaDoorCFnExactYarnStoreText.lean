/- The law FnExactYarnStoreText: whatever the input, the call returns true, and each argument reads behind the call as it read before. Conditions: none but those of the given row. Printed by this session's own program (wip/xprint). -/
import Derived.Test.YtiomfignokichaaDoorZFnExactYarnStoreText3
import Derived.Test.YtiomfignokichaaDoorRows
import Derived.WalkKit
import Derived.ProofKit
import Derived.OpenShut
import Derived.ShutString
import Derived.ChangeOld
import Derived.Below
import Derived.SizedLaws
import Derived.Handed
import Derived.Lay
import Derived.SevenTiedAt
import Derived.LaidOnce
import Derived.Test.YtiomfignokichaaDoorCards
import Derived.Test.YtiomfignokichaaDoorTie
namespace Go.Proofs.YtiomfignokichaaDoor.fnExactYarnStoreText
open Go.ChangeShapes Go.WideShapes Go.ChangeAt Go.RowKit X
open Go.ChangeMaps (open_string shut_string)
set_option linter.unusedVariables false
theorem own : ownKnob Tryd.prog.godebug = none := by kernel_rfl
theorem laidOut : laidOutB Tryd.prog = true := by kernel_rfl
set_option maxRecDepth 100000 in
theorem lifted (os : Os) (started : os.Started) (H : Type) (enc : TypeId × Value → H) :
    ReturnsInHanded {} Tryd.checked os 3 .any (fun w args => (Rows.fnExactYarnStoreTextSpec.pre enc Tryd.prog Tryd.f3 Rows.fnExactYarnStoreTextRow.domain false w args ∧ laidMetH Tryd.prog Rows.fnExactYarnStoreTextRow.laid w) ∧ sizedMet enc Tryd.prog Tryd.f3 (OpenSpec.ofChange Rows.fnExactYarnStoreTextSpec) false w args) (Rows.fnExactYarnStoreTextSpec.post enc Tryd.prog Tryd.f3 false true false false) := by
  refine returnsInHanded_of_change_and (C := Tryd.checked) (X := fun w _ => laidMetH Tryd.prog Rows.fnExactYarnStoreTextRow.laid w) (fun _ _ _ hh h => h.of_heap hh) own started (by kernel_rfl) Tryd.func3
    (ChangeSpec.witness_shaped (enc := enc) (C := Tryd.checked) (os := os) (X := fun w _ => laidMetH Tryd.prog Rows.fnExactYarnStoreTextRow.laid w) false (World.laidAll Tryd.prog os Rows.fnExactYarnStoreTextRow.laid) #[.agg #[.slice none 0 0, .int .i64 0, .int .i64 0, .int .i64 0, .int .i64 0]] 8 (World.laidAll_os _ _ _)
      (World.shaped_of_ZipB (by kernel_rfl) (by kernel_rfl)) (by kernel_rfl) (by kernel_rfl) (by kernel_rfl)
      (by rw [MakeChecks.laidMetH_plain _ _ _ (by kernel_rfl)]; exact laidMet_laidAll _ (by kernel_rfl) (by kernel_rfl))) ?_
  intro W base args ds gs before hval0 hW hcnd hsz0 hLaid _
  have hval : ∀ (j : Nat) t v, Tryd.f3.params[j]? = some t → args[j]? = some v → Value.okWide Tryd.prog W .any base t v := hval0
  have hW' := hW
  obtain ⟨p, q, hA0, hV, rfl, hfz, hnd⟩ := hW
  have hA : DataW.TrodAll enc Tryd.prog W 0 (fun _ => true) true Tryd.f3.params.toList args.toList ds p := hA0
  rw [Tryd.params3] at hA hval
  obtain ⟨v0, vs0, d0, ds0, p0, q0, hargs, rfl, rfl, h0, r0⟩ := trodAll_cons hA
  obtain ⟨rfl, rfl, rfl⟩ := trodAll_nil r0
  obtain rfl : args = #[v0] := by cases args; simp_all
  obtain ⟨rfl, rfl⟩ := trodVars_none hV
  obtain ⟨cs0, rfl, hsz0⟩ := okWide_struct Tryd.underlying24 (hval 0 24 v0 rfl rfl)
  have k0 := h0
  have lt0 : ∀ x ∈ p0, x.block < W.heap.size := by obtain ⟨m, hm⟩ := k0; exact DataW.trod_lt m _ _ _ hm
  obtain ⟨x0, hK0, hok0⟩ : ∃ x, k24.K W x cs0.toList ∧ ok24 x := by obtain ⟨fuel, hf⟩ := h0; exact (opens24 W).get enc 0 _ _ fuel _ _ (by simpa [Value.cells] using hf)
  obtain ⟨A0_0, c0_0, hcs0, hl0_0, hC0_0⟩ := k24_open hK0
  obtain rfl : cs0 = #[.slice A0_0 x0.f0.length c0_0, .int .i64 x0.f1, .int .i64 x0.f2, .int .i64 x0.f3, .int .i64 x0.f4] := by cases cs0; simpa using hcs0
  have hok0 := hok0
  clear hA0 hval0 hsz0
  obtain ⟨k, h⟩ := Pure.FnExactYarnStoreText x0.f0 x0.f1 x0.f2 x0.f3 x0.f4 hok0.1 hok0.2.1 hok0.2.2.1 hok0.2.2.2.1 hok0.2.2.2.2
  have htab : Lib.TabIs Tryd.prog W "internal/strconv.uint64pow10" .u64 Lib.pow10Tab := by
    have hc := hLaid
    rw [MakeChecks.laidMetH_plain _ _ _ (by kernel_rfl)] at hc
    obtain ⟨_, hL, _⟩ := hc
    obtain ⟨_, _, _, _, _, _, _, _, _, _, hL, _⟩ := hL
    obtain ⟨_, _, _, _, _, _, _, _, _, _, hL, _⟩ := hL
    obtain ⟨g', t', cs, fuel, p, q, hg', ht', hvar, hd, _, _⟩ := hL
    obtain rfl := Option.some.inj (Tryd.lays171.m17.symm.trans hg')
    obtain rfl := Option.some.inj ((show (Tryd.prog.globals[Tryd.lays171_ren.g 17]?).map (·.type) = some 78 by kernel_rfl).symm.trans ht')
    unfold Lib.TabIs
    rw [hvar, ← Lib.cells_of_tab (n := 20) (e := 71) (zs := Lib.pow10Tab) (k := .u64) (by kernel_rfl) (by kernel_rfl) (by kernel_rfl) (by kernel_rfl) hd]
  refine (X.laws_FnExactYarnStoreText.calls k _ _ x0.f0 x0.f1 x0.f2 x0.f3 x0.f4 true W hC0_0 hl0_0 rfl htab h).mono fun e W' ⟨he, hd⟩ => ?_
  have bel : Below W.heap.size W W' := hd
  subst he
  exact ⟨_, rfl, _, _, _, [], _, [], hW', trodAll_mk1 (shut_bool Tryd.underlying4 _), (trodAll_cons_mk (Below.trod laidOut (by kernel_rfl) (of_decide_eq_true (by kernel_rfl)) k0 bel lt0) trodAll_mk0), rfl, bel.frame _, fun h => by cases h⟩
theorem over : Rows.fnExactYarnStoreTextRow.holds Tryd.pinned (OpenSpec.ofChange Rows.fnExactYarnStoreTextSpec) :=
  OpenClaim.holds_of_wide 3 Tryd.f3 rfl rfl rfl rfl rfl rfl rfl ⟨rfl, rfl, rfl, rfl, rfl⟩ rfl rfl rfl rfl rfl (by kernel_rfl) Tryd.func3 (by kernel_rfl)
    (of_decide_eq_true (by kernel_rfl)) (by unfold Func.isWrapper; first | (rw [if_pos (by decide +kernel)]; kernel_rfl) | (rw [if_neg (by decide +kernel)]; exact ⟨rfl, rfl⟩))
    (fun os started H enc _ => lifted os started H enc)
theorem card : Rows.FnExactYarnStoreTextCardSaid :=
  Claim7.holds_tied_plain_at .later [] [.data, .data, .data] true (true, "2a97840ca5a3176d5e16042119b2f4bb7dcd42981b5a41ee412ce127228c3ec4") false over (fun _ h => by cases h) (by kernel_rfl) (fun _ h => by cases h) fnExactYarnStoreText_row_tie rfl ⟨rfl, rfl⟩ (by kernel_rfl) rfl
    (fun f fn hf hfn => by
      obtain rfl : f = 3 := Option.some.inj ((show Tryd.prog.funcNamed "loop.example/g01023/laws.FnExactYarnStoreText" = some 3 by kernel_rfl).symm.trans hf) |>.symm
      obtain rfl : fn = Tryd.f3 := (Option.some.inj (Tryd.func3.symm.trans hfn)).symm
      exact ⟨by kernel_rfl, fun j t ht => by
        rw [Tryd.params3] at ht
        have hm : t ∈ [24] := by simpa using Array.mem_of_getElem? ht
        have hall : ([24].all fun u => !Tryd.prog.wantsStandIn u) = true := by kernel_rfl
        exact (show Tryd.prog.wantsStandIn t = false by simpa using List.all_eq_true.1 hall t hm)⟩)
    (by kernel_rfl)
end Go.Proofs.YtiomfignokichaaDoor.fnExactYarnStoreText
namespace Go.Proofs.YtiomfignokichaaDoor
/-- The row, under a short name, for the claim. -/
theorem fnExactYarnStoreText_holds : Rows.FnExactYarnStoreTextCardSaid := fnExactYarnStoreText.card
#print axioms fnExactYarnStoreText_holds
end Go.Proofs.YtiomfignokichaaDoor
