-- Printed by this session's own program (wip/xprint). Lean checks it.
import Derived.Test.YtgohfbelppokcaaX0
import Derived.Test.YtgohfbelppokcaaOpen
namespace Go.Proofs.Ytgohfbelppokcaa.X
open Ho (bS eS)
open Go.RowKit Go.Proofs.YtgohfbelppokcaaW.PrintWords Go.Proofs.YtgohfbelppokcaaW.PrintLast Go.Proofs.YtgohfbelppokcaaW.PrintMore
attribute [local go_sem] max2_int min2_int max_two min_two max_three min_three max_four min_four   -- for this text's walks alone
set_option linter.unusedVariables false
set_option linter.unusedSimpArgs false

def ok23 (x : S23) : Prop := (Lit.int .i64 x.f0).wf = true ∧ (Lit.int .i64 x.f1).wf = true ∧ (Lit.int .i64 x.f2).wf = true
theorem opens23 (W : World) : Open.Opens Try.prog W 23 k23 ok23 := ⟨fun enc base spare held fuel cs y h => by
  obtain ⟨x, hK, hok⟩ := (Open.Opens.iso (f := fun x : S23 => (x.f0, x.f1, x.f2)) (Open.Opens.struct Try.underlying23 (by kernel_rfl) (Open.OpensAt.cons rfl (by kernel_rfl) (Open.Opens.int Try.underlying3) (Open.OpensAt.cons rfl (by kernel_rfl) (Open.Opens.int Try.underlying3) (Open.OpensAt.one rfl (by kernel_rfl) (Open.Opens.int Try.underlying3))))) (fun x => ⟨x.1, x.2.1, x.2.2⟩) (fun x => rfl)).get enc base spare held fuel cs y h
  exact ⟨x, hK, hok⟩⟩
def ok34 (x : S34) : Prop := (Lit.int .i64 x.f0).wf = true ∧ (Lit.int .i64 x.f1).wf = true ∧ (Lit.int .i64 x.f2).wf = true ∧ (Lit.int .i64 x.f3).wf = true
theorem opens34 (W : World) : Open.Opens Try.prog W 34 k34 ok34 := ⟨fun enc base spare held fuel cs y h => by
  obtain ⟨x, hK, hok⟩ := (Open.Opens.iso (f := fun x : S34 => (x.f0, x.f1, x.f2, x.f3)) (Open.Opens.struct Try.underlying34 (by kernel_rfl) (Open.OpensAt.cons rfl (by kernel_rfl) (Open.Opens.int Try.underlying3) (Open.OpensAt.cons rfl (by kernel_rfl) (Open.Opens.int Try.underlying3) (Open.OpensAt.cons rfl (by kernel_rfl) (Open.Opens.int Try.underlying3) (Open.OpensAt.one rfl (by kernel_rfl) (Open.Opens.int Try.underlying3)))))) (fun x => ⟨x.1, x.2.1, x.2.2.1, x.2.2.2⟩) (fun x => rfl)).get enc base spare held fuel cs y h
  exact ⟨x, hK, hok⟩⟩
def ok42 (x : S42) : Prop := (Lit.int .i64 x.f0).wf = true ∧ (Lit.int .i64 x.f1).wf = true ∧ (x.f2.length ≤ 9223372036854775807 ∧ ∀ y_ ∈ x.f2, (Lit.int .i64 y_).wf = true)
theorem opens42 (W : World) : Open.Opens Try.prog W 42 k42 ok42 := ⟨fun enc base spare held fuel cs y h => by
  obtain ⟨x, hK, hok⟩ := (Open.Opens.iso (f := fun x : S42 => (x.f0, x.f1, x.f2)) (Open.Opens.struct Try.underlying42 (by kernel_rfl) (Open.OpensAt.cons rfl (by kernel_rfl) (Open.Opens.int Try.underlying3) (Open.OpensAt.cons rfl (by kernel_rfl) (Open.Opens.int Try.underlying3) (Open.OpensAt.one rfl (by kernel_rfl) (Open.Opens.slice Try.underlying40 (by kernel_rfl) (Open.Opens.int Try.underlying3)))))) (fun x => ⟨x.1, x.2.1, x.2.2⟩) (fun x => rfl)).get enc base spare held fuel cs y h
  exact ⟨x, hK, hok⟩⟩
end Go.Proofs.Ytgohfbelppokcaa.X
