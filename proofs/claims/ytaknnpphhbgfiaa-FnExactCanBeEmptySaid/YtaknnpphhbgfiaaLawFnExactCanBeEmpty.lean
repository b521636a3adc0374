/- The statement FnExactCanBeEmpty of this seat, out of its pure statement and its walk. Under no condition. -/
import Derived.Test.YtaknnpphhbgfiaaRows
import Derived.Test.YtaknnpphhbgfiaaPFnExactCanBeEmptyx9
import Derived.Test.YtaknnpphhbgfiaaPureFnExactCanBeEmpty
import Derived.Test.YtaknnpphhbgfiaaOpen
import Derived.WalkKit
import Derived.ProofKit
import Derived.OpenShut
import Derived.ShutString
import Derived.ChangeOld
import Derived.Below
import Derived.SizedLaws
namespace Go.Proofs.Ytaknnpphhbgfiaa.fnExactCanBeEmpty
open Go.ChangeShapes Go.WideShapes Go.ChangeAt Go.RowKit Go.Proofs.Ytaknnpphhbgfiaa.Open Go.Proofs.Ytaknnpphhbgfiaa.PFnExactCanBeEmpty Go.Proofs.YtaknnpphhbgfiaaW.PrintWords
open Go.ChangeMaps (open_string shut_string)
set_option linter.unusedVariables false
theorem own : ownKnob Try.prog.godebug = none := by kernel_rfl
theorem laidOut : laidOutB Try.prog = true := by kernel_rfl
theorem opens_S47 : Opens Try.prog 47 k47 (fun x => (Lit.int .i64 x.f0).wf = true ∧ (Lit.int .i64 x.f1).wf = true ∧ x.f2.size ≤ maxLen ∧ (Lit.int .i64 x.f3).wf = true ∧ (Lit.int .i64 x.f4).wf = true) := opens_struct Try.underlying47 (by kernel_rfl) (opensF_cons rfl (opens_int Try.underlying2 (by kernel_rfl)) rfl (opensF_cons rfl (opens_int Try.underlying2 (by kernel_rfl)) rfl (opensF_cons rfl (opens_string Try.underlying9 (by kernel_rfl)) rfl (opensF_cons rfl (opens_int Try.underlying2 (by kernel_rfl)) rfl (opensF_one rfl (opens_int Try.underlying2 (by kernel_rfl))))))) (fun x : S47 => (x.f0, x.f1, x.f2, x.f3, x.f4)) (fun a => ⟨a.1, a.2.1, a.2.2.1, a.2.2.2.1, a.2.2.2.2⟩) (fun _ => rfl)
set_option maxRecDepth 100000 in
theorem lifted (os : Os) (started : os.Started) (H : Type) (enc : TypeId × Value → H) :
    ReturnsInHanded {} Try.checked os 5 .any (Rows.fnExactCanBeEmptySpec.pre6 enc Try.prog Try.f5 Rows.fnExactCanBeEmptyRow.domain false) (Rows.fnExactCanBeEmptySpec.post enc Try.prog Try.f5 false true false false) := by
  refine returnsInHanded_of_change_sized (C := Try.checked) own started (by kernel_rfl) Try.func5
    (ChangeSpec.witness6 (enc := enc) (C := Try.checked) false ⟨#[], #[.slice none 0 0], []⟩ 8 (by kernel_rfl) (by kernel_rfl) (by kernel_rfl) (by kernel_rfl)) ?_
  intro W base args ds gs before hval0 hW hcnd hsz0 _
  have hval : ∀ (j : Nat) t v, Try.f5.params[j]? = some t → args[j]? = some v → Value.okWide Try.prog W .any base t v := hval0
  have hW' := hW
  obtain ⟨p, q, hA0, hV, rfl, hfz, hnd⟩ := hW
  have hA : DataW.TrodAll enc Try.prog W 0 (fun _ => true) true Try.f5.params.toList args.toList ds p := hA0
  rw [Try.params5] at hA hval
  obtain ⟨v0, vs0, d0, ds0, p0, q0, hargs, rfl, rfl, h0, r0⟩ := trodAll_cons hA
  obtain ⟨rfl, rfl, rfl⟩ := trodAll_nil r0
  obtain rfl : args = #[v0] := by cases args; simp_all
  obtain ⟨rfl, rfl⟩ := trodVars_none hV
  have k0 := h0
  have lt0 : ∀ x ∈ p0, x.block < W.heap.size := by obtain ⟨m, hm⟩ := k0; exact DataW.trod_lt m _ _ _ hm
  obtain ⟨a0, len0, cap0, rfl⟩ := okWide_slice Try.underlying22 (hval 0 22 v0 rfl rfl)
  obtain ⟨x0, ⟨A0, c0, e0, l0_, g0⟩, ok0⟩ : ∃ xs, Kd.K (Kd.slice 47 k47) W xs [.slice a0 len0 cap0] ∧ (xs.length ≤ maxLen ∧ ∀ y0_ ∈ xs, (Lit.int .i64 y0_.f0).wf = true ∧ (Lit.int .i64 y0_.f1).wf = true ∧ y0_.f2.size ≤ maxLen ∧ (Lit.int .i64 y0_.f3).wf = true ∧ (Lit.int .i64 y0_.f4).wf = true) := by obtain ⟨fuel, hf⟩ := h0; exact (opens_slice Try.underlying22 (by kernel_rfl) opens_S47).out hf
  obtain ⟨rfl, rfl, rfl⟩ : a0 = A0 ∧ len0 = x0.length ∧ cap0 = c0 := by simpa using e0
  clear hA0 hval0 hsz0
  refine (PFnExactCanBeEmpty.laws_FnExactCanBeEmpty.walk Pure.FnExactCanBeEmpty _ _ x0 W g0 l0_ ok0.1 ok0.2).mono fun e W' ⟨he, bel⟩ => ?_
  subst he
  exact ⟨_, rfl, _, _, _, [], _, [], hW', trodAll_mk1 (shut_bool Try.underlying4 _), (trodAll_cons_mk (Below.trod laidOut (by kernel_rfl) (of_decide_eq_true (by kernel_rfl)) k0 bel lt0) trodAll_mk0), rfl, bel.frame _, fun h => by cases h⟩
theorem over : Rows.fnExactCanBeEmptyRow.holds Try.pinned (OpenSpec.ofChange Rows.fnExactCanBeEmptySpec) :=
  OpenClaim.holds_of_wide 5 Try.f5 rfl rfl rfl rfl rfl rfl rfl ⟨rfl, rfl, rfl, rfl, rfl⟩ rfl rfl rfl rfl rfl (by kernel_rfl) Try.func5 (by kernel_rfl)
    (of_decide_eq_true (by kernel_rfl)) (by unfold Func.isWrapper; first | (rw [if_pos (by decide +kernel)]; kernel_rfl) | (rw [if_neg (by decide +kernel)]; exact ⟨rfl, rfl⟩))
    (fun os started H enc _ => lifted os started H enc)
theorem proved : Rows.FnExactCanBeEmptySaid := over
#print axioms proved
end Go.Proofs.Ytaknnpphhbgfiaa.fnExactCanBeEmpty
namespace Go.Proofs.Ytaknnpphhbgfiaa
/-- The row, under a short name, for the claim. -/
theorem fnExactCanBeEmpty_holds : Rows.FnExactCanBeEmptySaid := fnExactCanBeEmpty.proved
end Go.Proofs.Ytaknnpphhbgfiaa
