/- The statement FnExactLinesIn of this seat, out of its pure statement and its walk. Under no condition. -/
import Derived.Test.YtfeoofbiimijcaaRows
import Derived.Test.YtfeoofbiimijcaaPFnExactLinesInx4
import Derived.Test.YtfeoofbiimijcaaPureFnExactLinesIn
import Derived.Test.YtfeoofbiimijcaaOpen
import Derived.WalkKit
import Derived.ProofKit
import Derived.OpenShut
import Derived.ShutString
import Derived.ChangeOld
import Derived.Below
import Derived.SizedLaws
namespace Go.Proofs.Ytfeoofbiimijcaa.fnExactLinesIn
open Go.ChangeShapes Go.WideShapes Go.ChangeAt Go.RowKit Go.Proofs.Ytfeoofbiimijcaa.Open Go.Proofs.Ytfeoofbiimijcaa.PFnExactLinesIn Go.Proofs.YtfeoofbiimijcaaW.PrintWords
open Go.ChangeMaps (open_string shut_string)
set_option linter.unusedVariables false
theorem own : ownKnob Try.prog.godebug = none := by kernel_rfl
theorem laidOut : laidOutB Try.prog = true := by kernel_rfl
theorem opens_S32 : Opens Try.prog 32 k32 (fun x => (x.f0.length ≤ maxLen ∧ ∀ y0_ ∈ x.f0, (Lit.int .u8 y0_).wf = true)) := opens_struct Try.underlying32 (by kernel_rfl) (opensF_one rfl (opens_slice Try.underlying30 (by kernel_rfl) (opens_int Try.underlying5 (by kernel_rfl)))) (fun x : S32 => x.f0) (fun a => ⟨a⟩) (fun _ => rfl)
set_option maxRecDepth 100000 in
theorem lifted (os : Os) (started : os.Started) (H : Type) (enc : TypeId × Value → H) :
    ReturnsInHanded {} Try.checked os 14 .any (Rows.fnExactLinesInSpec.pre6 enc Try.prog Try.f14 Rows.fnExactLinesInRow.domain false) (Rows.fnExactLinesInSpec.post enc Try.prog Try.f14 false true false false) := by
  refine returnsInHanded_of_change_sized (C := Try.checked) own started (by kernel_rfl) Try.func14
    (ChangeSpec.witness6 (enc := enc) (C := Try.checked) false ⟨#[], #[.agg #[.slice none 0 0]], []⟩ 8 (by kernel_rfl) (by kernel_rfl) (by kernel_rfl) (by kernel_rfl)) ?_
  intro W base args ds gs before hval0 hW hcnd hsz0 _
  have hval : ∀ (j : Nat) t v, Try.f14.params[j]? = some t → args[j]? = some v → Value.okWide Try.prog W .any base t v := hval0
  have hW' := hW
  obtain ⟨p, q, hA0, hV, rfl, hfz, hnd⟩ := hW
  have hA : DataW.TrodAll enc Try.prog W 0 (fun _ => true) true Try.f14.params.toList args.toList ds p := hA0
  rw [Try.params14] at hA hval
  obtain ⟨v0, vs0, d0, ds0, p0, q0, hargs, rfl, rfl, h0, r0⟩ := trodAll_cons hA
  obtain ⟨rfl, rfl, rfl⟩ := trodAll_nil r0
  obtain rfl : args = #[v0] := by cases args; simp_all
  obtain ⟨rfl, rfl⟩ := trodVars_none hV
  have k0 := h0
  have lt0 : ∀ x ∈ p0, x.block < W.heap.size := by obtain ⟨m, hm⟩ := k0; exact DataW.trod_lt m _ _ _ hm
  obtain ⟨cs0, rfl, hsz0⟩ := okWide_struct Try.underlying32 (hval 0 32 v0 rfl rfl)
  obtain ⟨x0, hK0, ok0⟩ : ∃ x, Kd.K k32 W x cs0.toList ∧ (x.f0.length ≤ maxLen ∧ ∀ y0_ ∈ x.f0, (Lit.int .u8 y0_).wf = true) := by obtain ⟨fuel, hf⟩ := h0; exact opens_S32.out hf
  obtain ⟨A0_0, c0_0, hcs0, l0_0, g0_0⟩ := k32_open hK0
  obtain rfl : cs0 = #[.slice A0_0 x0.f0.length c0_0] := by rw [← Array.toArray_toList (xs := cs0), hcs0]
  clear hA0 hval0 hsz0
  refine (PFnExactLinesIn.laws_FnExactLinesIn.walk Pure.FnExactLinesIn _ _ x0.f0 W g0_0 l0_0 ok0.1 ok0.2).mono fun e W' ⟨he, bel⟩ => ?_
  subst he
  exact ⟨_, rfl, _, _, _, [], _, [], hW', trodAll_mk1 (shut_bool Try.underlying4 _), (trodAll_cons_mk (Below.trod laidOut (by kernel_rfl) (of_decide_eq_true (by kernel_rfl)) k0 bel lt0) trodAll_mk0), rfl, bel.frame _, fun h => by cases h⟩
theorem over : Rows.fnExactLinesInRow.holds Try.pinned (OpenSpec.ofChange Rows.fnExactLinesInSpec) :=
  OpenClaim.holds_of_wide 14 Try.f14 rfl rfl rfl rfl rfl rfl rfl ⟨rfl, rfl, rfl, rfl, rfl⟩ rfl rfl rfl rfl rfl (by kernel_rfl) Try.func14 (by kernel_rfl)
    (of_decide_eq_true (by kernel_rfl)) (by unfold Func.isWrapper; first | (rw [if_pos (by decide +kernel)]; kernel_rfl) | (rw [if_neg (by decide +kernel)]; exact ⟨rfl, rfl⟩))
    (fun os started H enc _ => lifted os started H enc)
theorem proved : Rows.FnExactLinesInSaid := over
#print axioms proved
end Go.Proofs.Ytfeoofbiimijcaa.fnExactLinesIn
namespace Go.Proofs.Ytfeoofbiimijcaa
/-- The row, under a short name, for the claim. -/
theorem fnExactLinesIn_holds : Rows.FnExactLinesInSaid := fnExactLinesIn.proved
end Go.Proofs.Ytfeoofbiimijcaa
