/- The statement FnFiles of this seat, out of its pure statement and its walk. Under no condition. -/
import Derived.Test.YtljpfppkpjodiaaRows
import Derived.Test.YtljpfppkpjodiaaPFnFilesx8
import Derived.Test.YtljpfppkpjodiaaPureFnFiles
import Derived.Test.YtljpfppkpjodiaaOpen
import Derived.WalkKit
import Derived.ProofKit
import Derived.OpenShut
import Derived.ShutString
import Derived.ChangeOld
import Derived.Below
import Derived.SizedLaws
namespace Go.Proofs.Ytljpfppkpjodiaa.fnFiles
open Go.ChangeShapes Go.WideShapes Go.ChangeAt Go.RowKit Go.Proofs.Ytljpfppkpjodiaa.Open Go.Proofs.Ytljpfppkpjodiaa.PFnFiles Go.Proofs.YtljpfppkpjodiaaW.PrintWords
open Go.ChangeMaps (open_string shut_string)
set_option linter.unusedVariables false
theorem own : ownKnob Try.prog.godebug = none := by kernel_rfl
theorem laidOut : laidOutB Try.prog = true := by kernel_rfl
set_option maxRecDepth 100000 in
theorem lifted (os : Os) (started : os.Started) (H : Type) (enc : TypeId × Value → H) :
    ReturnsInHanded {} Try.checked os 11 .any (Rows.fnFilesSpec.pre6 enc Try.prog Try.f11 Rows.fnFilesRow.domain false) (Rows.fnFilesSpec.post enc Try.prog Try.f11 false true false false) := by
  refine returnsInHanded_of_change_sized (C := Try.checked) own started (by kernel_rfl) Try.func11
    (ChangeSpec.witness6 (enc := enc) (C := Try.checked) false ⟨#[], #[.slice none 0 0], []⟩ 8 (by kernel_rfl) (by kernel_rfl) (by kernel_rfl) (by kernel_rfl)) ?_
  intro W base args ds gs before hval0 hW hcnd hsz0 _
  have hval : ∀ (j : Nat) t v, Try.f11.params[j]? = some t → args[j]? = some v → Value.okWide Try.prog W .any base t v := hval0
  have hW' := hW
  obtain ⟨p, q, hA0, hV, rfl, hfz, hnd⟩ := hW
  have hA : DataW.TrodAll enc Try.prog W 0 (fun _ => true) true Try.f11.params.toList args.toList ds p := hA0
  rw [Try.params11] at hA hval
  obtain ⟨v0, vs0, d0, ds0, p0, q0, hargs, rfl, rfl, h0, r0⟩ := trodAll_cons hA
  obtain ⟨rfl, rfl, rfl⟩ := trodAll_nil r0
  obtain rfl : args = #[v0] := by cases args; simp_all
  obtain ⟨rfl, rfl⟩ := trodVars_none hV
  have k0 := h0
  have lt0 : ∀ x ∈ p0, x.block < W.heap.size := by obtain ⟨m, hm⟩ := k0; exact DataW.trod_lt m _ _ _ hm
  obtain ⟨a0, len0, cap0, rfl⟩ := okWide_slice Try.underlying40 (hval 0 40 v0 rfl rfl)
  obtain ⟨x0, ⟨A0, c0, e0, l0_, g0⟩, ok0⟩ : ∃ xs, Kd.K (Kd.slice 5 (Kd.int .u8)) W xs [.slice a0 len0 cap0] ∧ (xs.length ≤ maxLen ∧ ∀ y0_ ∈ xs, (Lit.int .u8 y0_).wf = true) := by obtain ⟨fuel, hf⟩ := h0; exact (opens_slice Try.underlying40 (by kernel_rfl) (opens_int Try.underlying5 (by kernel_rfl))).out hf
  obtain ⟨rfl, rfl, rfl⟩ : a0 = A0 ∧ len0 = x0.length ∧ cap0 = c0 := by simpa using e0
  clear hA0 hval0 hsz0
  refine (PFnFiles.laws_FnFiles.walk Pure.FnFiles _ _ x0 W g0 l0_ ok0.1 ok0.2).mono fun e W' ⟨he, bel⟩ => ?_
  subst he
  exact ⟨_, rfl, _, _, _, [], _, [], hW', trodAll_mk1 (shut_bool Try.underlying4 _), (trodAll_cons_mk (Below.trod laidOut (by kernel_rfl) (of_decide_eq_true (by kernel_rfl)) k0 bel lt0) trodAll_mk0), rfl, bel.frame _, fun h => by cases h⟩
theorem over : Rows.fnFilesRow.holds Try.pinned (OpenSpec.ofChange Rows.fnFilesSpec) :=
  OpenClaim.holds_of_wide 11 Try.f11 rfl rfl rfl rfl rfl rfl rfl ⟨rfl, rfl, rfl, rfl, rfl⟩ rfl rfl rfl rfl rfl (by kernel_rfl) Try.func11 (by kernel_rfl)
    (of_decide_eq_true (by kernel_rfl)) (by unfold Func.isWrapper; first | (rw [if_pos (by decide +kernel)]; kernel_rfl) | (rw [if_neg (by decide +kernel)]; exact ⟨rfl, rfl⟩))
    (fun os started H enc _ => lifted os started H enc)
theorem proved : Rows.FnFilesSaid := over
#print axioms proved
end Go.Proofs.Ytljpfppkpjodiaa.fnFiles
namespace Go.Proofs.Ytljpfppkpjodiaa
/-- The row, under a short name, for the claim. -/
theorem fnFiles_holds : Rows.FnFilesSaid := fnFiles.proved
end Go.Proofs.Ytljpfppkpjodiaa
