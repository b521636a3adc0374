/- The statement FnExactAppendFile of this seat, out of its pure statement and its walk. Under no condition. -/
import Derived.Test.YtfeoofbiimijcaaRows
import Derived.Test.YtfeoofbiimijcaaPFnExactAppendFilex3
import Derived.Test.YtfeoofbiimijcaaPureFnExactAppendFile
import Derived.Test.YtfeoofbiimijcaaOpen
import Derived.WalkKit
import Derived.ProofKit
import Derived.OpenShut
import Derived.ShutString
import Derived.ChangeOld
import Derived.Below
import Derived.SizedLaws
namespace Go.Proofs.Ytfeoofbiimijcaa.fnExactAppendFile
open Go.ChangeShapes Go.WideShapes Go.ChangeAt Go.RowKit Go.Proofs.Ytfeoofbiimijcaa.Open Go.Proofs.Ytfeoofbiimijcaa.PFnExactAppendFile Go.Proofs.YtfeoofbiimijcaaW.PrintWords
open Go.ChangeMaps (open_string shut_string)
set_option linter.unusedVariables false
theorem own : ownKnob Try.prog.godebug = none := by kernel_rfl
theorem laidOut : laidOutB Try.prog = true := by kernel_rfl
theorem opens_S32 : Opens Try.prog 32 k32 (fun x => (x.f0.length ≤ maxLen ∧ ∀ y0_ ∈ x.f0, (Lit.int .u8 y0_).wf = true)) := opens_struct Try.underlying32 (by kernel_rfl) (opensF_one rfl (opens_slice Try.underlying30 (by kernel_rfl) (opens_int Try.underlying5 (by kernel_rfl)))) (fun x : S32 => x.f0) (fun a => ⟨a⟩) (fun _ => rfl)
set_option maxRecDepth 100000 in
theorem lifted (os : Os) (started : os.Started) (H : Type) (enc : TypeId × Value → H) :
    ReturnsInHanded {} Try.checked os 11 .any (Rows.fnExactAppendFileSpec.pre6 enc Try.prog Try.f11 Rows.fnExactAppendFileRow.domain false) (Rows.fnExactAppendFileSpec.post enc Try.prog Try.f11 false true false false) := by
  refine returnsInHanded_of_change_sized (C := Try.checked) own started (by kernel_rfl) Try.func11
    (ChangeSpec.witness6 (enc := enc) (C := Try.checked) false ⟨#[], #[.agg #[.slice none 0 0], .slice none 0 0], []⟩ 8 (by kernel_rfl) (by kernel_rfl) (by kernel_rfl) (by kernel_rfl)) ?_
  intro W base args ds gs before hval0 hW hcnd hsz0 _
  have hval : ∀ (j : Nat) t v, Try.f11.params[j]? = some t → args[j]? = some v → Value.okWide Try.prog W .any base t v := hval0
  have hW' := hW
  obtain ⟨p, q, hA0, hV, rfl, hfz, hnd⟩ := hW
  have hA : DataW.TrodAll enc Try.prog W 0 (fun _ => true) true Try.f11.params.toList args.toList ds p := hA0
  rw [Try.params11] at hA hval
  obtain ⟨v0, vs0, d0, ds0, p0, q0, hargs, rfl, rfl, h0, r0⟩ := trodAll_cons hA
  obtain ⟨v1, vs1, d1, ds1, p1, q1, rfl, rfl, rfl, h1, r1⟩ := trodAll_cons r0
  obtain ⟨rfl, rfl, rfl⟩ := trodAll_nil r1
  obtain rfl : args = #[v0, v1] := by cases args; simp_all
  obtain ⟨rfl, rfl⟩ := trodVars_none hV
  have k0 := h0
  have lt0 : ∀ x ∈ p0, x.block < W.heap.size := by obtain ⟨m, hm⟩ := k0; exact DataW.trod_lt m _ _ _ hm
  obtain ⟨cs0, rfl, hsz0⟩ := okWide_struct Try.underlying32 (hval 0 32 v0 rfl rfl)
  obtain ⟨x0, hK0, ok0⟩ : ∃ x, Kd.K k32 W x cs0.toList ∧ (x.f0.length ≤ maxLen ∧ ∀ y0_ ∈ x.f0, (Lit.int .u8 y0_).wf = true) := by obtain ⟨fuel, hf⟩ := h0; exact opens_S32.out hf
  obtain ⟨A0_0, c0_0, hcs0, l0_0, g0_0⟩ := k32_open hK0
  obtain rfl : cs0 = #[.slice A0_0 x0.f0.length c0_0] := by rw [← Array.toArray_toList (xs := cs0), hcs0]
  have k1 := h1
  have lt1 : ∀ x ∈ p1, x.block < W.heap.size := by obtain ⟨m, hm⟩ := k1; exact DataW.trod_lt m _ _ _ hm
  obtain ⟨a1, len1, cap1, rfl⟩ := okWide_slice Try.underlying30 (hval 1 30 v1 rfl rfl)
  obtain ⟨x1, ⟨A1, c1, e1, l1_, g1⟩, ok1⟩ : ∃ xs, Kd.K (Kd.slice 5 (Kd.int .u8)) W xs [.slice a1 len1 cap1] ∧ (xs.length ≤ maxLen ∧ ∀ y0_ ∈ xs, (Lit.int .u8 y0_).wf = true) := by obtain ⟨fuel, hf⟩ := h1; exact (opens_slice Try.underlying30 (by kernel_rfl) (opens_int Try.underlying5 (by kernel_rfl))).out hf
  obtain ⟨rfl, rfl, rfl⟩ : a1 = A1 ∧ len1 = x1.length ∧ cap1 = c1 := by simpa using e1
  clear hA0 hval0 hsz0
  refine (PFnExactAppendFile.laws_FnExactAppendFile.walk Pure.FnExactAppendFile _ _ x0.f0 _ _ x1 W g0_0 l0_0 g1 l1_ ok0.1 ok0.2 ok1.1 ok1.2).mono fun e W' ⟨he, bel⟩ => ?_
  subst he
  exact ⟨_, rfl, _, _, _, [], _, [], hW', trodAll_mk1 (shut_bool Try.underlying4 _), (trodAll_cons_mk (Below.trod laidOut (by kernel_rfl) (of_decide_eq_true (by kernel_rfl)) k0 bel lt0) (trodAll_cons_mk (Below.trod laidOut (by kernel_rfl) (of_decide_eq_true (by kernel_rfl)) k1 bel lt1) trodAll_mk0)), rfl, bel.frame _, fun h => by cases h⟩
theorem over : Rows.fnExactAppendFileRow.holds Try.pinned (OpenSpec.ofChange Rows.fnExactAppendFileSpec) :=
  OpenClaim.holds_of_wide 11 Try.f11 rfl rfl rfl rfl rfl rfl rfl ⟨rfl, rfl, rfl, rfl, rfl⟩ rfl rfl rfl rfl rfl (by kernel_rfl) Try.func11 (by kernel_rfl)
    (of_decide_eq_true (by kernel_rfl)) (by unfold Func.isWrapper; first | (rw [if_pos (by decide +kernel)]; kernel_rfl) | (rw [if_neg (by decide +kernel)]; exact ⟨rfl, rfl⟩))
    (fun os started H enc _ => lifted os started H enc)
theorem proved : Rows.FnExactAppendFileSaid := over
#print axioms proved
end Go.Proofs.Ytfeoofbiimijcaa.fnExactAppendFile
namespace Go.Proofs.Ytfeoofbiimijcaa
/-- The row, under a short name, for the claim. -/
theorem fnExactAppendFile_holds : Rows.FnExactAppendFileSaid := fnExactAppendFile.proved
end Go.Proofs.Ytfeoofbiimijcaa
