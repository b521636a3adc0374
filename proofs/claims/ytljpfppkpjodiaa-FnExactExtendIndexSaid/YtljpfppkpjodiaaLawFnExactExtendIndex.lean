/- The statement FnExactExtendIndex of this seat, out of its pure statement and its walk. Under no condition. -/
import Derived.Test.YtljpfppkpjodiaaRows
import Derived.Test.YtljpfppkpjodiaaPFnExactExtendIndexx7
import Derived.Test.YtljpfppkpjodiaaPureFnExactExtendIndex
import Derived.Test.YtljpfppkpjodiaaOpen
import Derived.WalkKit
import Derived.ProofKit
import Derived.OpenShut
import Derived.ShutString
import Derived.ChangeOld
import Derived.Below
import Derived.SizedLaws
namespace Go.Proofs.Ytljpfppkpjodiaa.fnExactExtendIndex
open Go.ChangeShapes Go.WideShapes Go.ChangeAt Go.RowKit Go.Proofs.Ytljpfppkpjodiaa.Open Go.Proofs.Ytljpfppkpjodiaa.PFnExactExtendIndex Go.Proofs.YtljpfppkpjodiaaW.PrintWords
open Go.ChangeMaps (open_string shut_string)
set_option linter.unusedVariables false
theorem own : ownKnob Try.prog.godebug = none := by kernel_rfl
theorem laidOut : laidOutB Try.prog = true := by kernel_rfl
theorem opens_S24 : Opens Try.prog 24 k24 (fun x => (Lit.int .i64 x.f0).wf = true ∧ (x.f1.length ≤ maxLen ∧ ∀ y0_ ∈ x.f1, (Lit.int .i64 y0_).wf = true) ∧ (Lit.int .i64 x.f2).wf = true ∧ (Lit.int .i64 x.f3).wf = true) := opens_struct Try.underlying24 (by kernel_rfl) (opensF_cons rfl (opens_int Try.underlying2 (by kernel_rfl)) rfl (opensF_cons rfl (opens_slice Try.underlying22 (by kernel_rfl) (opens_int Try.underlying2 (by kernel_rfl))) rfl (opensF_cons rfl (opens_int Try.underlying2 (by kernel_rfl)) rfl (opensF_one rfl (opens_int Try.underlying2 (by kernel_rfl)))))) (fun x : S24 => (x.f0, x.f1, x.f2, x.f3)) (fun a => ⟨a.1, a.2.1, a.2.2.1, a.2.2.2⟩) (fun _ => rfl)
theorem opens_S42 : Opens Try.prog 42 k42 (fun x => (x.f0.length ≤ maxLen ∧ ∀ y0_ ∈ x.f0, (Lit.int .u8 y0_).wf = true)) := opens_struct Try.underlying42 (by kernel_rfl) (opensF_one rfl (opens_slice Try.underlying40 (by kernel_rfl) (opens_int Try.underlying5 (by kernel_rfl)))) (fun x : S42 => x.f0) (fun a => ⟨a⟩) (fun _ => rfl)
set_option maxRecDepth 100000 in
theorem lifted (os : Os) (started : os.Started) (H : Type) (enc : TypeId × Value → H) :
    ReturnsInHanded {} Try.checked os 7 .any (Rows.fnExactExtendIndexSpec.pre6 enc Try.prog Try.f7 Rows.fnExactExtendIndexRow.domain false) (Rows.fnExactExtendIndexSpec.post enc Try.prog Try.f7 false true false false) := by
  refine returnsInHanded_of_change_sized (C := Try.checked) own started (by kernel_rfl) Try.func7
    (ChangeSpec.witness6 (enc := enc) (C := Try.checked) false ⟨#[], #[.agg #[.int .i64 0, .slice none 0 0, .int .i64 0, .int .i64 0], .agg #[.slice none 0 0]], []⟩ 8 (by kernel_rfl) (by kernel_rfl) (by kernel_rfl) (by kernel_rfl)) ?_
  intro W base args ds gs before hval0 hW hcnd hsz0 _
  have hval : ∀ (j : Nat) t v, Try.f7.params[j]? = some t → args[j]? = some v → Value.okWide Try.prog W .any base t v := hval0
  have hW' := hW
  obtain ⟨p, q, hA0, hV, rfl, hfz, hnd⟩ := hW
  have hA : DataW.TrodAll enc Try.prog W 0 (fun _ => true) true Try.f7.params.toList args.toList ds p := hA0
  rw [Try.params7] at hA hval
  obtain ⟨v0, vs0, d0, ds0, p0, q0, hargs, rfl, rfl, h0, r0⟩ := trodAll_cons hA
  obtain ⟨v1, vs1, d1, ds1, p1, q1, rfl, rfl, rfl, h1, r1⟩ := trodAll_cons r0
  obtain ⟨rfl, rfl, rfl⟩ := trodAll_nil r1
  obtain rfl : args = #[v0, v1] := by cases args; simp_all
  obtain ⟨rfl, rfl⟩ := trodVars_none hV
  have k0 := h0
  have lt0 : ∀ x ∈ p0, x.block < W.heap.size := by obtain ⟨m, hm⟩ := k0; exact DataW.trod_lt m _ _ _ hm
  obtain ⟨cs0, rfl, hsz0⟩ := okWide_struct Try.underlying24 (hval 0 24 v0 rfl rfl)
  obtain ⟨x0, hK0, ok0⟩ : ∃ x, Kd.K k24 W x cs0.toList ∧ (Lit.int .i64 x.f0).wf = true ∧ (x.f1.length ≤ maxLen ∧ ∀ y0_ ∈ x.f1, (Lit.int .i64 y0_).wf = true) ∧ (Lit.int .i64 x.f2).wf = true ∧ (Lit.int .i64 x.f3).wf = true := by obtain ⟨fuel, hf⟩ := h0; exact opens_S24.out hf
  obtain ⟨A0_1, c0_1, hcs0, l0_1, g0_1⟩ := k24_open hK0
  obtain rfl : cs0 = #[.int .i64 x0.f0, .slice A0_1 x0.f1.length c0_1, .int .i64 x0.f2, .int .i64 x0.f3] := by rw [← Array.toArray_toList (xs := cs0), hcs0]
  have k1 := h1
  have lt1 : ∀ x ∈ p1, x.block < W.heap.size := by obtain ⟨m, hm⟩ := k1; exact DataW.trod_lt m _ _ _ hm
  obtain ⟨cs1, rfl, hsz1⟩ := okWide_struct Try.underlying42 (hval 1 42 v1 rfl rfl)
  obtain ⟨x1, hK1, ok1⟩ : ∃ x, Kd.K k42 W x cs1.toList ∧ (x.f0.length ≤ maxLen ∧ ∀ y0_ ∈ x.f0, (Lit.int .u8 y0_).wf = true) := by obtain ⟨fuel, hf⟩ := h1; exact opens_S42.out hf
  obtain ⟨A1_0, c1_0, hcs1, l1_0, g1_0⟩ := k42_open hK1
  obtain rfl : cs1 = #[.slice A1_0 x1.f0.length c1_0] := by rw [← Array.toArray_toList (xs := cs1), hcs1]
  clear hA0 hval0 hsz0
  refine (PFnExactExtendIndex.laws_FnExactExtendIndex.walk Pure.FnExactExtendIndex x0.f0 _ _ x0.f1 x0.f2 x0.f3 _ _ x1.f0 W g0_1 l0_1 g1_0 l1_0 ok0.1 ok0.2.1.1 ok0.2.1.2 ok0.2.2.1 ok0.2.2.2 ok1.1 ok1.2).mono fun e W' ⟨he, bel⟩ => ?_
  subst he
  exact ⟨_, rfl, _, _, _, [], _, [], hW', trodAll_mk1 (shut_bool Try.underlying4 _), (trodAll_cons_mk (Below.trod laidOut (by kernel_rfl) (of_decide_eq_true (by kernel_rfl)) k0 bel lt0) (trodAll_cons_mk (Below.trod laidOut (by kernel_rfl) (of_decide_eq_true (by kernel_rfl)) k1 bel lt1) trodAll_mk0)), rfl, bel.frame _, fun h => by cases h⟩
theorem over : Rows.fnExactExtendIndexRow.holds Try.pinned (OpenSpec.ofChange Rows.fnExactExtendIndexSpec) :=
  OpenClaim.holds_of_wide 7 Try.f7 rfl rfl rfl rfl rfl rfl rfl ⟨rfl, rfl, rfl, rfl, rfl⟩ rfl rfl rfl rfl rfl (by kernel_rfl) Try.func7 (by kernel_rfl)
    (of_decide_eq_true (by kernel_rfl)) (by unfold Func.isWrapper; first | (rw [if_pos (by decide +kernel)]; kernel_rfl) | (rw [if_neg (by decide +kernel)]; exact ⟨rfl, rfl⟩))
    (fun os started H enc _ => lifted os started H enc)
theorem proved : Rows.FnExactExtendIndexSaid := over
#print axioms proved
end Go.Proofs.Ytljpfppkpjodiaa.fnExactExtendIndex
namespace Go.Proofs.Ytljpfppkpjodiaa
/-- The row, under a short name, for the claim. -/
theorem fnExactExtendIndex_holds : Rows.FnExactExtendIndexSaid := fnExactExtendIndex.proved
end Go.Proofs.Ytljpfppkpjodiaa
