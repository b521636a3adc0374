/- The statement FnExactReadRange of this seat, out of its pure statement and its walk. Under no condition. -/
import Derived.Test.YtkocconggohdgaaRows
import Derived.Test.YtkocconggohdgaaPFnExactReadRangex16
import Derived.Test.YtkocconggohdgaaPureFnExactReadRange
import Derived.Test.YtkocconggohdgaaOpen
import Derived.WalkKit
import Derived.ProofKit
import Derived.OpenShut
import Derived.ShutString
import Derived.ChangeOld
import Derived.Below
import Derived.SizedLaws
namespace Go.Proofs.Ytkocconggohdgaa.fnExactReadRange
open Go.ChangeShapes Go.WideShapes Go.ChangeAt Go.RowKit Go.Proofs.Ytkocconggohdgaa.Open Go.Proofs.Ytkocconggohdgaa.PFnExactReadRange Go.Proofs.YtkocconggohdgaaW.PrintWords
open Go.ChangeMaps (open_string shut_string)
set_option linter.unusedVariables false
theorem own : ownKnob Try.prog.godebug = none := by kernel_rfl
theorem laidOut : laidOutB Try.prog = true := by kernel_rfl
theorem opens_S108 : Opens Try.prog 108 k108 (fun x => (Lit.int .i64 x.f0).wf = true ∧ (x.f1.length ≤ maxLen ∧ ∀ y0_ ∈ x.f1, (Lit.int .u8 y0_).wf = true)) := opens_struct Try.underlying108 (by kernel_rfl) (opensF_cons rfl (opens_int Try.underlying2 (by kernel_rfl)) rfl (opensF_one rfl (opens_slice Try.underlying22 (by kernel_rfl) (opens_int Try.underlying5 (by kernel_rfl))))) (fun x : S108 => (x.f0, x.f1)) (fun a => ⟨a.1, a.2⟩) (fun _ => rfl)
theorem opens_S34 : Opens Try.prog 34 k34 (fun x => (Lit.int .i64 x.f0).wf = true ∧ (Lit.int .i64 x.f1).wf = true ∧ (x.f2.length ≤ maxLen ∧ ∀ y0_ ∈ x.f2, (Lit.int .i64 y0_.f0).wf = true ∧ (y0_.f1.length ≤ maxLen ∧ ∀ y1_ ∈ y0_.f1, (Lit.int .u8 y1_).wf = true))) := opens_struct Try.underlying34 (by kernel_rfl) (opensF_cons rfl (opens_int Try.underlying2 (by kernel_rfl)) rfl (opensF_cons rfl (opens_int Try.underlying2 (by kernel_rfl)) rfl (opensF_one rfl (opens_slice Try.underlying32 (by kernel_rfl) opens_S108)))) (fun x : S34 => (x.f0, x.f1, x.f2)) (fun a => ⟨a.1, a.2.1, a.2.2⟩) (fun _ => rfl)
theorem opens_S41 : Opens Try.prog 41 k41 (fun x => (x.f0.length ≤ maxLen ∧ ∀ y0_ ∈ x.f0, (Lit.int .u8 y0_).wf = true)) := opens_struct Try.underlying41 (by kernel_rfl) (opensF_one rfl (opens_slice Try.underlying22 (by kernel_rfl) (opens_int Try.underlying5 (by kernel_rfl)))) (fun x : S41 => x.f0) (fun a => ⟨a⟩) (fun _ => rfl)
set_option maxRecDepth 100000 in
theorem lifted (os : Os) (started : os.Started) (H : Type) (enc : TypeId × Value → H) :
    ReturnsInHanded {} Try.checked os 8 .any (Rows.fnExactReadRangeSpec.pre6 enc Try.prog Try.f8 Rows.fnExactReadRangeRow.domain false) (Rows.fnExactReadRangeSpec.post enc Try.prog Try.f8 false true false false) := by
  refine returnsInHanded_of_change_sized (C := Try.checked) own started (by kernel_rfl) Try.func8
    (ChangeSpec.witness6 (enc := enc) (C := Try.checked) false ⟨#[], #[.agg #[.int .i64 0, .int .i64 0, .slice none 0 0], .agg #[.slice none 0 0], .int .i64 0, .int .i64 0, .int .i64 0], []⟩ 8 (by kernel_rfl) (by kernel_rfl) (by kernel_rfl) (by kernel_rfl)) ?_
  intro W base args ds gs before hval0 hW hcnd hsz0 _
  have hval : ∀ (j : Nat) t v, Try.f8.params[j]? = some t → args[j]? = some v → Value.okWide Try.prog W .any base t v := hval0
  have hW' := hW
  obtain ⟨p, q, hA0, hV, rfl, hfz, hnd⟩ := hW
  have hA : DataW.TrodAll enc Try.prog W 0 (fun _ => true) true Try.f8.params.toList args.toList ds p := hA0
  rw [Try.params8] at hA hval
  obtain ⟨v0, vs0, d0, ds0, p0, q0, hargs, rfl, rfl, h0, r0⟩ := trodAll_cons hA
  obtain ⟨v1, vs1, d1, ds1, p1, q1, rfl, rfl, rfl, h1, r1⟩ := trodAll_cons r0
  obtain ⟨v2, vs2, d2, ds2, p2, q2, rfl, rfl, rfl, h2, r2⟩ := trodAll_cons r1
  obtain ⟨v3, vs3, d3, ds3, p3, q3, rfl, rfl, rfl, h3, r3⟩ := trodAll_cons r2
  obtain ⟨v4, vs4, d4, ds4, p4, q4, rfl, rfl, rfl, h4, r4⟩ := trodAll_cons r3
  obtain ⟨rfl, rfl, rfl⟩ := trodAll_nil r4
  obtain rfl : args = #[v0, v1, v2, v3, v4] := by cases args; simp_all
  obtain ⟨rfl, rfl⟩ := trodVars_none hV
  have k0 := h0
  have lt0 : ∀ x ∈ p0, x.block < W.heap.size := by obtain ⟨m, hm⟩ := k0; exact DataW.trod_lt m _ _ _ hm
  obtain ⟨cs0, rfl, hsz0⟩ := okWide_struct Try.underlying34 (hval 0 34 v0 rfl rfl)
  obtain ⟨x0, hK0, ok0⟩ : ∃ x, Kd.K k34 W x cs0.toList ∧ (Lit.int .i64 x.f0).wf = true ∧ (Lit.int .i64 x.f1).wf = true ∧ (x.f2.length ≤ maxLen ∧ ∀ y0_ ∈ x.f2, (Lit.int .i64 y0_.f0).wf = true ∧ (y0_.f1.length ≤ maxLen ∧ ∀ y1_ ∈ y0_.f1, (Lit.int .u8 y1_).wf = true)) := by obtain ⟨fuel, hf⟩ := h0; exact opens_S34.out hf
  obtain ⟨A0_2, c0_2, hcs0, l0_2, g0_2⟩ := k34_open hK0
  obtain rfl : cs0 = #[.int .i64 x0.f0, .int .i64 x0.f1, .slice A0_2 x0.f2.length c0_2] := by rw [← Array.toArray_toList (xs := cs0), hcs0]
  have k1 := h1
  have lt1 : ∀ x ∈ p1, x.block < W.heap.size := by obtain ⟨m, hm⟩ := k1; exact DataW.trod_lt m _ _ _ hm
  obtain ⟨cs1, rfl, hsz1⟩ := okWide_struct Try.underlying41 (hval 1 41 v1 rfl rfl)
  obtain ⟨x1, hK1, ok1⟩ : ∃ x, Kd.K k41 W x cs1.toList ∧ (x.f0.length ≤ maxLen ∧ ∀ y0_ ∈ x.f0, (Lit.int .u8 y0_).wf = true) := by obtain ⟨fuel, hf⟩ := h1; exact opens_S41.out hf
  obtain ⟨A1_0, c1_0, hcs1, l1_0, g1_0⟩ := k41_open hK1
  obtain rfl : cs1 = #[.slice A1_0 x1.f0.length c1_0] := by rw [← Array.toArray_toList (xs := cs1), hcs1]
  obtain ⟨a2, rfl, rfl, rfl, w2⟩ := open_int Try.underlying2 (hval 2 2 v2 rfl rfl) h2
  obtain ⟨a3, rfl, rfl, rfl, w3⟩ := open_int Try.underlying2 (hval 3 2 v3 rfl rfl) h3
  obtain ⟨a4, rfl, rfl, rfl, w4⟩ := open_int Try.underlying2 (hval 4 2 v4 rfl rfl) h4
  clear hA0 hval0 hsz0
  refine (PFnExactReadRange.laws_FnExactReadRange.walk Pure.FnExactReadRange x0.f0 x0.f1 _ _ x0.f2 _ _ x1.f0 a2 a3 a4 W g0_2 l0_2 g1_0 l1_0 ok0.1 ok0.2.1 ok0.2.2.1 ok0.2.2.2 ok1.1 ok1.2 w2 w3 w4).mono fun e W' ⟨he, bel⟩ => ?_
  subst he
  exact ⟨_, rfl, _, _, _, [], _, [], hW', trodAll_mk1 (shut_bool Try.underlying4 _), (trodAll_cons_mk (Below.trod laidOut (by kernel_rfl) (of_decide_eq_true (by kernel_rfl)) k0 bel lt0) (trodAll_cons_mk (Below.trod laidOut (by kernel_rfl) (of_decide_eq_true (by kernel_rfl)) k1 bel lt1) (trodAll_cons_mk (shut_int Try.underlying2 w2) (trodAll_cons_mk (shut_int Try.underlying2 w3) (trodAll_cons_mk (shut_int Try.underlying2 w4) trodAll_mk0))))), rfl, bel.frame _, fun h => by cases h⟩
theorem over : Rows.fnExactReadRangeRow.holds Try.pinned (OpenSpec.ofChange Rows.fnExactReadRangeSpec) :=
  OpenClaim.holds_of_wide 8 Try.f8 rfl rfl rfl rfl rfl rfl rfl ⟨rfl, rfl, rfl, rfl, rfl⟩ rfl rfl rfl rfl rfl (by kernel_rfl) Try.func8 (by kernel_rfl)
    (of_decide_eq_true (by kernel_rfl)) (by unfold Func.isWrapper; first | (rw [if_pos (by decide +kernel)]; kernel_rfl) | (rw [if_neg (by decide +kernel)]; exact ⟨rfl, rfl⟩))
    (fun os started H enc _ => lifted os started H enc)
theorem proved : Rows.FnExactReadRangeSaid := over
#print axioms proved
end Go.Proofs.Ytkocconggohdgaa.fnExactReadRange
namespace Go.Proofs.Ytkocconggohdgaa
/-- The row, under a short name, for the claim. -/
theorem fnExactReadRange_holds : Rows.FnExactReadRangeSaid := fnExactReadRange.proved
end Go.Proofs.Ytkocconggohdgaa
