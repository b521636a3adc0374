/- the program's NewIndex tells what the reference's tells, for all numbers. Under no condition. -/
import Derived.Test.YtljpfppkpjodiaaPFnExactNewIndexx2
set_option linter.unusedVariables false
set_option linter.unusedSimpArgs false
namespace Go.Proofs.Ytljpfppkpjodiaa.Pure
open Go.RowKit Go.Proofs.Ytljpfppkpjodiaa.PFnExactNewIndex Go.Proofs.YtljpfppkpjodiaaW.PrintWords Go.Proofs.YtljpfppkpjodiaaW.PrintLast

theorem w64 {x : Int} (h0 : -9223372036854775808 ≤ x) (h1 : x ≤ 9223372036854775807) : wrap64 x = x := by unfold wrap64; omega
theorem Ev_shift {α : Type} {g : Nat → Option α} {r : α} (h : Ev (fun k => g (k + 1)) r) : Ev g r := Ev.step (f := fun k => g (k + 1)) (fun _ => rfl) h
theorem Ev_pos {α : Type} {c : Prop} [Decidable c] (hc : c) {a b : Nat → Option α} {r : α} (h : Ev a r) : Ev (fun k => if c then a k else b k) r := by
  simpa only [if_pos hc] using h
theorem Ev_neg {α : Type} {c : Prop} [Decidable c] (hc : ¬ c) {a b : Nat → Option α} {r : α} (h : Ev b r) : Ev (fun k => if c then a k else b k) r := by
  simpa only [if_neg hc] using h
theorem Ev_pre {α β : Type} {g : Option α} {a : α} {f : Nat → α → Option β} {r : β} (h : g = some a) (k : Ev (fun n => f n a) r) : Ev (fun n => g.bind (f n)) r := by
  subst h; exact k
theorem Ev_eq {α : Type} {g : Option α} {r : α} (h : g = some r) : Ev (fun _ => g) r := by subst h; exact Ev.now r
theorem Ev_r {α : Type} {g : Nat → Option α} {r r' : α} (e : r = r') (h : Ev g r') : Ev g r := e ▸ h
theorem maxLen_le : maxLen ≤ 9223372036854775807 := by unfold maxLen; omega
theorem rd_nat (l : List Int) (i : Nat) (h : i < l.length) : rd l (i : Int) = l[i] := by simp [rd, h]
/-- A loop that fills a row with what it makes of another one's elements. -/
theorem fill_loop {α β : Type} (l : List α) (c : α → β) (G : Nat → List β → Int → Option (List β))
    (hend : ∀ x, Ev (fun k => G k x (l.length : Int)) x)
    (hstep : ∀ (i : Nat) (h : i < l.length) (x : List β) (r : List β), x.length = l.length → Ev (fun k => G k (x.set i (c l[i])) ((i : Int) + 1)) r → Ev (fun k => G k x (i : Int)) r)
    (x : List β) (hx : x.length = l.length) : Ev (fun k => G k x 0) (l.map c) := by
  have main : ∀ (d i : Nat) (x : List β), x.length = l.length → i + d = l.length → (∀ (j : Nat) (hj : j < i) (hl : j < l.length) (hx : j < x.length), x[j] = c l[j]) → Ev (fun k => G k x (i : Int)) (l.map c) := by
    intro d
    induction d with
    | zero =>
      intro i x hx hi hp
      obtain rfl : i = l.length := by omega
      have : x = l.map c := by
        apply List.ext_getElem (by simp [hx])
        intro j h1 h2
        rw [List.getElem_map]
        exact hp j (by omega) (by omega) h1
      rw [← this]
      exact hend x
    | succ d ih =>
      intro i x hx hi hp
      refine hstep i (by omega) x _ hx ?_
      have := ih (i + 1) (x.set i (c (l[i]'(by omega)))) (by simp [hx]) (by omega) (fun j hj hl hx' => by
        rw [List.getElem_set]
        split
        · rename_i e; subst e; rfl
        · exact hp j (by omega) hl (by simpa using hx'))
      simpa using this
  have := main l.length 0 x hx (by omega) (fun j hj => absurd hj (by omega))
  simpa using this
/-- A loop that goes through all places and finds nothing amiss. -/
theorem same_loop (n : Nat) (G : Nat → Int → Option Bool) (hend : Ev (fun k => G k (n : Int)) true)
    (hstep : ∀ i : Nat, i < n → Ev (fun k => G k ((i : Int) + 1)) true → Ev (fun k => G k (i : Int)) true) : Ev (fun k => G k 0) true := by
  have main : ∀ (d i : Nat), i + d = n → Ev (fun k => G k (i : Int)) true := by
    intro d
    induction d with
    | zero => intro i hi; obtain rfl : i = n := by omega
              exact hend
    | succ d ih =>
      intro i hi
      refine hstep i (by omega) ?_
      have := ih (i + 1) (by omega)
      simpa using this
  have := main n 0 (by omega)
  simpa using this

theorem f_dec_eq {p q : Prop} [Decidable p] [Decidable q] (h : p ↔ q) : decide p = decide q := decide_eq_decide.mpr h
theorem f_in (a b c : Int) : spec_l1In.f a b c = some (decide (b ≤ a ∧ a ≤ c)) := by
  simp only [spec_l1In.f]
  by_cases h : a ≥ b
  · rw [if_pos h]; exact congrArg some (f_dec_eq (by omega))
  · rw [if_neg h]; exact congrArg some (decide_eq_false (by omega)).symm
theorem f_within (a b c : Int) : impl_within.f a b c = some (decide (b ≤ a ∧ a ≤ c)) := by
  simp only [impl_within.f]
  by_cases h : b ≤ a
  · rw [if_pos h]; exact congrArg some (f_dec_eq (by omega))
  · rw [if_neg h]; exact congrArg some (decide_eq_false (by omega)).symm

theorem eqNil : Ev (fun k => laws_eqInt64S.f k [] []) true := by
  simp only [laws_eqInt64S.f]
  refine Ev_pos (by first | trivial | rfl | simp) (Ev_shift ?_); simp only [laws_eqInt64S.l0]
  exact Ev_neg (by simp) (Ev.now _)
theorem markNil : Ev (fun k => laws_markInt64S.f k [] 1) (1, []) := by
  simp only [laws_markInt64S.f]
  refine Ev_shift ?_; simp only [laws_markInt64S.l0]
  exact Ev_neg (by simp) (Ev.now _)
theorem heldNil : Ev (fun k => laws_heldInt64S.f k [] 1) 1 := by
  simp only [laws_heldInt64S.f]
  refine Ev_shift ?_; simp only [laws_heldInt64S.l0]
  exact Ev_neg (by simp) (Ev.now _)
theorem eqRes (a b : Int) : Ev (fun k => laws_eqIndexResult.f k a 0 b [] 0 0 a 0 b [] 0 0) true := by
  simp only [laws_eqIndexResult.f, laws_eqIndex.f]
  have h := eqNil
  refine Ev_pos (by first | trivial | rfl | simp) (Ev_pos (by first | trivial | rfl | simp) ?_)
  refine Ev.bind (r := true) ?_ (Ev_pos (by first | trivial | rfl | simp) (Ev.now _))
  refine Ev_pos (by first | trivial | rfl | simp) ?_
  refine Ev.bind h ?_
  exact Ev_pos (by first | trivial | rfl | simp) (Ev_pos (by first | trivial | rfl | simp) (Ev_pos (by first | trivial | rfl | simp) (Ev.now _)))
theorem markRes (a b : Int) : Ev (fun k => laws_markIndexResult.f k a 0 b [] 0 0 1) (1, []) := by
  simp only [laws_markIndexResult.f, laws_markIndex.f]
  exact Ev.bind (Ev.bind markNil (Ev.now _)) (Ev.now _)
theorem heldRes (a b : Int) : Ev (fun k => laws_heldIndexResult.f k a 0 b [] 0 0 1) 1 := by
  simp only [laws_heldIndexResult.f, laws_heldIndex.f]
  exact Ev.bind (Ev.bind heldNil (Ev_neg (by omega) (Ev.now _))) (Ev_neg (by omega) (Ev.now _))
theorem fault_bad (a : Int) : Ev (fun k => impl_IndexFault.j0 k true a [] 0 0) 3 := by
  refine Ev_shift ?_; simp only [impl_IndexFault.j0]
  exact Ev_pos (by first | trivial | rfl | simp) (Ev.now _)
theorem fault_ev (a : Int) : Ev (fun k => impl_IndexFault.f k a [] 0 0) (if 1 ≤ a ∧ a ≤ 9 then 0 else 3) := by
  simp only [impl_IndexFault.f, f_within]
  refine Ev.bind (Ev_eq rfl) ?_
  by_cases h : 1 ≤ a ∧ a ≤ 9
  · refine Ev_r (if_pos h) (Ev_pos (decide_eq_true h) (Ev.bind (Ev_eq rfl) (Ev_pos (by first | trivial | rfl | simp) (Ev.bind (Ev_eq rfl) ?_))))
    refine Ev_shift ?_; simp only [impl_IndexFault.j0]
    refine Ev_neg (by simp) (Ev_neg (by omega) (Ev_pos (by rw [Int.zero_tdiv, w64 (by omega) (by omega)]; rfl) (Ev_shift ?_)))
    simp only [impl_IndexFault.l0]
    exact Ev_neg (by simp) (Ev.now _)
  · refine Ev_r (if_neg h) (Ev_neg (by simpa using h) (fault_bad a))
def newR (a : Int) : Int × Int × Int × List Int × Int × Int := if 1 ≤ a ∧ a ≤ 9 then (0, 0, a, [], 0, 0) else (3, 0, 0, [], 0, 0)
theorem spec_NewIndex_f (a : Int) : spec_NewIndex.f a = some (newR a) := by
  simp only [spec_NewIndex.f, f_in, spec_l4Bad.f, Option.bind_some, decide_eq_true_eq, newR]
  split <;> rfl
theorem impl_NewIndex_ev (a : Int) : Ev (fun k => impl_NewIndex.f k a) (newR a) := by
  simp only [impl_NewIndex.f]
  refine Ev.bind (fault_ev a) ?_
  unfold newR
  by_cases h : 1 ≤ a ∧ a ≤ 9
  · rw [if_pos h, if_pos h]; exact Ev_pos (by first | trivial | rfl | simp) (Ev.now _)
  · rw [if_neg h, if_neg h]; exact Ev_neg (by omega) (Ev.now _)
theorem FnExactNewIndex : laws_FnExactNewIndex.Pure := by
  intro a _
  refine Ev.rounds ?_
  simp only [laws_FnExactNewIndex.f]
  obtain ⟨e, b, hr⟩ : ∃ e b, newR a = (e, 0, b, [], 0, 0) := by unfold newR; split <;> exact ⟨_, _, rfl⟩
  have h1 := Ev_eq (spec_NewIndex_f a)
  have h2 := impl_NewIndex_ev a
  rw [hr] at h1 h2
  have h3 := eqRes e b
  have h4 := markRes e b
  have h5 := heldRes e b
  refine Ev.bind h1 ?_
  refine Ev.bind h2 ?_
  refine Ev.bind h3 (Ev_pos (by first | trivial | rfl | simp) ?_)
  refine Ev.bind h4 ?_
  refine Ev.bind h5 (Ev_neg (by omega) (Ev_pos (by first | trivial | rfl | simp) ?_))
  refine Ev.bind h2 ?_
  refine Ev.bind h3 (Ev_pos (by first | trivial | rfl | simp) ?_)
  exact Ev.bind h5 (Ev_neg (by omega) (Ev_pos (by first | trivial | rfl | simp) (Ev.now _)))

end Go.Proofs.Ytljpfppkpjodiaa.Pure
