/- the program's FileFault tells what the reference's tells, for every file. Under no condition. -/
import Derived.Test.YtfeoofbiimijcaaPFnExactFileFaultx1
set_option linter.unusedVariables false
set_option linter.unusedSimpArgs false
namespace Go.Proofs.Ytfeoofbiimijcaa.Pure
open Go.RowKit Go.Proofs.Ytfeoofbiimijcaa.PFnExactFileFault Go.Proofs.YtfeoofbiimijcaaW.PrintWords Go.Proofs.YtfeoofbiimijcaaW.PrintLast

theorem w64 {x : Int} (h0 : -9223372036854775808 ≤ x) (h1 : x ≤ 9223372036854775807) : wrap64 x = x := by unfold wrap64; omega
theorem Ev_shift {α : Type} {g : Nat → Option α} {r : α} (h : Ev (fun k => g (k + 1)) r) : Ev g r := Ev.step (f := fun k => g (k + 1)) (fun _ => rfl) h
theorem Ev_pos {α : Type} {c : Prop} [Decidable c] (hc : c) {a b : Nat → Option α} {r : α} (h : Ev a r) : Ev (fun k => if c then a k else b k) r := by
  simpa only [if_pos hc] using h
theorem Ev_neg {α : Type} {c : Prop} [Decidable c] (hc : ¬ c) {a b : Nat → Option α} {r : α} (h : Ev b r) : Ev (fun k => if c then a k else b k) r := by
  simpa only [if_neg hc] using h
theorem Ev_pre {α β : Type} {g : Option α} {a : α} {f : Nat → α → Option β} {r : β} (h : g = some a) (k : Ev (fun n => f n a) r) : Ev (fun n => g.bind (f n)) r := by
  subst h; exact k
theorem Ev_eq {α : Type} {g : Option α} {r : α} (h : g = some r) : Ev (fun _ => g) r := by subst h; exact Ev.now r
theorem maxLen_le : maxLen ≤ 9223372036854775807 := by unfold maxLen; omega
theorem rd_nat (l : List Int) (i : Nat) (h : i < l.length) : rd l (i : Int) = l[i] := by simp [rd, h]
/-- A loop that fills a row with what it makes of another one's elements. -/
theorem fill_loop {α β : Type} (l : List α) (c : α → β) (G : Nat → List β → Int → Option (List β))
    (hend : ∀ x, Ev (fun k => G k x (l.length : Int)) x)
    (hstep : ∀ (i : Nat) (h : i < l.length) (x : List β) (r : List β), x.length = l.length → Ev (fun k => G k (x.set i (c l[i])) ((i : Int) + 1)) r → Ev (fun k => G k x (i : Int)) r)
    (x : List β) (hx : x.length = l.length) : Ev (fun k => G k x 0) (l.map c) := by
  have main : ∀ (d i : Nat) (x : List β), x.length = l.length → i + d = l.length → (∀ (j : Nat) (hj : j < i) (hl : j < l.length) (hx : j < x.length), x[j] = c l[j]) → Ev (fun k => G k x (i : Int)) (l.map c) := by
    intro d
    induction d with
    | zero =>
      intro i x hx hi hp
      obtain rfl : i = l.length := by omega
      have : x = l.map c := by
        apply List.ext_getElem (by simp [hx])
        intro j h1 h2
        rw [List.getElem_map]
        exact hp j (by omega) (by omega) h1
      rw [← this]
      exact hend x
    | succ d ih =>
      intro i x hx hi hp
      refine hstep i (by omega) x _ hx ?_
      have := ih (i + 1) (x.set i (c (l[i]'(by omega)))) (by simp [hx]) (by omega) (fun j hj hl hx' => by
        rw [List.getElem_set]
        split
        · rename_i e; subst e; rfl
        · exact hp j (by omega) hl (by simpa using hx'))
      simpa using this
  have := main l.length 0 x hx (by omega) (fun j hj => absurd hj (by omega))
  simpa using this
/-- A loop that goes through all places and finds nothing amiss. -/
theorem same_loop (n : Nat) (G : Nat → Int → Option Bool) (hend : Ev (fun k => G k (n : Int)) true)
    (hstep : ∀ i : Nat, i < n → Ev (fun k => G k ((i : Int) + 1)) true → Ev (fun k => G k (i : Int)) true) : Ev (fun k => G k 0) true := by
  have main : ∀ (d i : Nat), i + d = n → Ev (fun k => G k (i : Int)) true := by
    intro d
    induction d with
    | zero => intro i hi; obtain rfl : i = n := by omega
              exact hend
    | succ d ih =>
      intro i hi
      refine hstep i (by omega) ?_
      have := ih (i + 1) (by omega)
      simpa using this
  have := main n 0 (by omega)
  simpa using this

theorem toByteS_ev (l : List Int) (h : l.length ≤ 1048576) : Ev (fun k => laws_toByteS.f k l) l := by
  have main := fill_loop l (fun x => x) (fun k x i => laws_toByteS.l0 k l x i) (fun x => by
      refine Ev_shift ?_; simp only [laws_toByteS.l0]
      exact Ev_neg (by omega) (Ev.now _))
    (fun i hi x r hx hr => by
      refine Ev_shift ?_; simp only [laws_toByteS.l0]
      refine Ev_pos (by omega) (Ev_pos (by omega) (Ev_pos (by omega) ?_))
      rw [w64 (by omega) (by omega), rd_nat l i hi]
      simpa using hr)
    (List.replicate l.length 0) (by simp)
  simp only [laws_toByteS.f]
  refine Ev_pos (by omega) (Ev_pos (by omega) ?_)
  simpa using main
theorem eqByteS_ev (l : List Int) (h : l.length ≤ 9223372036854775807) : Ev (fun k => laws_eqByteS.f k l l) true := by
  simp only [laws_eqByteS.f]
  refine Ev_pos (by first | trivial | rfl | simp) ?_
  refine same_loop l.length (fun k i => laws_eqByteS.l0 k l l i) ?_ ?_
  · refine Ev_shift ?_; simp only [laws_eqByteS.l0]
    exact Ev_neg (by omega) (Ev.now _)
  · intro i hi hr
    refine Ev_shift ?_; simp only [laws_eqByteS.l0]
    refine Ev_pos (by omega) (Ev_pos (by omega) (Ev_pos (by omega) (Ev_pos (by first | trivial | rfl | simp) ?_)))
    rw [w64 (by omega) (by omega)]
    exact hr

theorem szByteS_f (l : List Int) (n : Int) (hl : l.length ≤ maxLen) (h0 : 0 ≤ n) (h1 : n ≤ 1048576) : (l.length ≤ n ∧ laws_szByteS.f l n = some (n - l.length)) ∨ laws_szByteS.f l n = some (-1) := by
  have := maxLen_le
  simp only [laws_szByteS.f, w64 (show -9223372036854775808 ≤ n - (l.length : Int) by omega) (by omega)]
  by_cases h : n - (l.length : Int) < 0
  · exact .inr (if_pos h)
  · exact .inl ⟨by omega, if_neg h⟩
theorem szFile_f (l : List Int) (n : Int) (hl : l.length ≤ maxLen) (h0 : 0 ≤ n) (h1 : n ≤ 1048576) : (l.length ≤ n ∧ laws_szFile.f l n = some (n - l.length)) ∨ laws_szFile.f l n = some (-1) := by
  simp only [laws_szFile.f]
  rcases szByteS_f l n hl h0 h1 with ⟨h, e⟩ | e
  · exact .inl ⟨h, by rw [e, Option.bind_some, if_neg (by omega)]⟩
  · exact .inr (by rw [e]; rfl)
theorem toFile_ev (l : List Int) (h : l.length ≤ 1048576) : Ev (fun k => laws_toFile.f k l) l := by
  simp only [laws_toFile.f]
  exact Ev.bind (toByteS_ev l h) (Ev.now _)
theorem eqFile_ev (l : List Int) (h : l.length ≤ 1048576) : Ev (fun k => laws_eqFile.f k l l) true := by
  simp only [laws_eqFile.f]
  exact Ev.bind (eqByteS_ev l (by omega)) (Ev_pos (by first | trivial | rfl | simp) (Ev.now _))

theorem FnExactFileFault : laws_FnExactFileFault.Pure := by
  intro l hl hw
  refine Ev.rounds ?_
  simp only [laws_FnExactFileFault.f]
  rcases szFile_f l 1048576 hl (by omega) (by omega) with ⟨h, e⟩ | e
  · refine Ev_pre e (Ev_neg (by omega) ?_)
    have hs : l.length ≤ 1048576 := by omega
    refine Ev.bind (toFile_ev l hs) (Ev_pre (a := if (l.length : Int) > 400 then 2 else 0) ?_ (Ev.bind (toFile_ev l hs) (Ev_pre (a := if (l.length : Int) > 400 then 2 else 0) ?_ (Ev_pos (by first | trivial | rfl | simp) (Ev.bind (toFile_ev l hs) (Ev.bind (eqFile_ev l hs) (Ev_pos (by first | trivial | rfl | simp) (Ev.now _))))))))
    · simp only [spec_FileFault.f, spec_l2Fault.f, rd_T35, List.length_singleton]
      by_cases h4 : (l.length : Int) > 400 <;> simp [h4]
    · simp only [impl_FileFault.f, impl_isLong.f]
      by_cases h4 : (l.length : Int) > 400 <;> simp [h4]
  · exact Ev_pre e (Ev_pos (by omega) (Ev.now _))

end Go.Proofs.Ytfeoofbiimijcaa.Pure
