/- the program's SameNodes tells what the reference's tells, for all nodes. Under no condition. -/
import Derived.Test.YtaknnpphhbgfiaaPFnExactSameNodesx3
set_option linter.unusedVariables false
set_option linter.unusedSimpArgs false
namespace Go.Proofs.Ytaknnpphhbgfiaa.Pure
open Go.RowKit Go.Proofs.Ytaknnpphhbgfiaa.PFnExactSameNodes Go.Proofs.YtaknnpphhbgfiaaW.PrintWords Go.Proofs.YtaknnpphhbgfiaaW.PrintLast

theorem w64 {x : Int} (h0 : -9223372036854775808 ≤ x) (h1 : x ≤ 9223372036854775807) : wrap64 x = x := by unfold wrap64; omega
theorem Ev_shift {α : Type} {g : Nat → Option α} {r : α} (h : Ev (fun k => g (k + 1)) r) : Ev g r := Ev.step (f := fun k => g (k + 1)) (fun _ => rfl) h
theorem Ev_pos {α : Type} {c : Prop} [Decidable c] (hc : c) {a b : Nat → Option α} {r : α} (h : Ev a r) : Ev (fun k => if c then a k else b k) r := by
  simpa only [if_pos hc] using h
theorem Ev_neg {α : Type} {c : Prop} [Decidable c] (hc : ¬ c) {a b : Nat → Option α} {r : α} (h : Ev b r) : Ev (fun k => if c then a k else b k) r := by
  simpa only [if_neg hc] using h
theorem Ev_pre {α β : Type} {g : Option α} {a : α} {f : Nat → α → Option β} {r : β} (h : g = some a) (k : Ev (fun n => f n a) r) : Ev (fun n => g.bind (f n)) r := by
  subst h; exact k
theorem Ev_eq {α : Type} {g : Option α} {r : α} (h : g = some r) : Ev (fun _ => g) r := by subst h; exact Ev.now r
theorem Ev_r {α : Type} {g : Nat → Option α} {r r' : α} (e : r = r') (h : Ev g r') : Ev g r := e ▸ h
theorem maxLen_le : maxLen ≤ 9223372036854775807 := by unfold maxLen; omega
theorem rd_nat (l : List Int) (i : Nat) (h : i < l.length) : rd l (i : Int) = l[i] := by simp [rd, h]
/-- A loop that fills a row with what it makes of another one's elements. -/
theorem fill_loop {α β : Type} (l : List α) (c : α → β) (G : Nat → List β → Int → Option (List β))
    (hend : ∀ x, Ev (fun k => G k x (l.length : Int)) x)
    (hstep : ∀ (i : Nat) (h : i < l.length) (x : List β) (r : List β), x.length = l.length → Ev (fun k => G k (x.set i (c l[i])) ((i : Int) + 1)) r → Ev (fun k => G k x (i : Int)) r)
    (x : List β) (hx : x.length = l.length) : Ev (fun k => G k x 0) (l.map c) := by
  have main : ∀ (d i : Nat) (x : List β), x.length = l.length → i + d = l.length → (∀ (j : Nat) (hj : j < i) (hl : j < l.length) (hx : j < x.length), x[j] = c l[j]) → Ev (fun k => G k x (i : Int)) (l.map c) := by
    intro d
    induction d with
    | zero =>
      intro i x hx hi hp
      obtain rfl : i = l.length := by omega
      have : x = l.map c := by
        apply List.ext_getElem (by simp [hx])
        intro j h1 h2
        rw [List.getElem_map]
        exact hp j (by omega) (by omega) h1
      rw [← this]
      exact hend x
    | succ d ih =>
      intro i x hx hi hp
      refine hstep i (by omega) x _ hx ?_
      have := ih (i + 1) (x.set i (c (l[i]'(by omega)))) (by simp [hx]) (by omega) (fun j hj hl hx' => by
        rw [List.getElem_set]
        split
        · rename_i e; subst e; rfl
        · exact hp j (by omega) hl (by simpa using hx'))
      simpa using this
  have := main l.length 0 x hx (by omega) (fun j hj => absurd hj (by omega))
  simpa using this
/-- A loop that goes through all places and finds nothing amiss. -/
theorem same_loop (n : Nat) (G : Nat → Int → Option Bool) (hend : Ev (fun k => G k (n : Int)) true)
    (hstep : ∀ i : Nat, i < n → Ev (fun k => G k ((i : Int) + 1)) true → Ev (fun k => G k (i : Int)) true) : Ev (fun k => G k 0) true := by
  have main : ∀ (d i : Nat), i + d = n → Ev (fun k => G k (i : Int)) true := by
    intro d
    induction d with
    | zero => intro i hi; obtain rfl : i = n := by omega
              exact hend
    | succ d ih =>
      intro i hi
      refine hstep i (by omega) ?_
      have := ih (i + 1) (by omega)
      simpa using this
  have := main n 0 (by omega)
  simpa using this

def cvN (x : S47) : S48 := ⟨x.f0, x.f1, x.f2, x.f3, x.f4⟩
theorem rdN (l : List (S48)) (i : Nat) (h : i < l.length) : rd_T48 l (i : Int) = l[i] := by simp [rd_T48, h]
theorem rdN' (l : List (S47)) (i : Nat) (h : i < l.length) : rd_T47 l (i : Int) = l[i] := by simp [rd_T47, h]
theorem szNode_f (x : S47) (m : Int) (h : x.f2.size ≤ maxLen) (h0 : 0 ≤ m) (h1 : m ≤ 1048576) : laws_szNode.f x.f0 x.f1 x.f2 x.f3 x.f4 m = some (if m - (x.f2.size : Int) < 0 then -1 else m - (x.f2.size : Int)) := by
  have := maxLen_le
  simp only [laws_szNode.f, w64 (show -9223372036854775808 ≤ m - (x.f2.size : Int) by omega) (by omega)]
  split <;> rfl
theorem szNodeS_l0 (l : List (S47)) (n : Int) (hl : l.length ≤ 1048576) (hx : ∀ x ∈ l, x.f2.size ≤ maxLen) (h1 : n ≤ 1048576) : ∀ (d i : Nat) (m : Int), i + d = l.length → 0 ≤ m → m ≤ n →
    ∃ r, Ev (fun k => laws_szNodeS.l0 k l m (i : Int)) r ∧ r ≤ m ∧ (0 ≤ r → ∀ (j : Nat) (h : j < l.length), i ≤ j → (l[j].f2.size : Int) ≤ n) := by
  intro d
  induction d with
  | zero =>
    intro i m hi h0 hm
    obtain rfl : i = l.length := by omega
    refine ⟨m, ?_, by omega, fun _ j h hij => by omega⟩
    refine Ev_shift ?_; simp only [laws_szNodeS.l0]
    exact Ev_neg (by omega) (Ev.now _)
  | succ d ih =>
    intro i m hi h0 hm
    have hlt : i < l.length := by omega
    have hs := hx l[i] (List.getElem_mem hlt)
    have hf := szNode_f l[i] m hs h0 (by omega)
    by_cases hc : m - (l[i].f2.size : Int) < 0
    · refine ⟨-1, ?_, by omega, fun hr => by omega⟩
      refine Ev_shift ?_; simp only [laws_szNodeS.l0]
      refine Ev_pos (by omega) (Ev_pos (by omega) ?_)
      rw [rdN' l i hlt]
      refine Ev.bind (Ev_eq hf) ?_
      rw [if_pos hc]
      exact Ev_pos (by omega) (Ev.now _)
    · obtain ⟨r, he, hr, hk⟩ := ih (i + 1) (m - (l[i].f2.size : Int)) (by omega) (by omega) (by omega)
      refine ⟨r, ?_, by omega, fun h => ?_⟩
      · refine Ev_shift ?_; simp only [laws_szNodeS.l0]
        refine Ev_pos (by omega) (Ev_pos (by omega) ?_)
        rw [rdN' l i hlt]
        refine Ev.bind (Ev_eq hf) ?_
        rw [if_neg hc]
        refine Ev_neg (by omega) ?_
        rw [w64 (by omega) (by omega)]
        simpa only [Int.natCast_add, Int.natCast_one] using he
      · intro j hj hij
        by_cases hji : j = i
        · subst hji; omega
        · exact hk h j hj (by omega)
theorem szNodeS_ev (l : List (S47)) (n : Int) (hl : l.length ≤ maxLen) (hx : ∀ x ∈ l, x.f2.size ≤ maxLen) (h0 : 0 ≤ n) (h1 : n ≤ 1048576) :
    ∃ r, Ev (fun k => laws_szNodeS.f k l n) r ∧ r ≤ n ∧ (0 ≤ r → (l.length : Int) ≤ n ∧ ∀ x ∈ l, (x.f2.size : Int) ≤ n) := by
  have := maxLen_le
  simp only [laws_szNodeS.f]
  rw [w64 (x := n - (l.length : Int)) (by omega) (by omega)]
  by_cases hc : n - (l.length : Int) < 0
  · exact ⟨-1, Ev_pos hc (Ev.now _), by omega, fun h => by omega⟩
  · obtain ⟨r, he, hr, hk⟩ := szNodeS_l0 l n (by omega) hx h1 l.length 0 (n - (l.length : Int)) (by omega) (by omega) (by omega)
    refine ⟨r, Ev_neg hc he, by omega, fun h => ⟨by omega, fun x hxl => ?_⟩⟩
    obtain ⟨j, hj, rfl⟩ := List.getElem_of_mem hxl
    exact hk h j hj (by omega)
theorem toNodeS_ev (l : List (S47)) (h : l.length ≤ 1048576) : Ev (fun k => laws_toNodeS.f k l) (l.map cvN) := by
  have main := fill_loop l cvN (fun k x i => laws_toNodeS.l0 k l x i) (fun x => by
      refine Ev_shift ?_; simp only [laws_toNodeS.l0]
      exact Ev_neg (by omega) (Ev.now _))
    (fun i hi x r hx hr => by
      refine Ev_shift ?_; simp only [laws_toNodeS.l0]
      refine Ev_pos (by omega) (Ev_pos (by omega) (Ev.bind (Ev_eq (by simp only [laws_toNode.f]; rfl)) (Ev_pos (by omega) ?_)))
      rw [w64 (by omega) (by omega), rdN' l i hi, Int.toNat_natCast]
      exact hr)
    (List.replicate l.length z48) (by simp)
  simp only [laws_toNodeS.f]
  refine Ev_pos (by omega) (Ev_pos (by omega) ?_)
  rw [Int.toNat_natCast]
  exact main
theorem eqNodeS_ev (l : List (S48)) (h : l.length ≤ 1048576) : Ev (fun k => laws_eqNodeS.f k l l) true := by
  simp only [laws_eqNodeS.f]
  refine Ev_pos (by first | trivial | rfl | simp) ?_
  refine same_loop l.length (fun k i => laws_eqNodeS.l0 k l l i) ?_ ?_
  · refine Ev_shift ?_; simp only [laws_eqNodeS.l0]
    exact Ev_neg (by omega) (Ev.now _)
  · intro i hi hr
    refine Ev_shift ?_; simp only [laws_eqNodeS.l0]
    refine Ev_pos (by omega) (Ev_pos (by omega) (Ev_pos (by omega) (Ev.bind (Ev_eq (r := true) (by simp [laws_eqNode.f])) (Ev_pos (by first | trivial | rfl | simp) ?_))))
    rw [w64 (by omega) (by omega)]
    exact hr

/-- A loop that asks each place, and ends at the first one that answers. -/
def askTo {β : Type} (p : Nat → Bool) (bad good : β) : Nat → Nat → β
  | 0, _ => good
  | d + 1, i => if p i then askTo p bad good d (i + 1) else bad
theorem askTo_loop {β : Type} (n : Nat) (p : Nat → Bool) (bad good : β) (G : Nat → Int → Option β)
    (hend : Ev (fun k => G k (n : Int)) good)
    (hstep : ∀ (i : Nat) (h : i < n) (r : β), p i = true → Ev (fun k => G k ((i : Int) + 1)) r → Ev (fun k => G k (i : Int)) r)
    (hbad : ∀ (i : Nat) (h : i < n), p i = false → Ev (fun k => G k (i : Int)) bad) : Ev (fun k => G k 0) (askTo p bad good n 0) := by
  have main : ∀ (d i : Nat), i + d = n → Ev (fun k => G k (i : Int)) (askTo p bad good d i) := by
    intro d
    induction d with
    | zero =>
      intro i hi
      obtain rfl : i = n := by omega
      exact hend
    | succ d ih =>
      intro i hi
      have hlt : i < n := by omega
      show Ev _ (if p i then askTo p bad good d (i + 1) else bad)
      by_cases hp : p i = true
      · rw [if_pos hp]
        refine hstep i hlt _ hp ?_
        have := ih (i + 1) (by omega)
        simpa only [Int.natCast_add, Int.natCast_one] using this
      · rw [if_neg hp]
        exact hbad i hlt (by simpa using hp)
  exact main n 0 (by omega)

def noN (a b : S48) : Bool := (!((a.f0) == (b.f0)) || (!((a.f1) == (b.f1)) || (!(((a.f2).toList) == ((b.f2).toList)) || (!((a.f3) == (b.f3)) || (!((a.f4) == (b.f4)))))))
def sameNodes (l m : List (S48)) : Bool := if (l.length : Int) = (m.length : Int) then askTo (fun i => !noN (rd_T48 l (i : Int)) (rd_T48 m (i : Int))) false true l.length 0 else false
theorem spec_SameNodes_ev (l m : List (S48)) (h : l.length ≤ 1048576) : Ev (fun k => spec_SameNodes.f k l m) (sameNodes l m) := by
  simp only [spec_SameNodes.f, sameNodes]
  by_cases hl : (l.length : Int) = (m.length : Int)
  · rw [if_pos hl]
    refine Ev_pos hl (askTo_loop l.length _ false true (fun k i => spec_SameNodes.l0 k l m i) ?_ ?_ ?_)
    · refine Ev_shift ?_; simp only [spec_SameNodes.l0]
      exact Ev_neg (by omega) (Ev.now _)
    · intro i hi r hp hr
      refine Ev_shift ?_; simp only [spec_SameNodes.l0]
      refine Ev_pos (by omega) (Ev_pos (by omega) (Ev_pos (by omega) (Ev_neg (fun e => ?_) ?_)))
      · rw [show noN _ _ = true from e] at hp; cases hp
      · rw [w64 (by omega) (by omega)]; exact hr
    · intro i hi hp
      refine Ev_shift ?_; simp only [spec_SameNodes.l0]
      refine Ev_pos (by omega) (Ev_pos (by omega) (Ev_pos (by omega) (Ev_pos ?_ (Ev.now _))))
      show noN _ _ = true
      cases hq : noN (rd_T48 l (i : Int)) (rd_T48 m (i : Int)) with
      | true => rfl
      | false => rw [hq] at hp; cases hp
  · rw [if_neg hl]
    exact Ev_neg hl (Ev.now _)
theorem impl_SameNodes_ev (l m : List (S48)) (h : l.length ≤ 1048576) : Ev (fun k => impl_SameNodes.f k l m) (sameNodes l m) := by
  simp only [impl_SameNodes.f]
  refine Ev.bind ?_ (Ev.now _)
  simp only [impl_Node.f, sameNodes]
  by_cases hl : (l.length : Int) = (m.length : Int)
  · rw [if_pos hl]
    refine Ev_pos hl (askTo_loop l.length _ false true (fun k i => impl_Node.l0 k l m l.length i) ?_ ?_ ?_)
    · refine Ev_shift ?_; simp only [impl_Node.l0]
      exact Ev_neg (by omega) (Ev.now _)
    · intro i hi r hp hr
      refine Ev_shift ?_; simp only [impl_Node.l0]
      refine Ev_pos (by omega) (Ev_pos (by omega) (Ev_pos (by omega) (Ev_pos (by omega) (Ev_neg (fun e => ?_) ?_))))
      · rw [show noN _ _ = true from e] at hp; cases hp
      · rw [w64 (by omega) (by omega)]; exact hr
    · intro i hi hp
      refine Ev_shift ?_; simp only [impl_Node.l0]
      refine Ev_pos (by omega) (Ev_pos (by omega) (Ev_pos (by omega) (Ev_pos (by omega) (Ev_pos ?_ (Ev.now _)))))
      show noN _ _ = true
      cases hq : noN (rd_T48 l (i : Int)) (rd_T48 m (i : Int)) with
      | true => rfl
      | false => rw [hq] at hp; cases hp
  · rw [if_neg hl]
    exact Ev_neg hl (Ev.now _)

theorem FnExactSameNodes : laws_FnExactSameNodes.Pure := by
  intro l m hl hx hm hy
  refine Ev.rounds ?_
  simp only [laws_FnExactSameNodes.f]
  obtain ⟨r, h0, hr, hk⟩ := szNodeS_ev l 1048576 hl (fun x h => (hx x h).2.2.1) (by omega) (by omega)
  by_cases hr0 : r < 0
  · exact Ev.bind h0 (Ev_pos hr0 (Ev.now _))
  · obtain ⟨s, h1, hs, hj⟩ := szNodeS_ev m r hm (fun x h => (hy x h).2.2.1) (by omega) (by omega)
    refine Ev.bind h0 (Ev_neg hr0 (Ev.bind h1 ?_))
    by_cases hs0 : s < 0
    · exact Ev_pos hs0 (Ev.now _)
    · refine Ev_neg hs0 ?_
      have hl' := (hk (by omega)).1
      have hm' := (hj (by omega)).1
      have hl2 : l.length ≤ 1048576 := by omega
      have hm2 : m.length ≤ 1048576 := by omega
      have a1 := toNodeS_ev l hl2
      have a2 := toNodeS_ev m hm2
      have a3 := spec_SameNodes_ev (l.map cvN) (m.map cvN) (by simpa using hl2)
      have a4 := impl_SameNodes_ev (l.map cvN) (m.map cvN) (by simpa using hl2)
      have a5 := eqNodeS_ev (l.map cvN) (by simpa using hl2)
      have a6 := eqNodeS_ev (m.map cvN) (by simpa using hm2)
      generalize sameNodes (l.map cvN) (m.map cvN) = q at *
      repeat' first | with_reducible exact Ev.now _ | (with_reducible refine Ev.bind (by with_reducible assumption) ?_; try dsimp only) | (with_reducible refine Ev_pos ?hc_ ?_; (case hc_ => first | omega | (simp; done))) | (with_reducible refine Ev_neg ?hc_ ?_; (case hc_ => first | omega | (simp; done)))

end Go.Proofs.Ytaknnpphhbgfiaa.Pure
