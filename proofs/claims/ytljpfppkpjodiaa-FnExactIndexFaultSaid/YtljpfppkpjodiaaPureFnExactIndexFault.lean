/- the program's IndexFault tells what the reference's tells, for all indexes. Under no condition. -/
import Derived.Test.YtljpfppkpjodiaaPFnExactIndexFaultx4
set_option linter.unusedVariables false
set_option linter.unusedSimpArgs false
namespace Go.Proofs.Ytljpfppkpjodiaa.Pure
open Go.RowKit Go.Proofs.Ytljpfppkpjodiaa.PFnExactIndexFault Go.Proofs.YtljpfppkpjodiaaW.PrintWords Go.Proofs.YtljpfppkpjodiaaW.PrintLast

theorem w64 {x : Int} (h0 : -9223372036854775808 ≤ x) (h1 : x ≤ 9223372036854775807) : wrap64 x = x := by unfold wrap64; omega
theorem Ev_shift {α : Type} {g : Nat → Option α} {r : α} (h : Ev (fun k => g (k + 1)) r) : Ev g r := Ev.step (f := fun k => g (k + 1)) (fun _ => rfl) h
theorem Ev_pos {α : Type} {c : Prop} [Decidable c] (hc : c) {a b : Nat → Option α} {r : α} (h : Ev a r) : Ev (fun k => if c then a k else b k) r := by
  simpa only [if_pos hc] using h
theorem Ev_neg {α : Type} {c : Prop} [Decidable c] (hc : ¬ c) {a b : Nat → Option α} {r : α} (h : Ev b r) : Ev (fun k => if c then a k else b k) r := by
  simpa only [if_neg hc] using h
theorem Ev_pre {α β : Type} {g : Option α} {a : α} {f : Nat → α → Option β} {r : β} (h : g = some a) (k : Ev (fun n => f n a) r) : Ev (fun n => g.bind (f n)) r := by
  subst h; exact k
theorem Ev_eq {α : Type} {g : Option α} {r : α} (h : g = some r) : Ev (fun _ => g) r := by subst h; exact Ev.now r
theorem Ev_r {α : Type} {g : Nat → Option α} {r r' : α} (e : r = r') (h : Ev g r') : Ev g r := e ▸ h
theorem maxLen_le : maxLen ≤ 9223372036854775807 := by unfold maxLen; omega
theorem rd_nat (l : List Int) (i : Nat) (h : i < l.length) : rd l (i : Int) = l[i] := by simp [rd, h]
/-- A loop that fills a row with what it makes of another one's elements. -/
theorem fill_loop {α β : Type} (l : List α) (c : α → β) (G : Nat → List β → Int → Option (List β))
    (hend : ∀ x, Ev (fun k => G k x (l.length : Int)) x)
    (hstep : ∀ (i : Nat) (h : i < l.length) (x : List β) (r : List β), x.length = l.length → Ev (fun k => G k (x.set i (c l[i])) ((i : Int) + 1)) r → Ev (fun k => G k x (i : Int)) r)
    (x : List β) (hx : x.length = l.length) : Ev (fun k => G k x 0) (l.map c) := by
  have main : ∀ (d i : Nat) (x : List β), x.length = l.length → i + d = l.length → (∀ (j : Nat) (hj : j < i) (hl : j < l.length) (hx : j < x.length), x[j] = c l[j]) → Ev (fun k => G k x (i : Int)) (l.map c) := by
    intro d
    induction d with
    | zero =>
      intro i x hx hi hp
      obtain rfl : i = l.length := by omega
      have : x = l.map c := by
        apply List.ext_getElem (by simp [hx])
        intro j h1 h2
        rw [List.getElem_map]
        exact hp j (by omega) (by omega) h1
      rw [← this]
      exact hend x
    | succ d ih =>
      intro i x hx hi hp
      refine hstep i (by omega) x _ hx ?_
      have := ih (i + 1) (x.set i (c (l[i]'(by omega)))) (by simp [hx]) (by omega) (fun j hj hl hx' => by
        rw [List.getElem_set]
        split
        · rename_i e; subst e; rfl
        · exact hp j (by omega) hl (by simpa using hx'))
      simpa using this
  have := main l.length 0 x hx (by omega) (fun j hj => absurd hj (by omega))
  simpa using this
/-- A loop that goes through all places and finds nothing amiss. -/
theorem same_loop (n : Nat) (G : Nat → Int → Option Bool) (hend : Ev (fun k => G k (n : Int)) true)
    (hstep : ∀ i : Nat, i < n → Ev (fun k => G k ((i : Int) + 1)) true → Ev (fun k => G k (i : Int)) true) : Ev (fun k => G k 0) true := by
  have main : ∀ (d i : Nat), i + d = n → Ev (fun k => G k (i : Int)) true := by
    intro d
    induction d with
    | zero => intro i hi; obtain rfl : i = n := by omega
              exact hend
    | succ d ih =>
      intro i hi
      refine hstep i (by omega) ?_
      have := ih (i + 1) (by omega)
      simpa using this
  have := main n 0 (by omega)
  simpa using this

theorem f_dec_eq {p q : Prop} [Decidable p] [Decidable q] (h : p ↔ q) : decide p = decide q := decide_eq_decide.mpr h
theorem f_in (a b c : Int) : spec_l1In.f a b c = some (decide (b ≤ a ∧ a ≤ c)) := by
  simp only [spec_l1In.f]
  by_cases h : a ≥ b
  · rw [if_pos h]; exact congrArg some (f_dec_eq (by omega))
  · rw [if_neg h]; exact congrArg some (decide_eq_false (by omega)).symm
theorem f_within (a b c : Int) : impl_within.f a b c = some (decide (b ≤ a ∧ a ≤ c)) := by
  simp only [impl_within.f]
  by_cases h : b ≤ a
  · rw [if_pos h]; exact congrArg some (f_dec_eq (by omega))
  · rw [if_neg h]; exact congrArg some (decide_eq_false (by omega)).symm

/-- A loop that asks each place, and ends at the first one that answers. -/
def askTo {β : Type} (p : Nat → Bool) (bad good : β) : Nat → Nat → β
  | 0, _ => good
  | d + 1, i => if p i then askTo p bad good d (i + 1) else bad
theorem askTo_loop {β : Type} (n : Nat) (p : Nat → Bool) (bad good : β) (G : Nat → Int → Option β)
    (hend : Ev (fun k => G k (n : Int)) good)
    (hstep : ∀ (i : Nat) (h : i < n) (r : β), p i = true → Ev (fun k => G k ((i : Int) + 1)) r → Ev (fun k => G k (i : Int)) r)
    (hbad : ∀ (i : Nat) (h : i < n), p i = false → Ev (fun k => G k (i : Int)) bad) : Ev (fun k => G k 0) (askTo p bad good n 0) := by
  have main : ∀ (d i : Nat), i + d = n → Ev (fun k => G k (i : Int)) (askTo p bad good d i) := by
    intro d
    induction d with
    | zero =>
      intro i hi
      obtain rfl : i = n := by omega
      exact hend
    | succ d ih =>
      intro i hi
      have hlt : i < n := by omega
      show Ev _ (if p i then askTo p bad good d (i + 1) else bad)
      by_cases hp : p i = true
      · rw [if_pos hp]
        refine hstep i hlt _ hp ?_
        have := ih (i + 1) (by omega)
        simpa only [Int.natCast_add, Int.natCast_one] using this
      · rw [if_neg hp]
        exact hbad i hlt (by simpa using hp)
  exact main n 0 (by omega)

theorem toInt64S_ev (l : List Int) (h : l.length ≤ 1048576) : Ev (fun k => laws_toInt64S.f k l) l := by
  have main := fill_loop l (fun x => x) (fun k x i => laws_toInt64S.l0 k l x i) (fun x => by
      refine Ev_shift ?_; simp only [laws_toInt64S.l0]
      exact Ev_neg (by omega) (Ev.now _))
    (fun i hi x r hx hr => by
      refine Ev_shift ?_; simp only [laws_toInt64S.l0]
      refine Ev_pos (by omega) (Ev_pos (by omega) (Ev_pos (by omega) ?_))
      rw [w64 (by omega) (by omega), rd_nat l i hi]
      simpa using hr)
    (List.replicate l.length 0) (by simp)
  simp only [laws_toInt64S.f]
  refine Ev_pos (by omega) (Ev_pos (by omega) ?_)
  simpa using main
theorem eqInt64S_ev (l : List Int) (h : l.length ≤ 9223372036854775807) : Ev (fun k => laws_eqInt64S.f k l l) true := by
  simp only [laws_eqInt64S.f]
  refine Ev_pos (by first | trivial | rfl | simp) ?_
  refine same_loop l.length (fun k i => laws_eqInt64S.l0 k l l i) ?_ ?_
  · refine Ev_shift ?_; simp only [laws_eqInt64S.l0]
    exact Ev_neg (by omega) (Ev.now _)
  · intro i hi hr
    refine Ev_shift ?_; simp only [laws_eqInt64S.l0]
    refine Ev_pos (by omega) (Ev_pos (by omega) (Ev_pos (by omega) (Ev_pos (by first | trivial | rfl | simp) ?_)))
    rw [w64 (by omega) (by omega)]
    exact hr
theorem szInt64S_f (l : List Int) (n : Int) (hl : l.length ≤ maxLen) (h0 : 0 ≤ n) (h1 : n ≤ 1048576) : (l.length ≤ n ∧ laws_szInt64S.f l n = some (n - l.length)) ∨ laws_szInt64S.f l n = some (-1) := by
  have := maxLen_le
  simp only [laws_szInt64S.f, w64 (show -9223372036854775808 ≤ n - (l.length : Int) by omega) (by omega)]
  by_cases h : n - (l.length : Int) < 0
  · exact .inr (if_pos h)
  · exact .inl ⟨by omega, if_neg h⟩
theorem szIndex_f (a : Int) (l : List Int) (b c n : Int) (hl : l.length ≤ maxLen) (h0 : 0 ≤ n) (h1 : n ≤ 1048576) : (l.length ≤ n ∧ laws_szIndex.f a l b c n = some (n - l.length)) ∨ laws_szIndex.f a l b c n = some (-1) := by
  simp only [laws_szIndex.f]
  rcases szInt64S_f l n hl h0 h1 with ⟨h, e⟩ | e
  · exact .inl ⟨h, by rw [e, Option.bind_some, if_neg (by omega)]⟩
  · exact .inr (by rw [e, Option.bind_some, if_pos (by omega)])
theorem toIndex_ev (a : Int) (l : List Int) (b c : Int) (h : l.length ≤ 1048576) : Ev (fun k => laws_toIndex.f k a l b c) (a, l, b, c) := by
  simp only [laws_toIndex.f]
  exact Ev.bind (toInt64S_ev l h) (Ev.now _)
theorem eqIndex_ev (a : Int) (l : List Int) (b c : Int) (h : l.length ≤ 9223372036854775807) : Ev (fun k => laws_eqIndex.f k a l b c a l b c) true := by
  simp only [laws_eqIndex.f]
  refine Ev_pos (by first | trivial | rfl | simp) ?_
  refine Ev.bind (eqInt64S_ev l h) ?_
  exact Ev_pos (by first | trivial | rfl | simp) (Ev_pos (by first | trivial | rfl | simp) (Ev_pos (by first | trivial | rfl | simp) (Ev.now _)))
/-- What an index is amiss in: its every, its starts, its lines and its bytes. -/
def idxP (d m : Int) (s : List Int) (i : Nat) : Bool := decide (((i : Int) + 1) * d ≤ rd s (i : Int) ∧ rd s (i : Int) ≤ m ∧ (i = 0 ∨ rd s ((i : Int) - 1) < rd s (i : Int)))
def idxR (d : Int) (s : List Int) (n m : Int) : Int := if (1 ≤ d ∧ d ≤ 9) ∧ (0 ≤ m ∧ m ≤ 400) ∧ (0 ≤ n ∧ n ≤ m) then (if (s.length : Int) = Int.tdiv n d then askTo (idxP d m s) 3 0 s.length 0 else 1) else 3
theorem tdiv_bounds {a b : Int} (h0 : 0 ≤ a) (h1 : 1 ≤ b) : 0 ≤ Int.tdiv a b ∧ Int.tdiv a b ≤ a := by
  rw [Int.tdiv_eq_ediv_of_nonneg h0]
  exact ⟨Int.ediv_nonneg h0 (by omega), Int.ediv_le_self b h0⟩
theorem mul_small {x d : Int} (hx : 0 ≤ x ∧ x ≤ 1000) (hd : 1 ≤ d ∧ d ≤ 9) : 0 ≤ x * d ∧ x * d ≤ 9000 :=
  ⟨Int.mul_nonneg hx.1 (by omega), Int.le_trans (Int.mul_le_mul hx.2 hd.2 (by omega) (by omega)) (by omega)⟩
theorem spec_idx_l0 (d : Int) (s : List Int) (n m : Int) (hd : 1 ≤ d ∧ d ≤ 9) (hs : s.length ≤ 400) : Ev (fun k => spec_l4Fault.l0 k [(⟨d, s, n, m⟩ : S27)] 0) (askTo (idxP d m s) 3 0 s.length 0) := by
  have hr : rd_T27 [(⟨d, s, n, m⟩ : S27)] 0 = ⟨d, s, n, m⟩ := rfl
  have j2 : ∀ (i : Nat) (b : Bool) (r : Int), (b = true → r = 3) → (b = false → Ev (fun k => spec_l4Fault.l0 k [(⟨d, s, n, m⟩ : S27)] (wrap64 ((i : Int) + 1))) r) → Ev (fun k => spec_l4Fault.j2 k [(⟨d, s, n, m⟩ : S27)] (i : Int) b) r := by
    intro i b r h1 h2
    refine Ev_shift ?_; simp only [spec_l4Fault.j2]
    cases b with
    | true => rw [h1 rfl]; exact Ev_pos (by first | trivial | rfl | simp) (Ev.now _)
    | false => exact Ev_neg (by simp) (h2 rfl)
  refine askTo_loop s.length (idxP d m s) 3 0 (fun k i => spec_l4Fault.l0 k _ i) ?_ ?_ ?_
  · refine Ev_shift ?_; simp only [spec_l4Fault.l0, hr]
    exact Ev_pos (by simp) (Ev_neg (by omega) (Ev.now _))
  · intro i hi r hp hq
    simp only [idxP, decide_eq_true_eq] at hp
    have hm := mul_small (x := (i : Int) + 1) (d := d) (by omega) hd
    refine Ev_shift ?_; simp only [spec_l4Fault.l0, hr, f_in]
    refine Ev_pos (by simp) (Ev_pos (by omega) (Ev_pos (by omega) ?_))
    rw [w64 (x := (i : Int) + 1) (by omega) (by omega), w64 (x := ((i : Int) + 1) * d) (by omega) (by omega)]
    refine Ev.bind (Ev_eq rfl) (Ev_pos (decide_eq_true (by omega)) ?_)
    by_cases h0 : i = 0
    · refine Ev_neg (by omega) (j2 i false r (fun e => by cases e) (fun _ => ?_))
      rw [w64 (by omega) (by omega)]; exact hq
    · refine Ev_pos (by omega) ?_
      rw [w64 (x := (i : Int) - 1) (by omega) (by omega)]
      refine Ev_pos (by omega) (Ev_pos (by omega) ?_)
      rw [decide_eq_false (by omega)]
      refine j2 i false r (fun e => by cases e) (fun _ => ?_)
      rw [w64 (by omega) (by omega)]; exact hq
  · intro i hi hp
    simp only [idxP, decide_eq_false_iff_not] at hp
    have hm := mul_small (x := (i : Int) + 1) (d := d) (by omega) hd
    refine Ev_shift ?_; simp only [spec_l4Fault.l0, hr, f_in]
    refine Ev_pos (by simp) (Ev_pos (by omega) (Ev_pos (by omega) ?_))
    rw [w64 (x := (i : Int) + 1) (by omega) (by omega), w64 (x := ((i : Int) + 1) * d) (by omega) (by omega)]
    refine Ev.bind (Ev_eq rfl) ?_
    by_cases c1 : ((i : Int) + 1) * d ≤ rd s (i : Int) ∧ rd s (i : Int) ≤ m
    · refine Ev_pos (decide_eq_true c1) ?_
      have h0 : i ≠ 0 := fun e => hp ⟨c1.1, c1.2, .inl e⟩
      have h1 : ¬ rd s ((i : Int) - 1) < rd s (i : Int) := fun e => hp ⟨c1.1, c1.2, .inr e⟩
      refine Ev_pos (by omega) ?_
      rw [w64 (x := (i : Int) - 1) (by omega) (by omega)]
      refine Ev_pos (by omega) (Ev_pos (by omega) ?_)
      rw [decide_eq_true (by omega)]
      exact j2 i true 3 (fun _ => rfl) (fun e => by cases e)
    · exact Ev_neg (by simpa using c1) (j2 i true 3 (fun _ => rfl) (fun e => by cases e))
theorem spec_l4Fault_ev (d : Int) (s : List Int) (n m : Int) : Ev (fun k => spec_l4Fault.f k [(⟨d, s, n, m⟩ : S27)]) (idxR d s n m) := by
  have hr : rd_T27 [(⟨d, s, n, m⟩ : S27)] 0 = ⟨d, s, n, m⟩ := rfl
  have bad : ¬ ((1 ≤ d ∧ d ≤ 9) ∧ (0 ≤ m ∧ m ≤ 400) ∧ (0 ≤ n ∧ n ≤ m)) → Ev (fun k => spec_l4Fault.j0 k [(⟨d, s, n, m⟩ : S27)] true) (idxR d s n m) := by
    intro h
    refine Ev_r (if_neg h) (Ev_shift ?_); simp only [spec_l4Fault.j0]
    exact Ev_pos (by first | trivial | rfl | simp) (Ev.now _)
  simp only [spec_l4Fault.f, hr, f_in]
  refine Ev_pos (by simp) (Ev.bind (Ev_eq rfl) ?_)
  by_cases c1 : 1 ≤ d ∧ d ≤ 9
  · refine Ev_pos (decide_eq_true c1) (Ev.bind (Ev_eq rfl) ?_)
    by_cases c2 : 0 ≤ m ∧ m ≤ 400
    · refine Ev_pos (decide_eq_true c2) (Ev.bind (Ev_eq rfl) ?_)
      by_cases c3 : 0 ≤ n ∧ n ≤ m
      · rw [decide_eq_true c3]
        refine Ev_r (if_pos ⟨c1, c2, c3⟩) (Ev_shift ?_); simp only [spec_l4Fault.j0, hr]
        have ht := tdiv_bounds c3.1 c1.1
        refine Ev_neg (by simp) (Ev_pos (by simp) (Ev_neg (by omega) ?_))
        rw [w64 (x := Int.tdiv n d) (by omega) (by omega)]
        by_cases c4 : (s.length : Int) = Int.tdiv n d
        · exact Ev_r (if_pos c4) (Ev_pos c4 (spec_idx_l0 d s n m c1 (by omega)))
        · exact Ev_r (if_neg c4) (Ev_neg c4 (Ev.now _))
      · rw [decide_eq_false c3]; exact bad (fun e => c3 e.2.2)
    · exact Ev_neg (by simpa using c2) (bad (fun e => c2 e.2.1))
  · exact Ev_neg (by simpa using c1) (bad (fun e => c1 e.1))
theorem impl_idx_l0 (d : Int) (s : List Int) (n m : Int) (hd : 1 ≤ d ∧ d ≤ 9) (hs : s.length ≤ 400) : Ev (fun k => impl_IndexFault.l0 k s (s.length : Int) 0 d s n m) (askTo (idxP d m s) 3 0 s.length 0) := by
  refine askTo_loop s.length (idxP d m s) 3 0 (fun k i => impl_IndexFault.l0 k s (s.length : Int) i d s n m) ?_ ?_ ?_
  · refine Ev_shift ?_; simp only [impl_IndexFault.l0]
    exact Ev_neg (by omega) (Ev.now _)
  · intro i hi r hp hq
    simp only [idxP, decide_eq_true_eq] at hp
    have hm := mul_small (x := (i : Int) + 1) (d := d) (by omega) hd
    refine Ev_shift ?_; simp only [impl_IndexFault.l0]
    rw [w64 (x := (i : Int) + 1) (by omega) (by omega), Int.mul_comm d, w64 (x := ((i : Int) + 1) * d) (by omega) (by omega)]
    refine Ev_pos (by omega) (Ev_pos (by omega) (Ev_pos (by omega) (Ev_neg (by omega) (Ev_neg (by omega) ?_))))
    by_cases h0 : i = 0
    · exact Ev_neg (by omega) hq
    · refine Ev_pos (by omega) ?_
      rw [w64 (x := (i : Int) - 1) (by omega) (by omega)]
      exact Ev_pos (by omega) (Ev_pos (by omega) (Ev_neg (by omega) hq))
  · intro i hi hp
    simp only [idxP, decide_eq_false_iff_not] at hp
    have hm := mul_small (x := (i : Int) + 1) (d := d) (by omega) hd
    refine Ev_shift ?_; simp only [impl_IndexFault.l0]
    rw [w64 (x := (i : Int) + 1) (by omega) (by omega), Int.mul_comm d, w64 (x := ((i : Int) + 1) * d) (by omega) (by omega)]
    refine Ev_pos (by omega) (Ev_pos (by omega) (Ev_pos (by omega) ?_))
    by_cases c1 : rd s (i : Int) < ((i : Int) + 1) * d
    · exact Ev_pos c1 (Ev.now _)
    · refine Ev_neg c1 ?_
      by_cases c2 : rd s (i : Int) > m
      · exact Ev_pos c2 (Ev.now _)
      · refine Ev_neg c2 ?_
        have h0 : i ≠ 0 := fun e => hp ⟨by omega, by omega, .inl e⟩
        have h1 : ¬ rd s ((i : Int) - 1) < rd s (i : Int) := fun e => hp ⟨by omega, by omega, .inr e⟩
        refine Ev_pos (by omega) ?_
        rw [w64 (x := (i : Int) - 1) (by omega) (by omega)]
        exact Ev_pos (by omega) (Ev_pos (by omega) (Ev_pos (by omega) (Ev.now _)))
theorem impl_IndexFault_ev (d : Int) (s : List Int) (n m : Int) : Ev (fun k => impl_IndexFault.f k d s n m) (idxR d s n m) := by
  have bad : ¬ ((1 ≤ d ∧ d ≤ 9) ∧ (0 ≤ m ∧ m ≤ 400) ∧ (0 ≤ n ∧ n ≤ m)) → Ev (fun k => impl_IndexFault.j0 k true d s n m) (idxR d s n m) := by
    intro h
    refine Ev_r (if_neg h) (Ev_shift ?_); simp only [impl_IndexFault.j0]
    exact Ev_pos (by first | trivial | rfl | simp) (Ev.now _)
  simp only [impl_IndexFault.f, f_within]
  refine Ev.bind (Ev_eq rfl) ?_
  by_cases c1 : 1 ≤ d ∧ d ≤ 9
  · refine Ev_pos (decide_eq_true c1) (Ev.bind (Ev_eq rfl) ?_)
    by_cases c2 : 0 ≤ m ∧ m ≤ 400
    · refine Ev_pos (decide_eq_true c2) (Ev.bind (Ev_eq rfl) ?_)
      by_cases c3 : 0 ≤ n ∧ n ≤ m
      · rw [decide_eq_true c3]
        refine Ev_r (if_pos ⟨c1, c2, c3⟩) (Ev_shift ?_); simp only [impl_IndexFault.j0]
        have ht := tdiv_bounds c3.1 c1.1
        refine Ev_neg (by simp) (Ev_neg (by omega) ?_)
        rw [w64 (x := Int.tdiv n d) (by omega) (by omega)]
        by_cases c4 : (s.length : Int) = Int.tdiv n d
        · exact Ev_r (if_pos c4) (Ev_pos c4 (impl_idx_l0 d s n m c1 (by omega)))
        · exact Ev_r (if_neg c4) (Ev_neg c4 (Ev.now _))
      · rw [decide_eq_false c3]; exact bad (fun e => c3 e.2.2)
    · exact Ev_neg (by simpa using c2) (bad (fun e => c2 e.2.1))
  · exact Ev_neg (by simpa using c1) (bad (fun e => c1 e.1))

theorem FnExactIndexFault : laws_FnExactIndexFault.Pure := by
  intro a l b c _ hl _ _ _
  refine Ev.rounds ?_
  simp only [laws_FnExactIndexFault.f, spec_IndexFault.f]
  rcases szIndex_f a l b c 1048576 hl (by omega) (by omega) with ⟨h, e⟩ | e
  · have hs : l.length ≤ 1048576 := by omega
    have h1 := toIndex_ev a l b c hs
    refine Ev.bind (Ev_eq e) (Ev_neg (by omega) ?_)
    refine Ev.bind h1 ?_
    refine Ev.bind (a := idxR a l b c) (Ev.bind (spec_l4Fault_ev a l b c) (Ev.now _)) ?_
    refine Ev.bind h1 ?_
    refine Ev.bind (impl_IndexFault_ev a l b c) (Ev_pos (by first | trivial | rfl | simp) ?_)
    refine Ev.bind h1 ?_
    exact Ev.bind (eqIndex_ev a l b c (by omega)) (Ev_pos (by first | trivial | rfl | simp) (Ev.now _))
  · exact Ev_pre e (Ev_pos (by omega) (Ev.now _))

end Go.Proofs.Ytljpfppkpjodiaa.Pure
