/- the program's ExtendIndex tells what the reference's tells, for every index and file. Under no condition. -/
import Derived.Test.YtljpfppkpjodiaaPFnExactExtendIndexx7
set_option linter.unusedVariables false
set_option linter.unusedSimpArgs false
namespace Go.Proofs.Ytljpfppkpjodiaa.Pure
open Go.RowKit Go.Proofs.Ytljpfppkpjodiaa.PFnExactExtendIndex Go.Proofs.YtljpfppkpjodiaaW.PrintWords Go.Proofs.YtljpfppkpjodiaaW.PrintLast

theorem w64 {x : Int} (h0 : -9223372036854775808 ≤ x) (h1 : x ≤ 9223372036854775807) : wrap64 x = x := by unfold wrap64; omega
theorem Ev_shift {α : Type} {g : Nat → Option α} {r : α} (h : Ev (fun k => g (k + 1)) r) : Ev g r := Ev.step (f := fun k => g (k + 1)) (fun _ => rfl) h
theorem Ev_pos {α : Type} {c : Prop} [Decidable c] (hc : c) {a b : Nat → Option α} {r : α} (h : Ev a r) : Ev (fun k => if c then a k else b k) r := by
  simpa only [if_pos hc] using h
theorem Ev_neg {α : Type} {c : Prop} [Decidable c] (hc : ¬ c) {a b : Nat → Option α} {r : α} (h : Ev b r) : Ev (fun k => if c then a k else b k) r := by
  simpa only [if_neg hc] using h
theorem Ev_pre {α β : Type} {g : Option α} {a : α} {f : Nat → α → Option β} {r : β} (h : g = some a) (k : Ev (fun n => f n a) r) : Ev (fun n => g.bind (f n)) r := by
  subst h; exact k
theorem Ev_eq {α : Type} {g : Option α} {r : α} (h : g = some r) : Ev (fun _ => g) r := by subst h; exact Ev.now r
theorem Ev_r {α : Type} {g : Nat → Option α} {r r' : α} (e : r = r') (h : Ev g r') : Ev g r := e ▸ h
theorem maxLen_le : maxLen ≤ 9223372036854775807 := by unfold maxLen; omega
theorem rd_nat (l : List Int) (i : Nat) (h : i < l.length) : rd l (i : Int) = l[i] := by simp [rd, h]
/-- A loop that fills a row with what it makes of another one's elements. -/
theorem fill_loop {α β : Type} (l : List α) (c : α → β) (G : Nat → List β → Int → Option (List β))
    (hend : ∀ x, Ev (fun k => G k x (l.length : Int)) x)
    (hstep : ∀ (i : Nat) (h : i < l.length) (x : List β) (r : List β), x.length = l.length → Ev (fun k => G k (x.set i (c l[i])) ((i : Int) + 1)) r → Ev (fun k => G k x (i : Int)) r)
    (x : List β) (hx : x.length = l.length) : Ev (fun k => G k x 0) (l.map c) := by
  have main : ∀ (d i : Nat) (x : List β), x.length = l.length → i + d = l.length → (∀ (j : Nat) (hj : j < i) (hl : j < l.length) (hx : j < x.length), x[j] = c l[j]) → Ev (fun k => G k x (i : Int)) (l.map c) := by
    intro d
    induction d with
    | zero =>
      intro i x hx hi hp
      obtain rfl : i = l.length := by omega
      have : x = l.map c := by
        apply List.ext_getElem (by simp [hx])
        intro j h1 h2
        rw [List.getElem_map]
        exact hp j (by omega) (by omega) h1
      rw [← this]
      exact hend x
    | succ d ih =>
      intro i x hx hi hp
      refine hstep i (by omega) x _ hx ?_
      have := ih (i + 1) (x.set i (c (l[i]'(by omega)))) (by simp [hx]) (by omega) (fun j hj hl hx' => by
        rw [List.getElem_set]
        split
        · rename_i e; subst e; rfl
        · exact hp j (by omega) hl (by simpa using hx'))
      simpa using this
  have := main l.length 0 x hx (by omega) (fun j hj => absurd hj (by omega))
  simpa using this
/-- A loop that goes through all places and finds nothing amiss. -/
theorem same_loop (n : Nat) (G : Nat → Int → Option Bool) (hend : Ev (fun k => G k (n : Int)) true)
    (hstep : ∀ i : Nat, i < n → Ev (fun k => G k ((i : Int) + 1)) true → Ev (fun k => G k (i : Int)) true) : Ev (fun k => G k 0) true := by
  have main : ∀ (d i : Nat), i + d = n → Ev (fun k => G k (i : Int)) true := by
    intro d
    induction d with
    | zero => intro i hi; obtain rfl : i = n := by omega
              exact hend
    | succ d ih =>
      intro i hi
      refine hstep i (by omega) ?_
      have := ih (i + 1) (by omega)
      simpa using this
  have := main n 0 (by omega)
  simpa using this

theorem f_dec_eq {p q : Prop} [Decidable p] [Decidable q] (h : p ↔ q) : decide p = decide q := decide_eq_decide.mpr h
theorem f_in (a b c : Int) : spec_l1In.f a b c = some (decide (b ≤ a ∧ a ≤ c)) := by
  simp only [spec_l1In.f]
  by_cases h : a ≥ b
  · rw [if_pos h]; exact congrArg some (f_dec_eq (by omega))
  · rw [if_neg h]; exact congrArg some (decide_eq_false (by omega)).symm
theorem f_within (a b c : Int) : impl_within.f a b c = some (decide (b ≤ a ∧ a ≤ c)) := by
  simp only [impl_within.f]
  by_cases h : b ≤ a
  · rw [if_pos h]; exact congrArg some (f_dec_eq (by omega))
  · rw [if_neg h]; exact congrArg some (decide_eq_false (by omega)).symm

/-- A loop that asks each place, and ends at the first one that answers. -/
def askTo {β : Type} (p : Nat → Bool) (bad good : β) : Nat → Nat → β
  | 0, _ => good
  | d + 1, i => if p i then askTo p bad good d (i + 1) else bad
theorem askTo_loop {β : Type} (n : Nat) (p : Nat → Bool) (bad good : β) (G : Nat → Int → Option β)
    (hend : Ev (fun k => G k (n : Int)) good)
    (hstep : ∀ (i : Nat) (h : i < n) (r : β), p i = true → Ev (fun k => G k ((i : Int) + 1)) r → Ev (fun k => G k (i : Int)) r)
    (hbad : ∀ (i : Nat) (h : i < n), p i = false → Ev (fun k => G k (i : Int)) bad) : Ev (fun k => G k 0) (askTo p bad good n 0) := by
  have main : ∀ (d i : Nat), i + d = n → Ev (fun k => G k (i : Int)) (askTo p bad good d i) := by
    intro d
    induction d with
    | zero =>
      intro i hi
      obtain rfl : i = n := by omega
      exact hend
    | succ d ih =>
      intro i hi
      have hlt : i < n := by omega
      show Ev _ (if p i then askTo p bad good d (i + 1) else bad)
      by_cases hp : p i = true
      · rw [if_pos hp]
        refine hstep i hlt _ hp ?_
        have := ih (i + 1) (by omega)
        simpa only [Int.natCast_add, Int.natCast_one] using this
      · rw [if_neg hp]
        exact hbad i hlt (by simpa using hp)
  exact main n 0 (by omega)

theorem toInt64S_ev (l : List Int) (h : l.length ≤ 1048576) : Ev (fun k => laws_toInt64S.f k l) l := by
  have main := fill_loop l (fun x => x) (fun k x i => laws_toInt64S.l0 k l x i) (fun x => by
      refine Ev_shift ?_; simp only [laws_toInt64S.l0]
      exact Ev_neg (by omega) (Ev.now _))
    (fun i hi x r hx hr => by
      refine Ev_shift ?_; simp only [laws_toInt64S.l0]
      refine Ev_pos (by omega) (Ev_pos (by omega) (Ev_pos (by omega) ?_))
      rw [w64 (by omega) (by omega), rd_nat l i hi]
      simpa using hr)
    (List.replicate l.length 0) (by simp)
  simp only [laws_toInt64S.f]
  refine Ev_pos (by omega) (Ev_pos (by omega) ?_)
  simpa using main
theorem eqInt64S_ev (l : List Int) (h : l.length ≤ 9223372036854775807) : Ev (fun k => laws_eqInt64S.f k l l) true := by
  simp only [laws_eqInt64S.f]
  refine Ev_pos (by first | trivial | rfl | simp) ?_
  refine same_loop l.length (fun k i => laws_eqInt64S.l0 k l l i) ?_ ?_
  · refine Ev_shift ?_; simp only [laws_eqInt64S.l0]
    exact Ev_neg (by omega) (Ev.now _)
  · intro i hi hr
    refine Ev_shift ?_; simp only [laws_eqInt64S.l0]
    refine Ev_pos (by omega) (Ev_pos (by omega) (Ev_pos (by omega) (Ev_pos (by first | trivial | rfl | simp) ?_)))
    rw [w64 (by omega) (by omega)]
    exact hr
theorem szInt64S_f (l : List Int) (n : Int) (hl : l.length ≤ maxLen) (h0 : 0 ≤ n) (h1 : n ≤ 1048576) : (l.length ≤ n ∧ laws_szInt64S.f l n = some (n - l.length)) ∨ laws_szInt64S.f l n = some (-1) := by
  have := maxLen_le
  simp only [laws_szInt64S.f, w64 (show -9223372036854775808 ≤ n - (l.length : Int) by omega) (by omega)]
  by_cases h : n - (l.length : Int) < 0
  · exact .inr (if_pos h)
  · exact .inl ⟨by omega, if_neg h⟩
theorem szIndex_f (a : Int) (l : List Int) (b c n : Int) (hl : l.length ≤ maxLen) (h0 : 0 ≤ n) (h1 : n ≤ 1048576) : (l.length ≤ n ∧ laws_szIndex.f a l b c n = some (n - l.length)) ∨ laws_szIndex.f a l b c n = some (-1) := by
  simp only [laws_szIndex.f]
  rcases szInt64S_f l n hl h0 h1 with ⟨h, e⟩ | e
  · exact .inl ⟨h, by rw [e, Option.bind_some, if_neg (by omega)]⟩
  · exact .inr (by rw [e, Option.bind_some, if_pos (by omega)])
theorem toIndex_ev (a : Int) (l : List Int) (b c : Int) (h : l.length ≤ 1048576) : Ev (fun k => laws_toIndex.f k a l b c) (a, l, b, c) := by
  simp only [laws_toIndex.f]
  exact Ev.bind (toInt64S_ev l h) (Ev.now _)
theorem eqIndex_ev (a : Int) (l : List Int) (b c : Int) (h : l.length ≤ 9223372036854775807) : Ev (fun k => laws_eqIndex.f k a l b c a l b c) true := by
  simp only [laws_eqIndex.f]
  refine Ev_pos (by first | trivial | rfl | simp) ?_
  refine Ev.bind (eqInt64S_ev l h) ?_
  exact Ev_pos (by first | trivial | rfl | simp) (Ev_pos (by first | trivial | rfl | simp) (Ev_pos (by first | trivial | rfl | simp) (Ev.now _)))
/-- What an index is amiss in: its every, its starts, its lines and its bytes. -/
def idxP (d m : Int) (s : List Int) (i : Nat) : Bool := decide (((i : Int) + 1) * d ≤ rd s (i : Int) ∧ rd s (i : Int) ≤ m ∧ (i = 0 ∨ rd s ((i : Int) - 1) < rd s (i : Int)))
def idxR (d : Int) (s : List Int) (n m : Int) : Int := if (1 ≤ d ∧ d ≤ 9) ∧ (0 ≤ m ∧ m ≤ 400) ∧ (0 ≤ n ∧ n ≤ m) then (if (s.length : Int) = Int.tdiv n d then askTo (idxP d m s) 3 0 s.length 0 else 1) else 3
theorem tdiv_bounds {a b : Int} (h0 : 0 ≤ a) (h1 : 1 ≤ b) : 0 ≤ Int.tdiv a b ∧ Int.tdiv a b ≤ a := by
  rw [Int.tdiv_eq_ediv_of_nonneg h0]
  exact ⟨Int.ediv_nonneg h0 (by omega), Int.ediv_le_self b h0⟩
theorem mul_small {x d : Int} (hx : 0 ≤ x ∧ x ≤ 1000) (hd : 1 ≤ d ∧ d ≤ 9) : 0 ≤ x * d ∧ x * d ≤ 9000 :=
  ⟨Int.mul_nonneg hx.1 (by omega), Int.le_trans (Int.mul_le_mul hx.2 hd.2 (by omega) (by omega)) (by omega)⟩
theorem spec_idx_l0 (d : Int) (s : List Int) (n m : Int) (hd : 1 ≤ d ∧ d ≤ 9) (hs : s.length ≤ 400) : Ev (fun k => spec_l4Fault.l0 k [(⟨d, s, n, m⟩ : S27)] 0) (askTo (idxP d m s) 3 0 s.length 0) := by
  have hr : rd_T27 [(⟨d, s, n, m⟩ : S27)] 0 = ⟨d, s, n, m⟩ := rfl
  have j2 : ∀ (i : Nat) (b : Bool) (r : Int), (b = true → r = 3) → (b = false → Ev (fun k => spec_l4Fault.l0 k [(⟨d, s, n, m⟩ : S27)] (wrap64 ((i : Int) + 1))) r) → Ev (fun k => spec_l4Fault.j2 k [(⟨d, s, n, m⟩ : S27)] (i : Int) b) r := by
    intro i b r h1 h2
    refine Ev_shift ?_; simp only [spec_l4Fault.j2]
    cases b with
    | true => rw [h1 rfl]; exact Ev_pos (by first | trivial | rfl | simp) (Ev.now _)
    | false => exact Ev_neg (by simp) (h2 rfl)
  refine askTo_loop s.length (idxP d m s) 3 0 (fun k i => spec_l4Fault.l0 k _ i) ?_ ?_ ?_
  · refine Ev_shift ?_; simp only [spec_l4Fault.l0, hr]
    exact Ev_pos (by simp) (Ev_neg (by omega) (Ev.now _))
  · intro i hi r hp hq
    simp only [idxP, decide_eq_true_eq] at hp
    have hm := mul_small (x := (i : Int) + 1) (d := d) (by omega) hd
    refine Ev_shift ?_; simp only [spec_l4Fault.l0, hr, f_in]
    refine Ev_pos (by simp) (Ev_pos (by omega) (Ev_pos (by omega) ?_))
    rw [w64 (x := (i : Int) + 1) (by omega) (by omega), w64 (x := ((i : Int) + 1) * d) (by omega) (by omega)]
    refine Ev.bind (Ev_eq rfl) (Ev_pos (decide_eq_true (by omega)) ?_)
    by_cases h0 : i = 0
    · refine Ev_neg (by omega) (j2 i false r (fun e => by cases e) (fun _ => ?_))
      rw [w64 (by omega) (by omega)]; exact hq
    · refine Ev_pos (by omega) ?_
      rw [w64 (x := (i : Int) - 1) (by omega) (by omega)]
      refine Ev_pos (by omega) (Ev_pos (by omega) ?_)
      rw [decide_eq_false (by omega)]
      refine j2 i false r (fun e => by cases e) (fun _ => ?_)
      rw [w64 (by omega) (by omega)]; exact hq
  · intro i hi hp
    simp only [idxP, decide_eq_false_iff_not] at hp
    have hm := mul_small (x := (i : Int) + 1) (d := d) (by omega) hd
    refine Ev_shift ?_; simp only [spec_l4Fault.l0, hr, f_in]
    refine Ev_pos (by simp) (Ev_pos (by omega) (Ev_pos (by omega) ?_))
    rw [w64 (x := (i : Int) + 1) (by omega) (by omega), w64 (x := ((i : Int) + 1) * d) (by omega) (by omega)]
    refine Ev.bind (Ev_eq rfl) ?_
    by_cases c1 : ((i : Int) + 1) * d ≤ rd s (i : Int) ∧ rd s (i : Int) ≤ m
    · refine Ev_pos (decide_eq_true c1) ?_
      have h0 : i ≠ 0 := fun e => hp ⟨c1.1, c1.2, .inl e⟩
      have h1 : ¬ rd s ((i : Int) - 1) < rd s (i : Int) := fun e => hp ⟨c1.1, c1.2, .inr e⟩
      refine Ev_pos (by omega) ?_
      rw [w64 (x := (i : Int) - 1) (by omega) (by omega)]
      refine Ev_pos (by omega) (Ev_pos (by omega) ?_)
      rw [decide_eq_true (by omega)]
      exact j2 i true 3 (fun _ => rfl) (fun e => by cases e)
    · exact Ev_neg (by simpa using c1) (j2 i true 3 (fun _ => rfl) (fun e => by cases e))
theorem spec_l4Fault_ev (d : Int) (s : List Int) (n m : Int) : Ev (fun k => spec_l4Fault.f k [(⟨d, s, n, m⟩ : S27)]) (idxR d s n m) := by
  have hr : rd_T27 [(⟨d, s, n, m⟩ : S27)] 0 = ⟨d, s, n, m⟩ := rfl
  have bad : ¬ ((1 ≤ d ∧ d ≤ 9) ∧ (0 ≤ m ∧ m ≤ 400) ∧ (0 ≤ n ∧ n ≤ m)) → Ev (fun k => spec_l4Fault.j0 k [(⟨d, s, n, m⟩ : S27)] true) (idxR d s n m) := by
    intro h
    refine Ev_r (if_neg h) (Ev_shift ?_); simp only [spec_l4Fault.j0]
    exact Ev_pos (by first | trivial | rfl | simp) (Ev.now _)
  simp only [spec_l4Fault.f, hr, f_in]
  refine Ev_pos (by simp) (Ev.bind (Ev_eq rfl) ?_)
  by_cases c1 : 1 ≤ d ∧ d ≤ 9
  · refine Ev_pos (decide_eq_true c1) (Ev.bind (Ev_eq rfl) ?_)
    by_cases c2 : 0 ≤ m ∧ m ≤ 400
    · refine Ev_pos (decide_eq_true c2) (Ev.bind (Ev_eq rfl) ?_)
      by_cases c3 : 0 ≤ n ∧ n ≤ m
      · rw [decide_eq_true c3]
        refine Ev_r (if_pos ⟨c1, c2, c3⟩) (Ev_shift ?_); simp only [spec_l4Fault.j0, hr]
        have ht := tdiv_bounds c3.1 c1.1
        refine Ev_neg (by simp) (Ev_pos (by simp) (Ev_neg (by omega) ?_))
        rw [w64 (x := Int.tdiv n d) (by omega) (by omega)]
        by_cases c4 : (s.length : Int) = Int.tdiv n d
        · exact Ev_r (if_pos c4) (Ev_pos c4 (spec_idx_l0 d s n m c1 (by omega)))
        · exact Ev_r (if_neg c4) (Ev_neg c4 (Ev.now _))
      · rw [decide_eq_false c3]; exact bad (fun e => c3 e.2.2)
    · exact Ev_neg (by simpa using c2) (bad (fun e => c2 e.2.1))
  · exact Ev_neg (by simpa using c1) (bad (fun e => c1 e.1))
theorem impl_idx_l0 (d : Int) (s : List Int) (n m : Int) (hd : 1 ≤ d ∧ d ≤ 9) (hs : s.length ≤ 400) : Ev (fun k => impl_IndexFault.l0 k s (s.length : Int) 0 d s n m) (askTo (idxP d m s) 3 0 s.length 0) := by
  refine askTo_loop s.length (idxP d m s) 3 0 (fun k i => impl_IndexFault.l0 k s (s.length : Int) i d s n m) ?_ ?_ ?_
  · refine Ev_shift ?_; simp only [impl_IndexFault.l0]
    exact Ev_neg (by omega) (Ev.now _)
  · intro i hi r hp hq
    simp only [idxP, decide_eq_true_eq] at hp
    have hm := mul_small (x := (i : Int) + 1) (d := d) (by omega) hd
    refine Ev_shift ?_; simp only [impl_IndexFault.l0]
    rw [w64 (x := (i : Int) + 1) (by omega) (by omega), Int.mul_comm d, w64 (x := ((i : Int) + 1) * d) (by omega) (by omega)]
    refine Ev_pos (by omega) (Ev_pos (by omega) (Ev_pos (by omega) (Ev_neg (by omega) (Ev_neg (by omega) ?_))))
    by_cases h0 : i = 0
    · exact Ev_neg (by omega) hq
    · refine Ev_pos (by omega) ?_
      rw [w64 (x := (i : Int) - 1) (by omega) (by omega)]
      exact Ev_pos (by omega) (Ev_pos (by omega) (Ev_neg (by omega) hq))
  · intro i hi hp
    simp only [idxP, decide_eq_false_iff_not] at hp
    have hm := mul_small (x := (i : Int) + 1) (d := d) (by omega) hd
    refine Ev_shift ?_; simp only [impl_IndexFault.l0]
    rw [w64 (x := (i : Int) + 1) (by omega) (by omega), Int.mul_comm d, w64 (x := ((i : Int) + 1) * d) (by omega) (by omega)]
    refine Ev_pos (by omega) (Ev_pos (by omega) (Ev_pos (by omega) ?_))
    by_cases c1 : rd s (i : Int) < ((i : Int) + 1) * d
    · exact Ev_pos c1 (Ev.now _)
    · refine Ev_neg c1 ?_
      by_cases c2 : rd s (i : Int) > m
      · exact Ev_pos c2 (Ev.now _)
      · refine Ev_neg c2 ?_
        have h0 : i ≠ 0 := fun e => hp ⟨by omega, by omega, .inl e⟩
        have h1 : ¬ rd s ((i : Int) - 1) < rd s (i : Int) := fun e => hp ⟨by omega, by omega, .inr e⟩
        refine Ev_pos (by omega) ?_
        rw [w64 (x := (i : Int) - 1) (by omega) (by omega)]
        exact Ev_pos (by omega) (Ev_pos (by omega) (Ev_pos (by omega) (Ev.now _)))
theorem impl_IndexFault_ev (d : Int) (s : List Int) (n m : Int) : Ev (fun k => impl_IndexFault.f k d s n m) (idxR d s n m) := by
  have bad : ¬ ((1 ≤ d ∧ d ≤ 9) ∧ (0 ≤ m ∧ m ≤ 400) ∧ (0 ≤ n ∧ n ≤ m)) → Ev (fun k => impl_IndexFault.j0 k true d s n m) (idxR d s n m) := by
    intro h
    refine Ev_r (if_neg h) (Ev_shift ?_); simp only [impl_IndexFault.j0]
    exact Ev_pos (by first | trivial | rfl | simp) (Ev.now _)
  simp only [impl_IndexFault.f, f_within]
  refine Ev.bind (Ev_eq rfl) ?_
  by_cases c1 : 1 ≤ d ∧ d ≤ 9
  · refine Ev_pos (decide_eq_true c1) (Ev.bind (Ev_eq rfl) ?_)
    by_cases c2 : 0 ≤ m ∧ m ≤ 400
    · refine Ev_pos (decide_eq_true c2) (Ev.bind (Ev_eq rfl) ?_)
      by_cases c3 : 0 ≤ n ∧ n ≤ m
      · rw [decide_eq_true c3]
        refine Ev_r (if_pos ⟨c1, c2, c3⟩) (Ev_shift ?_); simp only [impl_IndexFault.j0]
        have ht := tdiv_bounds c3.1 c1.1
        refine Ev_neg (by simp) (Ev_neg (by omega) ?_)
        rw [w64 (x := Int.tdiv n d) (by omega) (by omega)]
        by_cases c4 : (s.length : Int) = Int.tdiv n d
        · exact Ev_r (if_pos c4) (Ev_pos c4 (impl_idx_l0 d s n m c1 (by omega)))
        · exact Ev_r (if_neg c4) (Ev_neg c4 (Ev.now _))
      · rw [decide_eq_false c3]; exact bad (fun e => c3 e.2.2)
    · exact Ev_neg (by simpa using c2) (bad (fun e => c2 e.2.1))
  · exact Ev_neg (by simpa using c1) (bad (fun e => c1 e.1))

/-- A loop that writes a running count into a row, s to an element. -/
theorem mark_loop {β : Type} (s : Nat) (V : Int → β) (n : Nat) (G : Nat → List β → Int → Int → Option (Int × List β)) (m0 : Int)
    (hend : ∀ x m, x.length = n → Ev (fun k => G k x m (n : Int)) (m, x))
    (hstep : ∀ (i : Nat) (x : List β) (r : Int × List β), i < n → x.length = n → Ev (fun k => G k (x.set i (V (m0 + s * i))) (m0 + s * (i + 1 : Nat)) ((i : Int) + 1)) r → Ev (fun k => G k x (m0 + s * i) (i : Int)) r)
    (x : List β) (hx : x.length = n) : Ev (fun k => G k x m0 0) (m0 + s * n, (List.range n).map fun j : Nat => V (m0 + s * j)) := by
  have main : ∀ (d i : Nat) (x : List β), x.length = n → i + d = n → (∀ (j : Nat) (hj : j < i) (hx : j < x.length), x[j] = V (m0 + s * j)) → Ev (fun k => G k x (m0 + s * i) (i : Int)) (m0 + s * n, (List.range n).map fun j : Nat => V (m0 + s * j)) := by
    intro d
    induction d with
    | zero =>
      intro i x hx hi hp
      obtain rfl : i = n := by omega
      have : x = (List.range i).map fun j : Nat => V (m0 + s * j) := by
        apply List.ext_getElem (by simp [hx])
        intro j h1 h2
        rw [List.getElem_map, List.getElem_range]
        exact hp j (by omega) h1
      rw [← this]
      exact hend x _ hx
    | succ d ih =>
      intro i x hx hi hp
      refine hstep i x _ (by omega) hx ?_
      have := ih (i + 1) (x.set i (V (m0 + s * i))) (by simp [hx]) (by omega) (fun j hj hx' => by
        rw [List.getElem_set]
        split
        · rename_i e; subst e; rfl
        · exact hp j (by omega) (by simpa using hx'))
      simpa using this
  have := main n 0 x hx (by omega) (fun j hj => absurd hj (by omega))
  simpa using this
/-- A loop that holds a row against a running count. -/
theorem held_loop (s n : Nat) (G : Nat → Int → Int → Option Int) (m0 : Int)
    (hend : ∀ m, Ev (fun k => G k m (n : Int)) m)
    (hstep : ∀ (i : Nat) (r : Int), i < n → Ev (fun k => G k (m0 + s * (i + 1 : Nat)) ((i : Int) + 1)) r → Ev (fun k => G k (m0 + s * i) (i : Int)) r) :
    Ev (fun k => G k m0 0) (m0 + s * n) := by
  have main : ∀ (d i : Nat), i + d = n → Ev (fun k => G k (m0 + s * i) (i : Int)) (m0 + s * n) := by
    intro d
    induction d with
    | zero => intro i hi; obtain rfl : i = n := by omega
              exact hend _
    | succ d ih =>
      intro i hi
      refine hstep i _ (by omega) ?_
      have := ih (i + 1) (by omega)
      simpa using this
  have := main n 0 (by omega)
  simpa using this

def mkI (n : Nat) (m : Int) : List Int := (List.range n).map fun j : Nat => m + (1 : Nat) * j
theorem mkI_len (n : Nat) (m : Int) : (mkI n m).length = n := by simp [mkI]
theorem markInt64S_ev (l : List Int) (m : Int) (h : l.length ≤ 1099511627776) (h0 : 0 ≤ m) (h1 : m ≤ 1099511627776) : Ev (fun k => laws_markInt64S.f k l m) (m + l.length, mkI l.length m) := by
  simp only [laws_markInt64S.f]
  have main := mark_loop 1 (fun m => m) l.length (fun k x m i => laws_markInt64S.l0 k x m i) m (fun x m hx => by
      refine Ev_shift ?_; simp only [laws_markInt64S.l0]
      exact Ev_neg (by omega) (Ev.now _))
    (fun i x r hi hx hr => by
      refine Ev_shift ?_; simp only [laws_markInt64S.l0]
      refine Ev_pos (by omega) (Ev_pos (by omega) ?_)
      rw [w64 (x := _ + 1) (by omega) (by omega), w64 (x := (i : Int) + 1) (by omega) (by omega), Int.toNat_natCast]
      have e : m + ((1 : Nat) : Int) * (i : Int) + 1 = m + ((1 : Nat) : Int) * ((i + 1 : Nat) : Int) := by omega
      rw [e]
      exact hr) l rfl
  simpa [mkI] using main
theorem heldInt64S_ev (n : Nat) (m : Int) (h : n ≤ 1099511627776) (h0 : 0 ≤ m) (h1 : m ≤ 1099511627776) : Ev (fun k => laws_heldInt64S.f k (mkI n m) m) (m + n) := by
  simp only [laws_heldInt64S.f]
  have main := held_loop 1 n (fun k q i => laws_heldInt64S.l0 k (mkI n m) q i) m (fun q => by
      refine Ev_shift ?_; simp only [laws_heldInt64S.l0, mkI_len]
      exact Ev_neg (by omega) (Ev.now _))
    (fun i r hi hr => by
      refine Ev_shift ?_; simp only [laws_heldInt64S.l0, mkI_len]
      have e0 : rd (mkI n m) (i : Int) = m + ((1 : Nat) : Int) * (i : Int) := by
        rw [rd_nat _ _ (by rw [mkI_len]; exact hi)]
        simp [mkI]
      refine Ev_pos (by omega) (Ev_pos (by omega) (Ev_pos e0 ?_))
      rw [w64 (x := _ + 1) (by omega) (by omega), w64 (x := (i : Int) + 1) (by omega) (by omega)]
      have e : m + ((1 : Nat) : Int) * (i : Int) + 1 = m + ((1 : Nat) : Int) * ((i + 1 : Nat) : Int) := by omega
      rw [e]
      exact hr)
  simpa using main
theorem markIndex_ev (a : Int) (l : List Int) (b c m : Int) (h : l.length ≤ 1048576) (h0 : 0 ≤ m) (h1 : m ≤ 1048576) : Ev (fun k => laws_markIndex.f k a l b c m) (m + l.length, mkI l.length m) := by
  simp only [laws_markIndex.f]
  exact Ev.bind (markInt64S_ev l m (by omega) h0 (by omega)) (Ev.now _)
theorem heldIndex_ev (a : Int) (n : Nat) (b c m : Int) (h : n ≤ 1048576) (h0 : 0 ≤ m) (h1 : m ≤ 1048576) : Ev (fun k => laws_heldIndex.f k a (mkI n m) b c m) (m + n) := by
  simp only [laws_heldIndex.f]
  exact Ev.bind (heldInt64S_ev n m (by omega) h0 (by omega)) (Ev_neg (by omega) (Ev.now _))
theorem eqIndexResult_ev (e f a : Int) (l : List Int) (b c : Int) (h : l.length ≤ 1048576) : Ev (fun k => laws_eqIndexResult.f k e f a l b c e f a l b c) true := by
  simp only [laws_eqIndexResult.f]
  refine Ev_pos (by first | trivial | rfl | simp) (Ev_pos (by first | trivial | rfl | simp) ?_)
  exact Ev.bind (eqIndex_ev a l b c (by omega)) (Ev_pos (by first | trivial | rfl | simp) (Ev.now _))
theorem markIndexResult_ev (e f a : Int) (l : List Int) (b c m : Int) (h : l.length ≤ 1048576) (h0 : 0 ≤ m) (h1 : m ≤ 1048576) : Ev (fun k => laws_markIndexResult.f k e f a l b c m) (m + l.length, mkI l.length m) := by
  simp only [laws_markIndexResult.f]
  exact Ev.bind (markIndex_ev a l b c m h h0 h1) (Ev.now _)
theorem heldIndexResult_ev (e f a : Int) (n : Nat) (b c m : Int) (h : n ≤ 1048576) (h0 : 0 ≤ m) (h1 : m ≤ 1048576) : Ev (fun k => laws_heldIndexResult.f k e f a (mkI n m) b c m) (m + n) := by
  simp only [laws_heldIndexResult.f]
  exact Ev.bind (heldIndex_ev a n b c m h h0 h1) (Ev_neg (by omega) (Ev.now _))

theorem l2Fault_f (l : List Int) : spec_l2Fault.f [(⟨l⟩ : S45)] = some (if (l.length : Int) > 400 then 2 else 0) := by
  simp only [spec_l2Fault.f, rd_T45, List.length_singleton]
  by_cases h : (l.length : Int) > 400 <;> simp [h]
theorem isLong_f (l : List Int) : impl_isLong.f l = some (decide ((l.length : Int) > 400)) := rfl
/-- A loop that goes on as long as a place answers yes: what it tells at the place where it ends. -/
def firstNot (p : Nat → Bool) : Nat → Nat → Nat
  | 0, i => i
  | d + 1, i => if p i then firstNot p d (i + 1) else i
theorem firstNot_le (p : Nat → Bool) : ∀ (d i : Nat), firstNot p d i ≤ i + d
  | 0, i => by simp [firstNot]
  | d + 1, i => by
    have := firstNot_le p d (i + 1)
    unfold firstNot
    split <;> omega
theorem find_loop {β : Type} (n : Nat) (p : Nat → Bool) (V : Nat → β) (G : Nat → Int → Option β)
    (hend : Ev (fun k => G k (n : Int)) (V n))
    (hstep : ∀ (i : Nat) (h : i < n) (r : β), p i = true → Ev (fun k => G k ((i : Int) + 1)) r → Ev (fun k => G k (i : Int)) r)
    (hstop : ∀ (i : Nat) (h : i < n), p i = false → Ev (fun k => G k (i : Int)) (V i)) : Ev (fun k => G k 0) (V (firstNot p n 0)) := by
  have main : ∀ (d i : Nat), i + d = n → Ev (fun k => G k (i : Int)) (V (firstNot p d i)) := by
    intro d
    induction d with
    | zero =>
      intro i hi
      obtain rfl : i = n := by omega
      exact hend
    | succ d ih =>
      intro i hi
      have hlt : i < n := by omega
      show Ev _ (V (if p i then firstNot p d (i + 1) else i))
      by_cases hp : p i = true
      · rw [if_pos hp]
        refine hstep i hlt _ hp ?_
        have := ih (i + 1) (by omega)
        simpa only [Int.natCast_add, Int.natCast_one] using this
      · rw [if_neg hp]
        exact hstop i hlt (by simpa using hp)
  exact main n 0 (by omega)

theorem cloneI_f (l : List Int) (h : l.length ≤ 1048576) : slices_Clone_int64_int64.f l = some l := by
  simp only [slices_Clone_int64_int64.f, Option.bind_some, List.length_nil, List.nil_append]
  rw [if_pos (by omega)]
theorem l4Copy_f (a : Int) (l : List Int) (b c : Int) (h : l.length ≤ 1048576) : spec_l4Copy.f a l b c = some (a, l, b, c) := by
  simp only [spec_l4Copy.f, Option.bind_some, List.length_nil, List.nil_append]
  rw [if_pos (by omega)]
theorem idxR_zero {d : Int} {s : List Int} {n m : Int} (h : idxR d s n m = 0) : (1 ≤ d ∧ d ≤ 9) ∧ (0 ≤ m ∧ m ≤ 400) ∧ (0 ≤ n ∧ n ≤ m) ∧ (s.length : Int) = Int.tdiv n d ∧ s.length ≤ 400 := by
  unfold idxR at h
  by_cases c : (1 ≤ d ∧ d ≤ 9) ∧ (0 ≤ m ∧ m ≤ 400) ∧ (0 ≤ n ∧ n ≤ m)
  · rw [if_pos c] at h
    by_cases c2 : (s.length : Int) = Int.tdiv n d
    · have := tdiv_bounds c.2.2.1 c.1.1
      exact ⟨c.1, c.2.1, c.2.2, c2, by omega⟩
    · rw [if_neg c2] at h; omega
  · rw [if_neg c] at h; omega
def lastI (s : List Int) (i : Int) : Int := if i = 0 then 0 else rd s (i - 1)
def cutAt (s : List Int) (a : Int) : Nat := firstNot (fun i => decide (rd s (i : Int) ≤ a)) s.length 0
theorem cutAt_le (s : List Int) (a : Int) : cutAt s a ≤ s.length := by have := firstNot_le (fun i => decide (rd s (i : Int) ≤ a)) s.length 0; unfold cutAt; omega
def cutI (d : Int) (s : List Int) (n m a : Int) : Int × List Int × Int × Int := if a ≥ m then (d, s, n, m) else (d, s.take (cutAt s a), (cutAt s a : Int) * d, lastI s (cutAt s a : Int))
def cutIR (d : Int) (s : List Int) (n m a : Int) : Int × Int × Int × List Int × Int × Int := if idxR d s n m = 0 then (if a < 0 then (3, 0, 0, [], 0, 0) else (0, 0, cutI d s n m a)) else (idxR d s n m, 0, 0, [], 0, 0)
theorem cutIR_len (d : Int) (s : List Int) (n m a : Int) (hs : s.length ≤ 1048576) : (cutIR d s n m a).2.2.2.1.length ≤ 1048576 := by
  unfold cutIR
  split
  · split
    · simp
    · unfold cutI
      split
      · exact hs
      · simp; omega
  · simp

/-- The starts and the lines behind a stretch of bytes. -/
def extF (d : Int) : List Int → Int → List Int → Int → List Int × Int
  | [], _, s, n => (s, n)
  | b :: bs, p, s, n => if b = 10 then (if Int.tmod (n + 1) d = 0 then extF d bs (p + 1) (s ++ [p + 1]) (n + 1) else extF d bs (p + 1) s (n + 1)) else extF d bs (p + 1) s n
theorem extF_len (d : Int) : ∀ (b : List Int) (p : Int) (s : List Int) (n : Int), (extF d b p s n).1.length ≤ s.length + b.length
  | [], _, _, _ => by simp [extF]
  | b :: bs, p, s, n => by
    have h1 := extF_len d bs (p + 1) (s ++ [p + 1]) (n + 1)
    have h2 := extF_len d bs (p + 1) s (n + 1)
    have h3 := extF_len d bs (p + 1) s n
    simp only [List.length_append, List.length_singleton] at h1
    unfold extF
    simp only [List.length_cons]
    split
    · split <;> omega
    · omega
theorem spec_ext_l0 (f : List Int) (hf : f.length ≤ 400) (d m : Int) (hd : 1 ≤ d) : ∀ (c i : Nat) (s : List Int) (n : Int), i + c = f.length → 0 ≤ n → n + c ≤ 100000 → s.length + c ≤ 100000 →
    Ev (fun k => spec_l4Extend.l0 k [(⟨f⟩ : S45)] (i : Int) d s n m) (d, (extF d (f.drop i) i s n).1, (extF d (f.drop i) i s n).2, (f.length : Int)) := by
  have hr : rd_T45 [(⟨f⟩ : S45)] 0 = ⟨f⟩ := rfl
  intro c
  induction c with
  | zero =>
    intro i s n hi _ _ _
    rw [List.drop_of_length_le (by omega)]
    refine Ev_shift ?_; simp only [spec_l4Extend.l0, hr]
    exact Ev_pos (by simp) (Ev_neg (by omega) (Ev.now _))
  | succ c ih =>
    intro i s n hi h0 h1 h2
    have hlt : i < f.length := by omega
    rw [List.drop_eq_getElem_cons hlt]
    refine Ev_shift ?_; simp only [spec_l4Extend.l0, hr]
    refine Ev_pos (by simp) (Ev_pos (by omega) (Ev_pos (by omega) ?_))
    rw [rd_nat f i hlt, w64 (x := (i : Int) + 1) (by omega) (by omega), w64 (x := n + 1) (by omega) (by omega)]
    unfold extF
    have e : ((i + 1 : Nat) : Int) = (i : Int) + 1 := by omega
    by_cases hb : f[i] = 10
    · refine Ev_pos hb (Ev_neg (by omega) ?_)
      by_cases ht : Int.tmod (n + 1) d = 0
      · refine Ev_pos ht (Ev_pos (by omega) ?_)
        have := ih (i + 1) (s ++ [(i : Int) + 1]) (n + 1) (by omega) (by omega) (by omega) (by simp; omega)
        rw [e] at this
        simpa only [if_pos hb, if_pos ht] using this
      · refine Ev_neg ht ?_
        have := ih (i + 1) s (n + 1) (by omega) (by omega) (by omega) (by omega)
        rw [e] at this
        simpa only [if_pos hb, if_neg ht] using this
    · refine Ev_neg hb ?_
      have := ih (i + 1) s n (by omega) (by omega) (by omega) (by omega)
      rw [e] at this
      simpa only [if_neg hb] using this
theorem spec_l4Extend_ev (d : Int) (s : List Int) (n : Int) (m : Nat) (f : List Int) (hf : f.length ≤ 400) (hm : m ≤ f.length) (hd : 1 ≤ d) (hn : 0 ≤ n ∧ n ≤ 50000) (hs : s.length ≤ 50000) :
    Ev (fun k => spec_l4Extend.f k d s n (m : Int) [(⟨f⟩ : S45)]) (d, (extF d (f.drop m) m s n).1, (extF d (f.drop m) m s n).2, (f.length : Int)) := by
  simp only [spec_l4Extend.f]
  refine Ev.bind (Ev_eq (l4Copy_f d s n m (by omega))) ?_
  exact spec_ext_l0 f hf d m hd (f.length - m) m s n (by omega) hn.1 (by omega) (by omega)
theorem extN_eq (d : Int) : ∀ (b : List Int) (p : Int) (s : List Int) (n : Int), extN d b p s n = extF d b p s n
  | [], _, _, _ => rfl
  | b :: bs, p, s, n => by
    simp only [extN, extF, extN_eq d bs]
theorem impl_extend_ev (d : Int) (s : List Int) (n : Int) (m : Nat) (f : List Int) (hf : f.length ≤ 400) (hm : m ≤ f.length) (hd : 1 ≤ d) (hn : 0 ≤ n ∧ n ≤ 50000) (hs : s.length ≤ 50000) :
    Ev (fun k => impl_Index_extend.f d s n (m : Int) f) (d, (extF d (f.drop m) m s n).1, (extF d (f.drop m) m s n).2, (f.length : Int)) := by
  refine Ev_eq ?_
  simp only [impl_Index_extend.f, extN_eq]
  rw [if_pos ⟨by omega, by omega, hd, by omega, by omega⟩, Int.toNat_natCast]
theorem fileFault_f (l : List Int) : impl_FileFault.f l = some (if (l.length : Int) > 400 then 2 else 0) := by
  simp only [impl_FileFault.f, isLong_f, Option.bind_some, decide_eq_true_eq]
  split <;> rfl
def askR (d : Int) (s : List Int) (n m : Int) (f : List Int) : Int := if idxR d s n m = 0 then (if (f.length : Int) > 400 then 2 else if (f.length : Int) < m then 6 else 0) else idxR d s n m
theorem spec_asked_ev (d : Int) (s : List Int) (n m : Int) (f : List Int) : Ev (fun k => spec_l4Asked.f k [(⟨d, s, n, m⟩ : S27)] [(⟨f⟩ : S45)]) (askR d s n m f) := by
  have hr : rd_T45 [(⟨f⟩ : S45)] 0 = ⟨f⟩ := rfl
  have hr2 : rd_T27 [(⟨d, s, n, m⟩ : S27)] 0 = ⟨d, s, n, m⟩ := rfl
  simp only [spec_l4Asked.f, l2Fault_f, hr, hr2]
  refine Ev.bind (spec_l4Fault_ev d s n m) ?_
  unfold askR
  by_cases h : idxR d s n m = 0
  · refine Ev_r (if_pos h) (Ev_pos h (Ev.bind (Ev_eq rfl) ?_))
    by_cases h2 : (f.length : Int) > 400
    · refine Ev_r (if_pos h2) (Ev_neg (by rw [if_pos h2]; omega) (Ev_eq ?_))
      rw [if_pos h2]
    · refine Ev_r (if_neg h2) (Ev_pos (by rw [if_neg h2]) (Ev_pos (by simp) (Ev_pos (by simp) (Ev_eq ?_))))
      split <;> rfl
  · exact Ev_r (if_neg h) (Ev_neg h (Ev.now _))
theorem impl_asked_ev (d : Int) (s : List Int) (n m : Int) (f : List Int) : Ev (fun k => impl_indexCode.f k d s n m f) (askR d s n m f) := by
  simp only [impl_indexCode.f, fileFault_f]
  refine Ev.bind (impl_IndexFault_ev d s n m) ?_
  unfold askR
  by_cases h : idxR d s n m = 0
  · refine Ev_r (if_pos h) (Ev_pos h (Ev.bind (Ev_eq rfl) ?_))
    by_cases h2 : (f.length : Int) > 400
    · refine Ev_r (if_pos h2) (Ev_neg (by rw [if_pos h2]; omega) (Ev_eq ?_))
      rw [if_pos h2]
    · refine Ev_r (if_neg h2) (Ev_pos (by rw [if_neg h2]) (Ev_eq ?_))
      split <;> rfl
  · exact Ev_r (if_neg h) (Ev_neg h (Ev.now _))
theorem askR_zero {d : Int} {s : List Int} {n m : Int} {f : List Int} (h : askR d s n m f = 0) : idxR d s n m = 0 ∧ f.length ≤ 400 ∧ m ≤ f.length := by
  unfold askR at h
  by_cases c : idxR d s n m = 0
  · rw [if_pos c] at h
    by_cases c2 : (f.length : Int) > 400
    · rw [if_pos c2] at h; omega
    · rw [if_neg c2] at h
      by_cases c3 : (f.length : Int) < m
      · rw [if_pos c3] at h; omega
      · exact ⟨c, by omega, by omega⟩
  · rw [if_neg c] at h; exact absurd h c

theorem toByteS_ev (l : List Int) (h : l.length ≤ 1048576) : Ev (fun k => laws_toByteS.f k l) l := by
  have main := fill_loop l (fun x => x) (fun k x i => laws_toByteS.l0 k l x i) (fun x => by
      refine Ev_shift ?_; simp only [laws_toByteS.l0]
      exact Ev_neg (by omega) (Ev.now _))
    (fun i hi x r hx hr => by
      refine Ev_shift ?_; simp only [laws_toByteS.l0]
      refine Ev_pos (by omega) (Ev_pos (by omega) (Ev_pos (by omega) ?_))
      rw [w64 (by omega) (by omega), rd_nat l i hi]
      simpa using hr)
    (List.replicate l.length 0) (by simp)
  simp only [laws_toByteS.f]
  refine Ev_pos (by omega) (Ev_pos (by omega) ?_)
  simpa using main
theorem eqByteS_ev (l : List Int) (h : l.length ≤ 9223372036854775807) : Ev (fun k => laws_eqByteS.f k l l) true := by
  simp only [laws_eqByteS.f]
  refine Ev_pos (by first | trivial | rfl | simp) ?_
  refine same_loop l.length (fun k i => laws_eqByteS.l0 k l l i) ?_ ?_
  · refine Ev_shift ?_; simp only [laws_eqByteS.l0]
    exact Ev_neg (by omega) (Ev.now _)
  · intro i hi hr
    refine Ev_shift ?_; simp only [laws_eqByteS.l0]
    refine Ev_pos (by omega) (Ev_pos (by omega) (Ev_pos (by omega) (Ev_pos (by first | trivial | rfl | simp) ?_)))
    rw [w64 (by omega) (by omega)]
    exact hr

theorem szByteS_f (l : List Int) (n : Int) (hl : l.length ≤ maxLen) (h0 : 0 ≤ n) (h1 : n ≤ 1048576) : (l.length ≤ n ∧ laws_szByteS.f l n = some (n - l.length)) ∨ laws_szByteS.f l n = some (-1) := by
  have := maxLen_le
  simp only [laws_szByteS.f, w64 (show -9223372036854775808 ≤ n - (l.length : Int) by omega) (by omega)]
  by_cases h : n - (l.length : Int) < 0
  · exact .inr (if_pos h)
  · exact .inl ⟨by omega, if_neg h⟩
theorem szFile_f (l : List Int) (n : Int) (hl : l.length ≤ maxLen) (h0 : 0 ≤ n) (h1 : n ≤ 1048576) : (l.length ≤ n ∧ laws_szFile.f l n = some (n - l.length)) ∨ laws_szFile.f l n = some (-1) := by
  simp only [laws_szFile.f]
  rcases szByteS_f l n hl h0 h1 with ⟨h, e⟩ | e
  · exact .inl ⟨h, by rw [e, Option.bind_some, if_neg (by omega)]⟩
  · exact .inr (by rw [e]; rfl)
theorem toFile_ev (l : List Int) (h : l.length ≤ 1048576) : Ev (fun k => laws_toFile.f k l) l := by
  simp only [laws_toFile.f]
  exact Ev.bind (toByteS_ev l h) (Ev.now _)
theorem eqFile_ev (l : List Int) (h : l.length ≤ 1048576) : Ev (fun k => laws_eqFile.f k l l) true := by
  simp only [laws_eqFile.f]
  exact Ev.bind (eqByteS_ev l (by omega)) (Ev_pos (by first | trivial | rfl | simp) (Ev.now _))

def mkB (n : Nat) (m : Int) : List Int := (List.range n).map fun j : Nat => (m + (1 : Nat) * j) % 256
theorem mkB_len (n : Nat) (m : Int) : (mkB n m).length = n := by simp [mkB]
theorem markByteS_ev (l : List Int) (m : Int) (h : l.length ≤ 1099511627776) (h0 : 0 ≤ m) (h1 : m ≤ 1099511627776) : Ev (fun k => laws_markByteS.f k l m) (m + l.length, mkB l.length m) := by
  simp only [laws_markByteS.f]
  have main := mark_loop 1 (fun m => m % 256) l.length (fun k x m i => laws_markByteS.l0 k x m i) m (fun x m hx => by
      refine Ev_shift ?_; simp only [laws_markByteS.l0]
      exact Ev_neg (by omega) (Ev.now _))
    (fun i x r hi hx hr => by
      refine Ev_shift ?_; simp only [laws_markByteS.l0]
      refine Ev_pos (by omega) (Ev_pos (by omega) ?_)
      rw [w64 (x := _ + 1) (by omega) (by omega), w64 (x := (i : Int) + 1) (by omega) (by omega), Int.toNat_natCast]
      have e : m + ((1 : Nat) : Int) * (i : Int) + 1 = m + ((1 : Nat) : Int) * ((i + 1 : Nat) : Int) := by omega
      rw [e]
      exact hr) l rfl
  simpa [mkB] using main
theorem markFile_ev (l : List Int) (m : Int) (h : l.length ≤ 1048576) (h0 : 0 ≤ m) (h1 : m ≤ 1099511627776) : Ev (fun k => laws_markFile.f k l m) (m + l.length, mkB l.length m) := by
  simp only [laws_markFile.f]
  exact Ev.bind (markByteS_ev l m (by omega) h0 h1) (Ev.now _)
def extIR (d : Int) (s : List Int) (n m : Int) (f : List Int) : Int × Int × Int × List Int × Int × Int :=
  if askR d s n m f = 0 then (0, 0, d, (extF d (f.drop m.toNat) m s n).1, (extF d (f.drop m.toNat) m s n).2, (f.length : Int)) else (askR d s n m f, 0, 0, [], 0, 0)
theorem extIR_len (d : Int) (s : List Int) (n m : Int) (f : List Int) : (extIR d s n m f).2.2.2.1.length ≤ 1048576 := by
  unfold extIR
  by_cases h : askR d s n m f = 0
  · rw [if_pos h]
    obtain ⟨hz, hf, hm⟩ := askR_zero h
    have hz' := idxR_zero hz
    have hl := extF_len d (f.drop m.toNat) m s n
    rw [List.length_drop] at hl
    show (extF d (f.drop m.toNat) m s n).1.length ≤ 1048576
    omega
  · rw [if_neg h]; simp
theorem spec_ExtendIndex_ev (d : Int) (s : List Int) (n m : Int) (f : List Int) : Ev (fun k => spec_ExtendIndex.f k d s n m f) (extIR d s n m f) := by
  simp only [spec_ExtendIndex.f, spec_l4Bad.f]
  refine Ev.bind (spec_asked_ev d s n m f) ?_
  unfold extIR
  by_cases h : askR d s n m f = 0
  · refine Ev_r (if_pos h) (Ev_pos h ?_)
    obtain ⟨hz, hf, hm⟩ := askR_zero h
    have hz' := idxR_zero hz
    have hx := spec_l4Extend_ev d s n m.toNat f hf (by omega) hz'.1.1 (by omega) (by omega)
    rw [Int.toNat_of_nonneg (by omega)] at hx
    exact Ev.bind hx (Ev.now _)
  · exact Ev_r (if_neg h) (Ev_neg h (Ev.now _))
theorem impl_ExtendIndex_ev (d : Int) (s : List Int) (n m : Int) (f : List Int) : Ev (fun k => impl_ExtendIndex.f k d s n m f) (extIR d s n m f) := by
  simp only [impl_ExtendIndex.f]
  refine Ev.bind (impl_asked_ev d s n m f) ?_
  unfold extIR
  by_cases h : askR d s n m f = 0
  · refine Ev_r (if_pos h) (Ev_pos h ?_)
    obtain ⟨hz, hf, hm⟩ := askR_zero h
    have hz' := idxR_zero hz
    have hx := impl_extend_ev d s n m.toNat f hf (by omega) hz'.1.1 (by omega) (by omega)
    rw [Int.toNat_of_nonneg (by omega)] at hx
    exact Ev.bind hx (Ev.now _)
  · exact Ev_r (if_neg h) (Ev_neg h (Ev.now _))
theorem FnExactExtendIndex : laws_FnExactExtendIndex.Pure := by
  intro a l b c f _ hl _ _ _ hf _
  refine Ev.rounds ?_
  simp only [laws_FnExactExtendIndex.f]
  rcases szIndex_f a l b c 1048576 hl (by omega) (by omega) with ⟨h, e⟩ | e
  · have h0 := Ev_eq e
    have hs : l.length ≤ 1048576 := by omega
    rcases szFile_f f (1048576 - (l.length : Int)) hf (by omega) (by omega) with ⟨h', e'⟩ | e'
    · have h00 := Ev_eq e'
      have hs' : f.length ≤ 1048576 := by omega
      have h1 := toIndex_ev a l b c hs
      have h1' := toFile_ev f hs'
      have h2 := spec_ExtendIndex_ev a l b c f
      have h3 := impl_ExtendIndex_ev a l b c f
      have h4 := eqIndex_ev a l b c (by omega)
      have h4' := eqFile_ev f hs'
      have h5 := markIndex_ev a l b c 1 hs (by omega) (by omega)
      have h5' := markFile_ev f (1 + l.length) hs' (by omega) (by omega)
      have hr := extIR_len a l b c f
      generalize extIR a l b c f = r at *
      obtain ⟨r1, r2, r3, q, r4, r5⟩ := r
      dsimp only at hr
      have h6 := eqIndexResult_ev r1 r2 r3 q r4 r5 hr
      have h7 := markIndexResult_ev r1 r2 r3 q r4 r5 1 hr (by omega) (by omega)
      have h8 := heldIndexResult_ev r1 r2 r3 q.length r4 r5 1 hr (by omega) (by omega)
      repeat' first | with_reducible exact Ev.now _ | (with_reducible refine Ev.bind (by with_reducible assumption) ?_; try dsimp only) | (with_reducible refine Ev_pos ?hc_ ?_; (case hc_ => first | omega | (simp; done))) | (with_reducible refine Ev_neg ?hc_ ?_; (case hc_ => first | omega | (simp; done))) | (refine Ev_shift ?_; simp only [laws_FnExactExtendIndex.j0])
    · refine Ev.bind h0 (Ev_neg (by omega) ?_)
      exact Ev_pre e' (Ev_pos (by omega) (Ev.now _))
  · exact Ev_pre e (Ev_pos (by omega) (Ev.now _))

end Go.Proofs.Ytljpfppkpjodiaa.Pure
