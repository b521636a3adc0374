/- the program's NodesFault tells what the reference's tells, for all nodes. Under no condition. -/
import Derived.Test.YtaknnpphhbgfiaaPFnExactNodesFaultx7
set_option linter.unusedVariables false
set_option linter.unusedSimpArgs false
namespace Go.Proofs.Ytaknnpphhbgfiaa.Pure
open Go.RowKit Go.Proofs.Ytaknnpphhbgfiaa.PFnExactNodesFault Go.Proofs.YtaknnpphhbgfiaaW.PrintWords Go.Proofs.YtaknnpphhbgfiaaW.PrintLast

theorem w64 {x : Int} (h0 : -9223372036854775808 ≤ x) (h1 : x ≤ 9223372036854775807) : wrap64 x = x := by unfold wrap64; omega
theorem Ev_shift {α : Type} {g : Nat → Option α} {r : α} (h : Ev (fun k => g (k + 1)) r) : Ev g r := Ev.step (f := fun k => g (k + 1)) (fun _ => rfl) h
theorem Ev_pos {α : Type} {c : Prop} [Decidable c] (hc : c) {a b : Nat → Option α} {r : α} (h : Ev a r) : Ev (fun k => if c then a k else b k) r := by
  simpa only [if_pos hc] using h
theorem Ev_neg {α : Type} {c : Prop} [Decidable c] (hc : ¬ c) {a b : Nat → Option α} {r : α} (h : Ev b r) : Ev (fun k => if c then a k else b k) r := by
  simpa only [if_neg hc] using h
theorem Ev_pre {α β : Type} {g : Option α} {a : α} {f : Nat → α → Option β} {r : β} (h : g = some a) (k : Ev (fun n => f n a) r) : Ev (fun n => g.bind (f n)) r := by
  subst h; exact k
theorem Ev_eq {α : Type} {g : Option α} {r : α} (h : g = some r) : Ev (fun _ => g) r := by subst h; exact Ev.now r
theorem Ev_r {α : Type} {g : Nat → Option α} {r r' : α} (e : r = r') (h : Ev g r') : Ev g r := e ▸ h
theorem maxLen_le : maxLen ≤ 9223372036854775807 := by unfold maxLen; omega
theorem rd_nat (l : List Int) (i : Nat) (h : i < l.length) : rd l (i : Int) = l[i] := by simp [rd, h]
/-- A loop that fills a row with what it makes of another one's elements. -/
theorem fill_loop {α β : Type} (l : List α) (c : α → β) (G : Nat → List β → Int → Option (List β))
    (hend : ∀ x, Ev (fun k => G k x (l.length : Int)) x)
    (hstep : ∀ (i : Nat) (h : i < l.length) (x : List β) (r : List β), x.length = l.length → Ev (fun k => G k (x.set i (c l[i])) ((i : Int) + 1)) r → Ev (fun k => G k x (i : Int)) r)
    (x : List β) (hx : x.length = l.length) : Ev (fun k => G k x 0) (l.map c) := by
  have main : ∀ (d i : Nat) (x : List β), x.length = l.length → i + d = l.length → (∀ (j : Nat) (hj : j < i) (hl : j < l.length) (hx : j < x.length), x[j] = c l[j]) → Ev (fun k => G k x (i : Int)) (l.map c) := by
    intro d
    induction d with
    | zero =>
      intro i x hx hi hp
      obtain rfl : i = l.length := by omega
      have : x = l.map c := by
        apply List.ext_getElem (by simp [hx])
        intro j h1 h2
        rw [List.getElem_map]
        exact hp j (by omega) (by omega) h1
      rw [← this]
      exact hend x
    | succ d ih =>
      intro i x hx hi hp
      refine hstep i (by omega) x _ hx ?_
      have := ih (i + 1) (x.set i (c (l[i]'(by omega)))) (by simp [hx]) (by omega) (fun j hj hl hx' => by
        rw [List.getElem_set]
        split
        · rename_i e; subst e; rfl
        · exact hp j (by omega) hl (by simpa using hx'))
      simpa using this
  have := main l.length 0 x hx (by omega) (fun j hj => absurd hj (by omega))
  simpa using this
/-- A loop that goes through all places and finds nothing amiss. -/
theorem same_loop (n : Nat) (G : Nat → Int → Option Bool) (hend : Ev (fun k => G k (n : Int)) true)
    (hstep : ∀ i : Nat, i < n → Ev (fun k => G k ((i : Int) + 1)) true → Ev (fun k => G k (i : Int)) true) : Ev (fun k => G k 0) true := by
  have main : ∀ (d i : Nat), i + d = n → Ev (fun k => G k (i : Int)) true := by
    intro d
    induction d with
    | zero => intro i hi; obtain rfl : i = n := by omega
              exact hend
    | succ d ih =>
      intro i hi
      refine hstep i (by omega) ?_
      have := ih (i + 1) (by omega)
      simpa using this
  have := main n 0 (by omega)
  simpa using this

def cvN (x : S47) : S48 := ⟨x.f0, x.f1, x.f2, x.f3, x.f4⟩
theorem rdN (l : List (S48)) (i : Nat) (h : i < l.length) : rd_T48 l (i : Int) = l[i] := by simp [rd_T48, h]
theorem rdN' (l : List (S47)) (i : Nat) (h : i < l.length) : rd_T47 l (i : Int) = l[i] := by simp [rd_T47, h]
theorem szNode_f (x : S47) (m : Int) (h : x.f2.size ≤ maxLen) (h0 : 0 ≤ m) (h1 : m ≤ 1048576) : laws_szNode.f x.f0 x.f1 x.f2 x.f3 x.f4 m = some (if m - (x.f2.size : Int) < 0 then -1 else m - (x.f2.size : Int)) := by
  have := maxLen_le
  simp only [laws_szNode.f, w64 (show -9223372036854775808 ≤ m - (x.f2.size : Int) by omega) (by omega)]
  split <;> rfl
theorem szNodeS_l0 (l : List (S47)) (n : Int) (hl : l.length ≤ 1048576) (hx : ∀ x ∈ l, x.f2.size ≤ maxLen) (h1 : n ≤ 1048576) : ∀ (d i : Nat) (m : Int), i + d = l.length → 0 ≤ m → m ≤ n →
    ∃ r, Ev (fun k => laws_szNodeS.l0 k l m (i : Int)) r ∧ r ≤ m ∧ (0 ≤ r → ∀ (j : Nat) (h : j < l.length), i ≤ j → (l[j].f2.size : Int) ≤ n) := by
  intro d
  induction d with
  | zero =>
    intro i m hi h0 hm
    obtain rfl : i = l.length := by omega
    refine ⟨m, ?_, by omega, fun _ j h hij => by omega⟩
    refine Ev_shift ?_; simp only [laws_szNodeS.l0]
    exact Ev_neg (by omega) (Ev.now _)
  | succ d ih =>
    intro i m hi h0 hm
    have hlt : i < l.length := by omega
    have hs := hx l[i] (List.getElem_mem hlt)
    have hf := szNode_f l[i] m hs h0 (by omega)
    by_cases hc : m - (l[i].f2.size : Int) < 0
    · refine ⟨-1, ?_, by omega, fun hr => by omega⟩
      refine Ev_shift ?_; simp only [laws_szNodeS.l0]
      refine Ev_pos (by omega) (Ev_pos (by omega) ?_)
      rw [rdN' l i hlt]
      refine Ev.bind (Ev_eq hf) ?_
      rw [if_pos hc]
      exact Ev_pos (by omega) (Ev.now _)
    · obtain ⟨r, he, hr, hk⟩ := ih (i + 1) (m - (l[i].f2.size : Int)) (by omega) (by omega) (by omega)
      refine ⟨r, ?_, by omega, fun h => ?_⟩
      · refine Ev_shift ?_; simp only [laws_szNodeS.l0]
        refine Ev_pos (by omega) (Ev_pos (by omega) ?_)
        rw [rdN' l i hlt]
        refine Ev.bind (Ev_eq hf) ?_
        rw [if_neg hc]
        refine Ev_neg (by omega) ?_
        rw [w64 (by omega) (by omega)]
        simpa only [Int.natCast_add, Int.natCast_one] using he
      · intro j hj hij
        by_cases hji : j = i
        · subst hji; omega
        · exact hk h j hj (by omega)
theorem szNodeS_ev (l : List (S47)) (n : Int) (hl : l.length ≤ maxLen) (hx : ∀ x ∈ l, x.f2.size ≤ maxLen) (h0 : 0 ≤ n) (h1 : n ≤ 1048576) :
    ∃ r, Ev (fun k => laws_szNodeS.f k l n) r ∧ r ≤ n ∧ (0 ≤ r → (l.length : Int) ≤ n ∧ ∀ x ∈ l, (x.f2.size : Int) ≤ n) := by
  have := maxLen_le
  simp only [laws_szNodeS.f]
  rw [w64 (x := n - (l.length : Int)) (by omega) (by omega)]
  by_cases hc : n - (l.length : Int) < 0
  · exact ⟨-1, Ev_pos hc (Ev.now _), by omega, fun h => by omega⟩
  · obtain ⟨r, he, hr, hk⟩ := szNodeS_l0 l n (by omega) hx h1 l.length 0 (n - (l.length : Int)) (by omega) (by omega) (by omega)
    refine ⟨r, Ev_neg hc he, by omega, fun h => ⟨by omega, fun x hxl => ?_⟩⟩
    obtain ⟨j, hj, rfl⟩ := List.getElem_of_mem hxl
    exact hk h j hj (by omega)
theorem toNodeS_ev (l : List (S47)) (h : l.length ≤ 1048576) : Ev (fun k => laws_toNodeS.f k l) (l.map cvN) := by
  have main := fill_loop l cvN (fun k x i => laws_toNodeS.l0 k l x i) (fun x => by
      refine Ev_shift ?_; simp only [laws_toNodeS.l0]
      exact Ev_neg (by omega) (Ev.now _))
    (fun i hi x r hx hr => by
      refine Ev_shift ?_; simp only [laws_toNodeS.l0]
      refine Ev_pos (by omega) (Ev_pos (by omega) (Ev.bind (Ev_eq (by simp only [laws_toNode.f]; rfl)) (Ev_pos (by omega) ?_)))
      rw [w64 (by omega) (by omega), rdN' l i hi, Int.toNat_natCast]
      exact hr)
    (List.replicate l.length z48) (by simp)
  simp only [laws_toNodeS.f]
  refine Ev_pos (by omega) (Ev_pos (by omega) ?_)
  rw [Int.toNat_natCast]
  exact main
theorem eqNodeS_ev (l : List (S48)) (h : l.length ≤ 1048576) : Ev (fun k => laws_eqNodeS.f k l l) true := by
  simp only [laws_eqNodeS.f]
  refine Ev_pos (by first | trivial | rfl | simp) ?_
  refine same_loop l.length (fun k i => laws_eqNodeS.l0 k l l i) ?_ ?_
  · refine Ev_shift ?_; simp only [laws_eqNodeS.l0]
    exact Ev_neg (by omega) (Ev.now _)
  · intro i hi hr
    refine Ev_shift ?_; simp only [laws_eqNodeS.l0]
    refine Ev_pos (by omega) (Ev_pos (by omega) (Ev_pos (by omega) (Ev.bind (Ev_eq (r := true) (by simp [laws_eqNode.f])) (Ev_pos (by first | trivial | rfl | simp) ?_))))
    rw [w64 (by omega) (by omega)]
    exact hr

/-- A loop that asks each place, and ends at the first one that answers. -/
def askTo {β : Type} (p : Nat → Bool) (bad good : β) : Nat → Nat → β
  | 0, _ => good
  | d + 1, i => if p i then askTo p bad good d (i + 1) else bad
theorem askTo_loop {β : Type} (n : Nat) (p : Nat → Bool) (bad good : β) (G : Nat → Int → Option β)
    (hend : Ev (fun k => G k (n : Int)) good)
    (hstep : ∀ (i : Nat) (h : i < n) (r : β), p i = true → Ev (fun k => G k ((i : Int) + 1)) r → Ev (fun k => G k (i : Int)) r)
    (hbad : ∀ (i : Nat) (h : i < n), p i = false → Ev (fun k => G k (i : Int)) bad) : Ev (fun k => G k 0) (askTo p bad good n 0) := by
  have main : ∀ (d i : Nat), i + d = n → Ev (fun k => G k (i : Int)) (askTo p bad good d i) := by
    intro d
    induction d with
    | zero =>
      intro i hi
      obtain rfl : i = n := by omega
      exact hend
    | succ d ih =>
      intro i hi
      have hlt : i < n := by omega
      show Ev _ (if p i then askTo p bad good d (i + 1) else bad)
      by_cases hp : p i = true
      · rw [if_pos hp]
        refine hstep i hlt _ hp ?_
        have := ih (i + 1) (by omega)
        simpa only [Int.natCast_add, Int.natCast_one] using this
      · rw [if_neg hp]
        exact hbad i hlt (by simpa using hp)
  exact main n 0 (by omega)

theorem f_dec_eq {p q : Prop} [Decidable p] [Decidable q] (h : p ↔ q) : decide p = decide q := decide_eq_decide.mpr h
theorem f_in (a b c : Int) : spec_l1In.f a b c = some (decide (b ≤ a ∧ a ≤ c)) := by
  simp only [spec_l1In.f]
  by_cases h : a ≥ b
  · rw [if_pos h]; exact congrArg some (f_dec_eq (by omega))
  · rw [if_neg h]; exact congrArg some (decide_eq_false (by omega)).symm
theorem f_within (a b c : Int) : impl_within.f a b c = some (decide (b ≤ a ∧ a ≤ c)) := by
  simp only [impl_within.f]
  by_cases h : b ≤ a
  · rw [if_pos h]; exact congrArg some (f_dec_eq (by omega))
  · rw [if_neg h]; exact congrArg some (decide_eq_false (by omega)).symm

theorem beqI (a b : Int) : (a == b) = decide (a = b) := by rw [Bool.eq_iff_iff]; simp
theorem f_has (a : Int) : spec_l5Has.f a = some (decide (a = 4 ∨ a = 5)) := by
  simp only [spec_l5Has.f]
  by_cases h : a = 4 <;> by_cases h2 : a = 5 <;> simp [h, h2]
theorem f_two (a : Int) : spec_l5Two.f a = some (decide (11 ≤ a ∧ a ≤ 12)) := by
  simp only [spec_l5Two.f]
  by_cases h : a = 11
  · rw [if_pos h]; exact congrArg some (decide_eq_true (by omega)).symm
  · rw [if_neg h, beqI]; exact congrArg some (f_dec_eq (by omega))
theorem f_one (a : Int) : spec_l5One.f a = some (decide (8 ≤ a ∧ a ≤ 10)) := by
  simp only [spec_l5One.f, f_in, Option.bind_some]
theorem i_one (a : Int) : impl_isOneKind.f a = some (decide (8 ≤ a ∧ a ≤ 10)) := by
  simp only [impl_isOneKind.f, f_within, Option.bind_some]
theorem i_two (a : Int) : impl_isTwoKind.f a = some (decide (11 ≤ a ∧ a ≤ 12)) := by
  simp only [impl_isTwoKind.f, f_within, Option.bind_some]
theorem i_has (a : Int) : impl_hasSet.f a = some (decide (a = 4 ∨ a = 5)) := by
  simp only [impl_hasSet.f]
  by_cases h : a = 4 <;> by_cases h2 : a = 5 <;> simp [h, h2]
theorem i_printed (a : Int) : impl_isPrinted.f a = some (decide (32 ≤ a ∧ a ≤ 126)) := by
  simp only [impl_isPrinted.f, f_within, Option.bind_some]
def setP (s : ByteArray) (i : Nat) : Bool := decide (32 ≤ bt s (i : Int) ∧ bt s (i : Int) ≤ 126 ∧ (i = 0 ∨ bt s ((i : Int) - 1) < bt s (i : Int)))
def setN (s : ByteArray) : Bool := askTo (setP s) false (decide (1 ≤ (s.size : Int) ∧ (s.size : Int) ≤ 20)) s.size 0
theorem spec_set_ev (s : ByteArray) (h : s.size ≤ 1048576) : Ev (fun k => spec_l5Set.f k s) (setN s) := by
  simp only [spec_l5Set.f]
  refine askTo_loop s.size (setP s) false _ (fun k i => spec_l5Set.l0 k s i) ?_ ?_ ?_
  · refine Ev_shift ?_; simp only [spec_l5Set.l0]
    refine Ev_neg (by omega) (Ev.bind (Ev_eq (f_in _ _ _)) (Ev.now _))
  · intro i hi r hp hr
    simp only [setP, decide_eq_true_eq] at hp
    refine Ev_shift ?_; simp only [spec_l5Set.l0]
    refine Ev_pos (by omega) (Ev_pos (by omega) (Ev_neg (by omega) (Ev_neg (by omega) ?_)))
    rw [w64 (x := (i : Int) + 1) (by omega) (by omega)]
    by_cases h0 : i = 0
    · exact Ev_neg (by omega) hr
    · refine Ev_pos (by omega) ?_
      rw [w64 (by omega) (by omega)]
      exact Ev_pos (by omega) (Ev_pos (by omega) (Ev_neg (by omega) hr))
  · intro i hi hp
    simp only [setP, decide_eq_false_iff_not] at hp
    refine Ev_shift ?_; simp only [spec_l5Set.l0]
    refine Ev_pos (by omega) (Ev_pos (by omega) ?_)
    by_cases c1 : bt s (i : Int) < 32
    · exact Ev_pos c1 (Ev.now _)
    · refine Ev_neg c1 ?_
      by_cases c2 : bt s (i : Int) > 126
      · exact Ev_pos c2 (Ev.now _)
      · refine Ev_neg c2 ?_
        have h0 : i ≠ 0 := fun e => hp ⟨by omega, by omega, .inl e⟩
        have h1 : ¬ bt s ((i : Int) - 1) < bt s (i : Int) := fun e => hp ⟨by omega, by omega, .inr e⟩
        refine Ev_pos (by omega) ?_
        rw [w64 (x := (i : Int) - 1) (by omega) (by omega)]
        exact Ev_pos (by omega) (Ev_pos (by omega) (Ev_pos (by omega) (Ev.now _)))
theorem impl_set_ev (s : ByteArray) (h : s.size ≤ 1048576) : Ev (fun k => impl_isSet.f k s) (setN s) := by
  simp only [impl_isSet.f]
  refine askTo_loop s.size (setP s) false _ (fun k i => impl_isSet.l0 k s s.size i) ?_ ?_ ?_
  · refine Ev_shift ?_; simp only [impl_isSet.l0]
    refine Ev_neg (by omega) (Ev.bind (Ev_eq (f_within _ _ _)) (Ev.now _))
  · intro i hi r hp hr
    simp only [setP, decide_eq_true_eq] at hp
    have hb := bt_range s (i : Int)
    refine Ev_shift ?_; simp only [impl_isSet.l0]
    rw [w64 (x := bt s (i : Int)) (by omega) (by omega)]
    refine Ev_pos (by omega) (Ev_pos (by omega) (Ev_pos (by omega) (Ev.bind (Ev_eq (i_printed _)) (Ev_pos (decide_eq_true (by omega)) ?_))))
    rw [w64 (x := (i : Int) + 1) (by omega) (by omega)]
    by_cases h0 : i = 0
    · exact Ev_neg (by omega) hr
    · refine Ev_pos (by omega) ?_
      rw [w64 (x := (i : Int) - 1) (by omega) (by omega)]
      exact Ev_pos (by omega) (Ev_pos (by omega) (Ev_neg (by omega) hr))
  · intro i hi hp
    simp only [setP, decide_eq_false_iff_not] at hp
    have hb := bt_range s (i : Int)
    refine Ev_shift ?_; simp only [impl_isSet.l0]
    rw [w64 (x := bt s (i : Int)) (by omega) (by omega)]
    refine Ev_pos (by omega) (Ev_pos (by omega) (Ev_pos (by omega) (Ev.bind (Ev_eq (i_printed _)) ?_)))
    by_cases c1 : 32 ≤ bt s (i : Int) ∧ bt s (i : Int) ≤ 126
    · refine Ev_pos (decide_eq_true c1) ?_
      have h0 : i ≠ 0 := fun e => hp ⟨by omega, by omega, .inl e⟩
      have h1 : ¬ bt s ((i : Int) - 1) < bt s (i : Int) := fun e => hp ⟨by omega, by omega, .inr e⟩
      refine Ev_pos (by omega) ?_
      rw [w64 (x := (i : Int) - 1) (by omega) (by omega)]
      exact Ev_pos (by omega) (Ev_pos (by omega) (Ev_pos (by omega) (Ev.now _)))
    · exact Ev_neg (by simpa using c1) (Ev.now _)
/-- A node's form. -/
def tailN (x : S48) : Bool := decide (((11 ≤ x.f0 ∧ x.f0 ≤ 12) ∨ x.f4 = 0) ∧ ((11 ≤ x.f0 ∧ x.f0 ≤ 12) ∨ (8 ≤ x.f0 ∧ x.f0 ≤ 10) ∨ x.f3 = 0))
def headN (x : S48) : Bool := decide ((1 ≤ x.f0 ∧ x.f0 ≤ 12) ∧ (x.f0 = 2 ∨ x.f1 = 0) ∧ ((x.f0 = 4 ∨ x.f0 = 5) ∨ x.f2.toList = []))
def formN (x : S48) : Bool := headN x && tailN x
def codeN (x : S48) : Int := if formN x = true then (if (x.f0 = 2 ∧ ¬ (32 ≤ x.f1 ∧ x.f1 ≤ 126)) ∨ ((x.f0 = 4 ∨ x.f0 = 5) ∧ setN x.f2 = false) then 3 else 0) else 1
theorem spec_form_j0 (x : S48) (b : Bool) : Ev (fun k => spec_l5Form.j0 k [x] b) (if b = true then false else tailN x) := by
  refine Ev_shift ?_; simp only [spec_l5Form.j0]
  have hr : rd_T48 [x] 0 = x := rfl
  cases b with
  | true => exact Ev_pos (by first | trivial | rfl | simp) (Ev.now _)
  | false =>
    refine Ev_neg (by simp) (Ev_r (if_neg (by simp)) (Ev_pos (by simp) (Ev_eq ?_)))
    simp only [hr, f_two, f_one, Option.bind_some, decide_eq_true_eq, beqI, tailN]
    by_cases c1 : 11 ≤ x.f0 ∧ x.f0 ≤ 12
    · simp [c1]
    · rw [if_neg c1]
      by_cases c2 : x.f4 = 0
      · rw [if_pos c2, if_neg c1]
        by_cases c3 : 8 ≤ x.f0 ∧ x.f0 ≤ 10
        · simp [c2, c3]
        · rw [if_neg c3]; exact congrArg some (f_dec_eq ⟨fun e => ⟨.inr c2, .inr (.inr e)⟩, fun e => e.2.elim (absurd · c1) (fun e => e.elim (absurd · c3) id)⟩)
      · rw [if_neg c2]; exact congrArg some (decide_eq_false (fun e => e.1.elim c1 c2)).symm
theorem spec_form_ev (x : S48) : Ev (fun k => spec_l5Form.f k [x]) (formN x) := by
  simp only [spec_l5Form.f]
  have hr : rd_T48 [x] 0 = x := rfl
  simp only [hr, f_in, f_has]
  refine Ev_pos (by simp) (Ev.bind (Ev_eq rfl) ?_)
  unfold formN
  by_cases c1 : 1 ≤ x.f0 ∧ x.f0 ≤ 12
  · refine Ev_pos (decide_eq_true c1) ?_
    have key : (x.f0 = 2 ∨ x.f1 = 0) → Ev (fun k => (some (decide (x.f0 = 4 ∨ x.f0 = 5))).bind fun t => if t = true then spec_l5Form.j0 k [x] false else spec_l5Form.j0 k [x] (x.f2.toList != ([] : List UInt8))) (headN x && tailN x) := by
      intro c2
      refine Ev.bind (Ev_eq rfl) ?_
      by_cases c3 : x.f0 = 4 ∨ x.f0 = 5
      · refine Ev_pos (decide_eq_true c3) (Ev_r ?_ (spec_form_j0 x false))
        rw [show headN x = true from decide_eq_true ⟨c1, c2, .inl c3⟩]; rfl
      · refine Ev_neg (by simpa using c3) (Ev_r ?_ (spec_form_j0 x _))
        by_cases c4 : x.f2.toList = []
        · rw [show headN x = true from decide_eq_true ⟨c1, c2, .inr c4⟩, c4]; rfl
        · rw [show headN x = false from decide_eq_false fun e => e.2.2.elim c3 c4, if_pos (bne_iff_ne.2 c4)]; rfl
    by_cases c2 : x.f0 = 2
    · exact Ev_pos c2 (key (.inl c2))
    · refine Ev_neg c2 ?_
      by_cases c2' : x.f1 = 0
      · exact Ev_pos c2' (key (.inr c2'))
      · refine Ev_neg c2' (Ev_r ?_ (spec_form_j0 x true))
        rw [show headN x = false from decide_eq_false fun e => e.2.1.elim c2 c2']; rfl
  · refine Ev_neg (by simpa using c1) ?_
    rw [show headN x = false from decide_eq_false fun e => c1 e.1]
    exact Ev.now _
theorem impl_node_j1 (x : S48) (b : Bool) (h : x.f2.size ≤ 1048576) : Ev (fun k => impl_nodeFault.j1 k b x.f0 x.f1 x.f2 x.f3 x.f4) (if b = true then 1 else (if (x.f0 = 2 ∧ ¬ (32 ≤ x.f1 ∧ x.f1 ≤ 126)) ∨ ((x.f0 = 4 ∨ x.f0 = 5) ∧ setN x.f2 = false) then 3 else 0)) := by
  refine Ev_shift ?_; simp only [impl_nodeFault.j1]
  cases b with
  | true => exact Ev_pos (by first | trivial | rfl | simp) (Ev.now _)
  | false =>
    refine Ev_neg (by simp) (Ev_r (if_neg (by simp)) ?_)
    have key : (x.f0 = 2 → 32 ≤ x.f1 ∧ x.f1 ≤ 126) → Ev (fun k => (impl_hasSet.f x.f0).bind fun t => if t = true then ((impl_isSet.f k x.f2).bind fun t => if t = true then some (0 : Int) else some 3) else some 0) (if (x.f0 = 2 ∧ ¬ (32 ≤ x.f1 ∧ x.f1 ≤ 126)) ∨ ((x.f0 = 4 ∨ x.f0 = 5) ∧ setN x.f2 = false) then 3 else 0) := by
      intro c2
      refine Ev.bind (Ev_eq (i_has _)) ?_
      by_cases c3 : x.f0 = 4 ∨ x.f0 = 5
      · refine Ev_pos (decide_eq_true c3) (Ev.bind (impl_set_ev _ h) ?_)
        cases hs : setN x.f2 with
        | true => exact Ev_pos (by first | trivial | rfl | simp) (Ev_r (if_neg (fun e => e.elim (fun e => e.2 (c2 e.1)) (fun e => by cases e.2))) (Ev.now _))
        | false => exact Ev_neg (by simp) (Ev_r (if_pos (.inr ⟨c3, rfl⟩)) (Ev.now _))
      · exact Ev_neg (by simpa using c3) (Ev_r (if_neg (fun e => e.elim (fun e => e.2 (c2 e.1)) (fun e => c3 e.1))) (Ev.now _))
    by_cases c1 : x.f0 = 2
    · refine Ev_pos c1 (Ev.bind (Ev_eq (i_printed _)) ?_)
      by_cases c2 : 32 ≤ x.f1 ∧ x.f1 ≤ 126
      · exact Ev_pos (decide_eq_true c2) (key fun _ => c2)
      · exact Ev_neg (by simpa using c2) (Ev_r (if_pos (.inl ⟨c1, c2⟩)) (Ev.now _))
    · exact Ev_neg c1 (key fun e => absurd e c1)
theorem impl_node_j0 (x : S48) (b : Bool) (h : x.f2.size ≤ 1048576) : Ev (fun k => impl_nodeFault.j0 k b x.f0 x.f1 x.f2 x.f3 x.f4) (if b = true then 1 else if tailN x = true then (if (x.f0 = 2 ∧ ¬ (32 ≤ x.f1 ∧ x.f1 ≤ 126)) ∨ ((x.f0 = 4 ∨ x.f0 = 5) ∧ setN x.f2 = false) then 3 else 0) else 1) := by
  refine Ev_shift ?_; simp only [impl_nodeFault.j0]
  cases b with
  | true => exact Ev_pos (by first | trivial | rfl | simp) (Ev.now _)
  | false =>
    refine Ev_neg (by simp) (Ev_r (if_neg (by simp)) ?_)
    have key : ((11 ≤ x.f0 ∧ x.f0 ≤ 12) ∨ (8 ≤ x.f0 ∧ x.f0 ≤ 10) ∨ x.f3 = 0) → Ev (fun k => (impl_isTwoKind.f x.f0).bind fun t => if t = true then impl_nodeFault.j1 k false x.f0 x.f1 x.f2 x.f3 x.f4 else impl_nodeFault.j1 k (x.f4 != 0) x.f0 x.f1 x.f2 x.f3 x.f4) (if tailN x = true then (if (x.f0 = 2 ∧ ¬ (32 ≤ x.f1 ∧ x.f1 ≤ 126)) ∨ ((x.f0 = 4 ∨ x.f0 = 5) ∧ setN x.f2 = false) then 3 else 0) else 1) := by
      intro c0
      refine Ev.bind (Ev_eq (i_two _)) ?_
      by_cases c1 : 11 ≤ x.f0 ∧ x.f0 ≤ 12
      · refine Ev_pos (decide_eq_true c1) (Ev_r ((if_pos (show tailN x = true from decide_eq_true ⟨.inl c1, c0⟩)).trans (if_neg (by simp)).symm) (impl_node_j1 x false h))
      · refine Ev_neg (by simpa using c1) (Ev_r ?_ (impl_node_j1 x _ h))
        by_cases c2 : x.f4 = 0
        · exact (if_pos (show tailN x = true from decide_eq_true ⟨.inr c2, c0⟩)).trans (if_neg (by simp [c2])).symm
        · exact (if_neg (show ¬ tailN x = true from fun e => (of_decide_eq_true e).1.elim c1 c2)).trans (if_pos (by simp [c2])).symm
    refine Ev.bind (Ev_eq (i_one _)) ?_
    by_cases c1 : 8 ≤ x.f0 ∧ x.f0 ≤ 10
    · exact Ev_pos (decide_eq_true c1) (key (.inr (.inl c1)))
    · refine Ev_neg (by simpa using c1) (Ev.bind (Ev_eq (i_two _)) ?_)
      by_cases c2 : 11 ≤ x.f0 ∧ x.f0 ≤ 12
      · exact Ev_pos (decide_eq_true c2) (key (.inl c2))
      · refine Ev_neg (by simpa using c2) ?_
        by_cases c3 : x.f3 = 0
        · exact Ev_pos c3 (key (.inr (.inr c3)))
        · refine Ev_neg c3 (Ev_r ?_ (impl_node_j1 x true h))
          exact (if_neg (show ¬ tailN x = true from fun e => (of_decide_eq_true e).2.elim c2 (fun e => e.elim c1 c3))).trans (if_pos rfl).symm
theorem impl_node_ev (x : S48) (h : x.f2.size ≤ 1048576) : Ev (fun k => impl_nodeFault.f k x.f0 x.f1 x.f2 x.f3 x.f4) (codeN x) := by
  simp only [impl_nodeFault.f, f_within]
  refine Ev.bind (Ev_eq rfl) ?_
  have bad : headN x = false → Ev (fun k => impl_nodeFault.j0 k true x.f0 x.f1 x.f2 x.f3 x.f4) (codeN x) := by
    intro e
    refine Ev_r ?_ (impl_node_j0 x true h)
    unfold codeN formN
    rw [e, if_neg (by simp), if_pos rfl]
  have good : headN x = true → Ev (fun k => impl_nodeFault.j0 k false x.f0 x.f1 x.f2 x.f3 x.f4) (codeN x) := by
    intro e
    refine Ev_r ?_ (impl_node_j0 x false h)
    unfold codeN formN
    rw [e, Bool.true_and, if_neg (show ¬ (false = true) by simp)]
  by_cases c1 : 1 ≤ x.f0 ∧ x.f0 ≤ 12
  · refine Ev_pos (decide_eq_true c1) ?_
    have key : (x.f0 = 2 ∨ x.f1 = 0) → Ev (fun k => (impl_hasSet.f x.f0).bind fun t => if t = true then impl_nodeFault.j0 k false x.f0 x.f1 x.f2 x.f3 x.f4 else impl_nodeFault.j0 k (x.f2.toList != ([] : List UInt8)) x.f0 x.f1 x.f2 x.f3 x.f4) (codeN x) := by
      intro c2
      refine Ev.bind (Ev_eq (i_has _)) ?_
      by_cases c3 : x.f0 = 4 ∨ x.f0 = 5
      · exact Ev_pos (decide_eq_true c3) (good (decide_eq_true ⟨c1, c2, .inl c3⟩))
      · refine Ev_neg (by simpa using c3) ?_
        by_cases c4 : x.f2.toList = []
        · rw [c4]; exact good (decide_eq_true ⟨c1, c2, .inr c4⟩)
        · rw [show (x.f2.toList != ([] : List UInt8)) = true from bne_iff_ne.2 c4]
          exact bad (decide_eq_false fun e => e.2.2.elim c3 c4)
    by_cases c2 : x.f0 = 2
    · exact Ev_pos c2 (key (.inl c2))
    · refine Ev_neg c2 ?_
      by_cases c2' : x.f1 = 0
      · exact Ev_pos c2' (key (.inr c2'))
      · exact Ev_neg c2' (bad (decide_eq_false fun e => e.2.1.elim c2 c2'))
  · exact Ev_neg (by simpa using c1) (bad (decide_eq_false fun e => c1 e.1))
/-- Where a node's parts lie. -/
def behindN (x : S48) (i s : Int) : Prop := (8 ≤ x.f0 ∧ x.f0 ≤ 10 → x.f3 = i - 1 ∧ 0 < i) ∧ (11 ≤ x.f0 ∧ x.f0 ≤ 12 → x.f4 = i - 1 ∧ 0 < i ∧ x.f3 = s - 1 ∧ 0 < s)
instance (x : S48) (i s : Int) : Decidable (behindN x i s) := by unfold behindN; infer_instance
/-- One step of the reference's loop, but for what lies behind. -/
theorem spec_fault_step (l : List (S48)) (i : Nat) (hi : i < l.length) (hl : l.length ≤ 24) (hs : l[i].f2.size ≤ 1048576) (r : Int)
    (hb : codeN l[i] = 0 → Ev (fun k => (spec_l5Behind.f k l (i : Int)).bind fun t => if t = true then spec_l5Fault.l0 k l (wrap64 ((i : Int) + 1)) else some 1) r) (hc : codeN l[i] ≠ 0 → r = codeN l[i]) :
    Ev (fun k => spec_l5Fault.l0 k l (i : Int)) r := by
  refine Ev_shift ?_; simp only [spec_l5Fault.l0]
  refine Ev_pos (by omega) (Ev_pos (by omega) ?_)
  rw [rdN l i hi]
  refine Ev.bind (spec_form_ev _) ?_
  cases hf : formN l[i] with
  | false =>
    have hcode : codeN l[i] = 1 := by unfold codeN; rw [if_neg (by rw [hf]; simp)]
    refine Ev_neg (by simp) ?_
    rw [hc (by omega), hcode]
    exact Ev.now _
  | true =>
    refine Ev_pos (by first | trivial | rfl | simp) ?_
    have hcode : codeN l[i] = if (l[i].f0 = 2 ∧ ¬ (32 ≤ l[i].f1 ∧ l[i].f1 ≤ 126)) ∨ ((l[i].f0 = 4 ∨ l[i].f0 = 5) ∧ setN l[i].f2 = false) then 3 else 0 := by unfold codeN; rw [if_pos hf]
    have jt : codeN l[i] = 3 → Ev (fun k => spec_l5Fault.j2 k l (i : Int) true) r := by
      intro e
      refine Ev_shift ?_; simp only [spec_l5Fault.j2]
      rw [hc (by omega), e]
      exact Ev_pos (by first | trivial | rfl | simp) (Ev.now _)
    have jf : codeN l[i] = 0 → Ev (fun k => spec_l5Fault.j2 k l (i : Int) false) r := by
      intro e
      refine Ev_shift ?_; simp only [spec_l5Fault.j2]
      exact Ev_neg (by simp) (hb e)
    have key : (l[i].f0 = 2 → 32 ≤ l[i].f1 ∧ l[i].f1 ≤ 126) → Ev (fun k => (spec_l5Has.f l[i].f0).bind fun t => if t = true then ((spec_l5Set.f k l[i].f2).bind fun t => spec_l5Fault.j2 k l (i : Int) (!t)) else spec_l5Fault.j2 k l (i : Int) false) r := by
      intro c2
      refine Ev.bind (Ev_eq (f_has _)) ?_
      by_cases c3 : l[i].f0 = 4 ∨ l[i].f0 = 5
      · refine Ev_pos (decide_eq_true c3) (Ev.bind (spec_set_ev _ hs) ?_)
        cases hq : setN l[i].f2 with
        | true => exact jf (hcode.trans (if_neg (fun e => e.elim (fun e => e.2 (c2 e.1)) (fun e => by rw [hq] at e; cases e.2))))
        | false => exact jt (hcode.trans (if_pos (.inr ⟨c3, hq⟩)))
      · exact Ev_neg (by simpa using c3) (jf (hcode.trans (if_neg (fun e => e.elim (fun e => e.2 (c2 e.1)) (fun e => c3 e.1)))))
    by_cases c1 : l[i].f0 = 2
    · refine Ev_pos c1 (Ev.bind (Ev_eq (f_in _ _ _)) ?_)
      by_cases c2 : 32 ≤ l[i].f1 ∧ l[i].f1 ≤ 126
      · exact Ev_pos (decide_eq_true c2) (key fun _ => c2)
      · exact Ev_neg (by simpa using c2) (jt (hcode.trans (if_pos (.inl ⟨c1, c2⟩))))
    · exact Ev_neg c1 (key fun e => absurd e c1)
/-- What the reference says to where a node's parts lie. -/
theorem spec_behind_ev (l : List (S48)) (i : Nat) (hi : i < l.length) (hl : l.length ≤ 24) (s : Int) (h0 : 0 ≤ s ∧ s ≤ i) (hz : i = 0 → s = 0)
    (h : 0 < i → s < i ∧ Ev (fun k => spec_l5First.f k l ((i : Int) - 1)) s) (h1 : i = 1 → s = 0) : Ev (fun k => spec_l5Behind.f k l (i : Int)) (decide (behindN l[i] i s)) := by
  simp only [spec_l5Behind.f, f_one, f_two]
  refine Ev_pos (by omega) (Ev_pos (by omega) ?_)
  rw [rdN l i hi, w64 (x := (i : Int) - 1) (by omega) (by omega)]
  refine Ev.bind (Ev_eq rfl) ?_
  by_cases c1 : 8 ≤ l[i].f0 ∧ l[i].f0 ≤ 10
  · refine Ev_pos (decide_eq_true c1) ?_
    by_cases c2 : (i : Int) > 0
    · refine Ev_pos c2 (Ev_eq ?_)
      rw [beqI]
      exact congrArg some (f_dec_eq ⟨fun e => ⟨fun _ => ⟨e, c2⟩, fun e' => by omega⟩, fun e => (e.1 c1).1⟩)
    · refine Ev_neg c2 (Ev_eq ?_)
      exact congrArg some (decide_eq_false fun e => c2 (e.1 c1).2).symm
  · refine Ev_neg (by simpa using c1) (Ev.bind (Ev_eq rfl) ?_)
    by_cases c2 : 11 ≤ l[i].f0 ∧ l[i].f0 ≤ 12
    · refine Ev_pos (decide_eq_true c2) ?_
      by_cases c3 : (i : Int) > 1
      · refine Ev_pos c3 ?_
        by_cases c4 : l[i].f4 = (i : Int) - 1
        · refine Ev_pos c4 (Ev.bind (h (by omega)).2 ?_)
          by_cases c5 : s > 0
          · refine Ev_pos c5 (Ev.bind (h (by omega)).2 (Ev_eq ?_))
            rw [w64 (x := s - 1) (by omega) (by omega), beqI]
            exact congrArg some (f_dec_eq ⟨fun e => ⟨fun e' => absurd e' c1, fun _ => ⟨c4, by omega, e, c5⟩⟩, fun e => (e.2 c2).2.2.1⟩)
          · exact Ev_neg c5 (Ev_eq (congrArg some (decide_eq_false fun e => c5 (e.2 c2).2.2.2).symm))
        · exact Ev_neg c4 (Ev_eq (congrArg some (decide_eq_false fun e => c4 (e.2 c2).1).symm))
      · refine Ev_neg c3 (Ev_eq (congrArg some (decide_eq_false fun e => ?_).symm))
        have := e.2 c2
        have : i = 1 := by omega
        have := h1 this
        omega
    · exact Ev_neg (by simpa using c2) (Ev_eq (congrArg some (decide_eq_true (show behindN l[i] i s from ⟨fun e => absurd e c1, fun e => absurd e c2⟩)).symm))
theorem rd_list (l : List Int) (i : Int) (j : Nat) (e : i = j) (h : j < l.length) : rd l i = l[j] := by subst e; exact rd_nat l j h
/-- What is known of a node behind which another one may lie. -/
def goodN (l : List (S48)) (j : Nat) (h : j < l.length) : Prop := (1 ≤ l[j].f0 ∧ l[j].f0 ≤ 12) ∧ ∃ s, 0 ≤ s ∧ s ≤ (j : Int) ∧ behindN l[j] j s
theorem spec_first_ev (l : List (S48)) (i : Nat) (hi : i < l.length) (s : Int)
    (hp : 8 ≤ l[i].f0 ∧ l[i].f0 ≤ 12 → Ev (fun k => spec_l5First.f k l l[i].f3) s) (hn : ¬ (8 ≤ l[i].f0 ∧ l[i].f0 ≤ 12) → s = i) : Ev (fun k => spec_l5First.f k l (i : Int)) s := by
  refine Ev_shift ?_; simp only [spec_l5First.f, f_one, f_two]
  refine Ev_pos (by omega) (Ev_pos (by omega) ?_)
  rw [rdN l i hi]
  refine Ev.bind (Ev_eq rfl) ?_
  by_cases c1 : 11 ≤ l[i].f0 ∧ l[i].f0 ≤ 12
  · exact Ev_pos (decide_eq_true c1) (Ev.bind (hp (by omega)) (Ev.now _))
  · refine Ev_neg (by simpa using c1) (Ev.bind (Ev_eq rfl) ?_)
    by_cases c2 : 8 ≤ l[i].f0 ∧ l[i].f0 ≤ 10
    · exact Ev_pos (decide_eq_true c2) (Ev.bind (hp (by omega)) (Ev.now _))
    · refine Ev_neg (by simpa using c2) ?_
      rw [hn (by omega)]
      exact Ev.now _
theorem codeN_kind {x : S48} (h : codeN x = 0) : 1 ≤ x.f0 ∧ x.f0 ≤ 12 := by
  unfold codeN at h
  by_cases hf : formN x = true
  · unfold formN at hf
    have := of_decide_eq_true ((Bool.and_eq_true _ _ ▸ hf).1 : headN x = true)
    exact this.1
  · rw [if_neg hf] at h; omega
theorem nodes_l0 (l : List (S48)) (hl : l.length ≤ 24) (h1 : 1 ≤ l.length) (hx : ∀ x ∈ l, x.f2.size ≤ 1048576) : ∀ (d i : Nat) (st : List Int), i + d = l.length → (hst : st.length = i) →
    (∀ (j : Nat) (h : j < st.length), Ev (fun k => spec_l5First.f k l (j : Int)) st[j] ∧ 0 ≤ st[j] ∧ st[j] ≤ j) →
    ∃ r, Ev (fun k => spec_l5Fault.l0 k l (i : Int)) r ∧ Ev (fun k => impl_NodesFault.l0 k l st l (l.length : Int) (i : Int)) r ∧ (r = 0 → ∀ (j : Nat) (h : j < l.length), i ≤ j → goodN l j h) := by
  intro d
  induction d with
  | zero =>
    intro i st hi hst hs
    have hi' : i = l.length := by omega
    have hj : l.length - 1 < st.length := by omega
    obtain ⟨hf, hf0, hf1⟩ := hs (l.length - 1) hj
    refine ⟨if st[l.length - 1] = 0 then 0 else 1, ?_, ?_, fun _ j h hij => by omega⟩
    · refine Ev_shift ?_; simp only [spec_l5Fault.l0]
      refine Ev_neg (by omega) ?_
      rw [w64 (x := (l.length : Int) - 1) (by omega) (by omega), show (l.length : Int) - 1 = ((l.length - 1 : Nat) : Int) by omega]
      refine Ev.bind hf (Ev_eq ?_)
      split <;> rfl
    · refine Ev_shift ?_; simp only [impl_NodesFault.l0]
      refine Ev_neg (by omega) ?_
      rw [w64 (x := (l.length : Int) - 1) (by omega) (by omega), show (l.length : Int) - 1 = ((l.length - 1 : Nat) : Int) by omega]
      refine Ev_pos (by omega) (Ev_pos (by omega) ?_)
      rw [rd_nat st _ hj]
      refine Ev_eq ?_
      split <;> rfl
  | succ d ih =>
    intro i st hi hst hs
    have hlt : i < l.length := by omega
    have hsz := hx l[i] (List.getElem_mem hlt)
    -- where the part ahead begins
    obtain ⟨s, hs0, hs1, hsz0, hss, hs2⟩ : ∃ s : Int, 0 ≤ s ∧ s ≤ (i : Int) ∧ (i = 0 → s = 0) ∧ (0 < i → s < (i : Int) ∧ Ev (fun k => spec_l5First.f k l ((i : Int) - 1)) s ∧ rd st ((i : Int) - 1) = s) ∧ (i = 1 → s = 0) := by
      by_cases h0 : i = 0
      · exact ⟨0, by omega, by omega, fun _ => rfl, fun e => by omega, fun _ => rfl⟩
      · have hj : i - 1 < st.length := by omega
        obtain ⟨hf, hf0, hf1⟩ := hs (i - 1) hj
        refine ⟨st[i - 1], by omega, by omega, fun e => by omega, fun _ => ⟨by omega, ?_, rd_list st _ (i - 1) (by omega) hj⟩, fun e => ?_⟩
        · rw [show (i : Int) - 1 = ((i - 1 : Nat) : Int) by omega]; exact hf
        · have : st[i - 1] ≤ ((i - 1 : Nat) : Int) := hf1
          omega
    have hbe := spec_behind_ev l i hlt hl s ⟨hs0, hs1⟩ hsz0 (fun e => ⟨(hss e).1, (hss e).2.1⟩) hs2
    by_cases hc : codeN l[i] = 0
    · by_cases hb : behindN l[i] i s
      · -- the node is sound
        have hk := codeN_kind hc
        have hnew : ∃ s', 0 ≤ s' ∧ s' ≤ (i : Int) ∧ Ev (fun k => spec_l5First.f k l (i : Int)) s' ∧ (∀ r, Ev (fun k => impl_NodesFault.l0 k l (st ++ [s']) l (l.length : Int) ((i : Int) + 1)) r → Ev (fun k => impl_NodesFault.l0 k l st l (l.length : Int) (i : Int)) r) := by
          by_cases c1 : 8 ≤ l[i].f0 ∧ l[i].f0 ≤ 10
          · have hb1 := hb.1 c1
            obtain ⟨hsl, hfe, hrd⟩ := hss (by omega)
            refine ⟨s, hs0, by omega, spec_first_ev l i hlt s (fun _ => by rw [hb1.1]; exact hfe) (fun e => by omega), fun r hr => ?_⟩
            refine Ev_shift ?_; simp only [impl_NodesFault.l0]
            refine Ev_pos (by omega) (Ev_pos (by omega) (Ev_pos (by omega) ?_))
            rw [rdN l i hlt]
            refine Ev.bind (impl_node_ev _ hsz) (Ev_pos hc (Ev.bind (Ev_eq (i_one _)) (Ev_pos (decide_eq_true c1) ?_)))
            rw [w64 (x := (i : Int) - 1) (by omega) (by omega), w64 (x := (i : Int) + 1) (by omega) (by omega), hrd]
            exact Ev_pos hb1.1 (Ev_neg (by omega) (Ev_pos (by omega) (Ev_pos (by omega) (Ev_pos (by omega) hr))))
          · by_cases c2 : 11 ≤ l[i].f0 ∧ l[i].f0 ≤ 12
            · have hb2 := hb.2 c2
              obtain ⟨hsl, hfe, hrd⟩ := hss (by omega)
              have hj : (s - 1).toNat < st.length := by omega
              obtain ⟨hf, hf0, hf1⟩ := hs (s - 1).toNat hj
              refine ⟨st[(s - 1).toNat], hf0, by omega, spec_first_ev l i hlt _ (fun _ => by rw [show l[i].f3 = (((s - 1).toNat : Nat) : Int) by omega]; exact hf) (fun e => by omega), fun r hr => ?_⟩
              refine Ev_shift ?_; simp only [impl_NodesFault.l0]
              refine Ev_pos (by omega) (Ev_pos (by omega) (Ev_pos (by omega) ?_))
              rw [rdN l i hlt]
              refine Ev.bind (impl_node_ev _ hsz) (Ev_pos hc (Ev.bind (Ev_eq (i_one _)) (Ev_neg (by simpa using c1) (Ev.bind (Ev_eq (i_two _)) (Ev_pos (decide_eq_true c2) ?_)))))
              rw [w64 (x := (i : Int) - 1) (by omega) (by omega), w64 (x := (i : Int) + 1) (by omega) (by omega), hrd, w64 (x := s - 1) (by omega) (by omega), rd_list st l[i].f3 (s - 1).toNat (by omega) hj]
              exact Ev_pos hb2.1 (Ev_neg (by omega) (Ev_pos (by omega) (Ev_pos (by omega) (Ev_pos hb2.2.2.1 (Ev_neg (by omega) (Ev_pos (by omega) (Ev_pos (by omega) (Ev_pos (by omega) hr))))))))
            · refine ⟨i, by omega, by omega, spec_first_ev l i hlt _ (fun e => by omega) (fun _ => rfl), fun r hr => ?_⟩
              refine Ev_shift ?_; simp only [impl_NodesFault.l0]
              refine Ev_pos (by omega) (Ev_pos (by omega) (Ev_pos (by omega) ?_))
              rw [rdN l i hlt]
              refine Ev.bind (impl_node_ev _ hsz) (Ev_pos hc (Ev.bind (Ev_eq (i_one _)) (Ev_neg (by simpa using c1) (Ev.bind (Ev_eq (i_two _)) (Ev_neg (by simpa using c2) ?_)))))
              rw [w64 (x := (i : Int) + 1) (by omega) (by omega)]
              exact Ev_pos (by omega) hr
        obtain ⟨s', h0', h1', hfe', hstep⟩ := hnew
        obtain ⟨r, hr1, hr2, hr3⟩ := ih (i + 1) (st ++ [s']) (by omega) (by simp [hst]) (fun j hj => by
          by_cases hji : j < st.length
          · rw [List.getElem_append_left hji]; exact hs j hji
          · have hje : j = i := by simp at hj; omega
            subst hje
            rw [List.getElem_append_right (by omega)]
            simp only [hst, Nat.sub_self, List.getElem_cons_zero]
            exact ⟨hfe', h0', h1'⟩)
        refine ⟨r, ?_, hstep r (by simpa only [Int.natCast_add, Int.natCast_one] using hr2), fun e j hj hij => ?_⟩
        · refine spec_fault_step l i hlt hl hsz r (fun _ => ?_) (fun e => absurd hc e)
          refine Ev.bind hbe (Ev_pos (decide_eq_true hb) ?_)
          rw [w64 (x := (i : Int) + 1) (by omega) (by omega)]
          simpa only [Int.natCast_add, Int.natCast_one] using hr1
        · by_cases hji : j = i
          · subst hji; exact ⟨hk, s, hs0, hs1, hb⟩
          · exact hr3 e j hj (by omega)
      · refine ⟨1, ?_, ?_, fun e => by omega⟩
        · refine spec_fault_step l i hlt hl hsz 1 (fun _ => ?_) (fun e => absurd hc e)
          exact Ev.bind hbe (Ev_neg (by simpa using hb) (Ev.now _))
        · refine Ev_shift ?_; simp only [impl_NodesFault.l0]
          refine Ev_pos (by omega) (Ev_pos (by omega) (Ev_pos (by omega) ?_))
          rw [rdN l i hlt]
          refine Ev.bind (impl_node_ev _ hsz) (Ev_pos hc (Ev.bind (Ev_eq (i_one _)) ?_))
          rw [w64 (x := (i : Int) - 1) (by omega) (by omega)]
          by_cases c1 : 8 ≤ l[i].f0 ∧ l[i].f0 ≤ 10
          · refine Ev_pos (decide_eq_true c1) ?_
            by_cases c3 : l[i].f3 = (i : Int) - 1
            · refine Ev_pos c3 (Ev_pos ?_ (Ev.now _))
              by_cases h0 : 0 < i
              · exact absurd (show behindN l[i] i s from ⟨fun _ => ⟨c3, by omega⟩, fun e => by omega⟩) hb
              · omega
            · exact Ev_neg c3 (Ev.now _)
          · refine Ev_neg (by simpa using c1) (Ev.bind (Ev_eq (i_two _)) ?_)
            by_cases c2 : 11 ≤ l[i].f0 ∧ l[i].f0 ≤ 12
            · refine Ev_pos (decide_eq_true c2) ?_
              by_cases c3 : l[i].f4 = (i : Int) - 1
              · refine Ev_pos c3 ?_
                by_cases h0 : 0 < i
                · obtain ⟨hsl, hfe, hrd⟩ := hss h0
                  refine Ev_neg (by omega) (Ev_pos (by omega) (Ev_pos (by omega) ?_))
                  rw [hrd, w64 (x := s - 1) (by omega) (by omega)]
                  by_cases c4 : l[i].f3 = s - 1
                  · refine Ev_pos c4 (Ev_pos ?_ (Ev.now _))
                    by_cases h2 : 0 < s
                    · exact absurd (show behindN l[i] i s from ⟨fun e => absurd e c1, fun _ => ⟨c3, by omega, c4, h2⟩⟩) hb
                    · omega
                  · exact Ev_neg c4 (Ev.now _)
                · exact Ev_pos (by omega) (Ev.now _)
              · exact Ev_neg c3 (Ev.now _)
            · exact absurd (show behindN l[i] i s from ⟨fun e => absurd e c1, fun e => absurd e c2⟩) hb
    · refine ⟨codeN l[i], ?_, ?_, fun e => absurd e hc⟩
      · exact spec_fault_step l i hlt hl hsz _ (fun e => absurd e hc) (fun _ => rfl)
      · refine Ev_shift ?_; simp only [impl_NodesFault.l0]
        refine Ev_pos (by omega) (Ev_pos (by omega) (Ev_pos (by omega) ?_))
        rw [rdN l i hlt]
        exact Ev.bind (impl_node_ev _ hsz) (Ev_neg hc (Ev.now _))
theorem nodes_ev (l : List (S48)) (hl : l.length ≤ 1048576) (hx : ∀ x ∈ l, x.f2.size ≤ 1048576) : ∃ r, Ev (fun k => spec_l5Fault.f k l) r ∧ Ev (fun k => impl_NodesFault.f k l) r ∧ (r = 0 → (1 ≤ l.length ∧ l.length ≤ 24) ∧ ∀ (j : Nat) (h : j < l.length), goodN l j h) := by
  simp only [spec_l5Fault.f, impl_NodesFault.f]
  by_cases h : 1 ≤ l.length ∧ l.length ≤ 24
  · obtain ⟨r, h1, h2, h3⟩ := nodes_l0 l h.2 h.1 hx l.length 0 [] (by omega) rfl (fun j hj => by simp at hj)
    refine ⟨r, ?_, ?_, fun e => ⟨h, fun j hj => h3 e j hj (by omega)⟩⟩
    · refine Ev_neg (by omega) (Ev_shift ?_)
      simp only [spec_l5Fault.j0]
      exact Ev_neg (by simp; omega) h1
    · exact Ev.bind (Ev_eq (f_within _ _ _)) (Ev_pos (decide_eq_true (by omega)) h2)
  · refine ⟨2, ?_, ?_, fun e => by omega⟩
    · by_cases h0 : (l.length : Int) < 1
      · refine Ev_pos h0 (Ev_shift ?_)
        simp only [spec_l5Fault.j0]
        exact Ev_pos (by first | trivial | rfl | simp) (Ev.now _)
      · refine Ev_neg h0 (Ev_shift ?_)
        simp only [spec_l5Fault.j0]
        exact Ev_pos (decide_eq_true (by omega)) (Ev.now _)
    · exact Ev.bind (Ev_eq (f_within _ _ _)) (Ev_neg (by simp; omega) (Ev.now _))

theorem FnExactNodesFault : laws_FnExactNodesFault.Pure := by
  intro l hl hx
  refine Ev.rounds ?_
  simp only [laws_FnExactNodesFault.f]
  obtain ⟨r, h0, hr, hk⟩ := szNodeS_ev l 1048576 hl (fun x h => (hx x h).2.2.1) (by omega) (by omega)
  by_cases hr0 : r < 0
  · exact Ev.bind h0 (Ev_pos hr0 (Ev.now _))
  · refine Ev.bind h0 (Ev_neg hr0 ?_)
    obtain ⟨hl', hx'⟩ := hk (by omega)
    have hl2 : l.length ≤ 1048576 := by omega
    have a1 := toNodeS_ev l hl2
    obtain ⟨q, a2, a3, _⟩ := nodes_ev (l.map cvN) (by simpa using hl2) (fun x h => by
      obtain ⟨y, hy, rfl⟩ := List.mem_map.1 h
      have := hx' y hy
      show y.f2.size ≤ 1048576
      omega)
    have a4 := eqNodeS_ev (l.map cvN) (by simpa using hl2)
    simp only [spec_NodesFault.f]
    refine Ev.bind a1 ?_
    refine Ev.bind (a := q) (Ev.bind a2 (Ev.now _)) ?_
    refine Ev.bind a1 ?_
    refine Ev.bind a3 (Ev_pos (by first | trivial | rfl | simp) ?_)
    refine Ev.bind a1 ?_
    exact Ev.bind a4 (Ev_pos (by first | trivial | rfl | simp) (Ev.now _))

end Go.Proofs.Ytaknnpphhbgfiaa.Pure
