/- the program's ReadRange tells what the reference's tells, for every cache, file, place, number and measure. Under no condition. -/
import Derived.Test.YtkocconggohdgaaPFnExactReadRangex16
set_option linter.unusedVariables false
set_option linter.unusedSimpArgs false
namespace Go.Proofs.Ytkocconggohdgaa.Pure
open Go.RowKit Go.Proofs.Ytkocconggohdgaa.PFnExactReadRange Go.Proofs.YtkocconggohdgaaW.PrintWords Go.Proofs.YtkocconggohdgaaW.PrintLast

theorem w64 {x : Int} (h0 : -9223372036854775808 ≤ x) (h1 : x ≤ 9223372036854775807) : wrap64 x = x := by unfold wrap64; omega
theorem Ev_shift {α : Type} {g : Nat → Option α} {r : α} (h : Ev (fun k => g (k + 1)) r) : Ev g r := Ev.step (f := fun k => g (k + 1)) (fun _ => rfl) h
theorem Ev_pos {α : Type} {c : Prop} [Decidable c] (hc : c) {a b : Nat → Option α} {r : α} (h : Ev a r) : Ev (fun k => if c then a k else b k) r := by
  simpa only [if_pos hc] using h
theorem Ev_neg {α : Type} {c : Prop} [Decidable c] (hc : ¬ c) {a b : Nat → Option α} {r : α} (h : Ev b r) : Ev (fun k => if c then a k else b k) r := by
  simpa only [if_neg hc] using h
theorem Ev_eq {α : Type} {g : Option α} {r : α} (h : g = some r) : Ev (fun _ => g) r := by subst h; exact Ev.now r
theorem Ev_r {α : Type} {g : Nat → Option α} {r r' : α} (e : r = r') (h : Ev g r') : Ev g r := e ▸ h
theorem maxLen_le : maxLen ≤ 9223372036854775807 := by unfold maxLen; omega
theorem rd_nat (l : List Int) (i : Nat) (h : i < l.length) : rd l (i : Int) = l[i] := by simp [rd, h]
/-- A loop that fills a row with what it makes of another one's elements. -/
theorem fill_loop {α β : Type} (l : List α) (c : α → β) (G : Nat → List β → Int → Option (List β))
    (hend : ∀ x, Ev (fun k => G k x (l.length : Int)) x)
    (hstep : ∀ (i : Nat) (h : i < l.length) (x : List β) (r : List β), x.length = l.length → Ev (fun k => G k (x.set i (c l[i])) ((i : Int) + 1)) r → Ev (fun k => G k x (i : Int)) r)
    (x : List β) (hx : x.length = l.length) : Ev (fun k => G k x 0) (l.map c) := by
  have main : ∀ (d i : Nat) (x : List β), x.length = l.length → i + d = l.length → (∀ (j : Nat) (hj : j < i) (hl : j < l.length) (hx : j < x.length), x[j] = c l[j]) → Ev (fun k => G k x (i : Int)) (l.map c) := by
    intro d
    induction d with
    | zero =>
      intro i x hx hi hp
      obtain rfl : i = l.length := by omega
      have : x = l.map c := by
        apply List.ext_getElem (by simp [hx])
        intro j h1 h2
        rw [List.getElem_map]
        exact hp j (by omega) (by omega) h1
      rw [← this]
      exact hend x
    | succ d ih =>
      intro i x hx hi hp
      refine hstep i (by omega) x _ hx ?_
      have := ih (i + 1) (x.set i (c (l[i]'(by omega)))) (by simp [hx]) (by omega) (fun j hj hl hx' => by
        rw [List.getElem_set]
        split
        · rename_i e; subst e; rfl
        · exact hp j (by omega) hl (by simpa using hx'))
      simpa using this
  have := main l.length 0 x hx (by omega) (fun j hj => absurd hj (by omega))
  simpa using this
/-- A loop that goes through all places and finds nothing amiss. -/
theorem same_loop (n : Nat) (G : Nat → Int → Option Bool) (hend : Ev (fun k => G k (n : Int)) true)
    (hstep : ∀ i : Nat, i < n → Ev (fun k => G k ((i : Int) + 1)) true → Ev (fun k => G k (i : Int)) true) : Ev (fun k => G k 0) true := by
  have main : ∀ (d i : Nat), i + d = n → Ev (fun k => G k (i : Int)) true := by
    intro d
    induction d with
    | zero => intro i hi; obtain rfl : i = n := by omega
              exact hend
    | succ d ih =>
      intro i hi
      refine hstep i (by omega) ?_
      have := ih (i + 1) (by omega)
      simpa using this
  have := main n 0 (by omega)
  simpa using this

theorem toByteS_ev (l : List Int) (h : l.length ≤ 1048576) : Ev (fun k => laws_toByteS.f k l) l := by
  have main := fill_loop l (fun x => x) (fun k x i => laws_toByteS.l0 k l x i) (fun x => by
      refine Ev_shift ?_; simp only [laws_toByteS.l0]
      exact Ev_neg (by omega) (Ev.now _))
    (fun i hi x r hx hr => by
      refine Ev_shift ?_; simp only [laws_toByteS.l0]
      refine Ev_pos (by omega) (Ev_pos (by omega) (Ev_pos (by omega) ?_))
      rw [w64 (by omega) (by omega), rd_nat l i hi]
      simpa using hr)
    (List.replicate l.length 0) (by simp)
  simp only [laws_toByteS.f]
  refine Ev_pos (by omega) (Ev_pos (by omega) ?_)
  simpa using main
theorem eqByteS_ev (l : List Int) (h : l.length ≤ 9223372036854775807) : Ev (fun k => laws_eqByteS.f k l l) true := by
  simp only [laws_eqByteS.f]
  refine Ev_pos (by first | trivial | rfl | simp) ?_
  refine same_loop l.length (fun k i => laws_eqByteS.l0 k l l i) ?_ ?_
  · refine Ev_shift ?_; simp only [laws_eqByteS.l0]
    exact Ev_neg (by omega) (Ev.now _)
  · intro i hi hr
    refine Ev_shift ?_; simp only [laws_eqByteS.l0]
    refine Ev_pos (by omega) (Ev_pos (by omega) (Ev_pos (by omega) (Ev_pos (by first | trivial | rfl | simp) ?_)))
    rw [w64 (by omega) (by omega)]
    exact hr

theorem szByteS_f (l : List Int) (n : Int) (hl : l.length ≤ maxLen) (h0 : 0 ≤ n) (h1 : n ≤ 1048576) : (l.length ≤ n ∧ laws_szByteS.f l n = some (n - l.length)) ∨ laws_szByteS.f l n = some (-1) := by
  have := maxLen_le
  simp only [laws_szByteS.f, w64 (show -9223372036854775808 ≤ n - (l.length : Int) by omega) (by omega)]
  by_cases h : n - (l.length : Int) < 0
  · exact .inr (if_pos h)
  · exact .inl ⟨by omega, if_neg h⟩
theorem szFile_f (l : List Int) (n : Int) (hl : l.length ≤ maxLen) (h0 : 0 ≤ n) (h1 : n ≤ 1048576) : (l.length ≤ n ∧ laws_szFile.f l n = some (n - l.length)) ∨ laws_szFile.f l n = some (-1) := by
  simp only [laws_szFile.f]
  rcases szByteS_f l n hl h0 h1 with ⟨h, e⟩ | e
  · exact .inl ⟨h, by rw [e, Option.bind_some, if_neg (by omega)]⟩
  · exact .inr (by rw [e]; rfl)
theorem toFile_ev (l : List Int) (h : l.length ≤ 1048576) : Ev (fun k => laws_toFile.f k l) l := by
  simp only [laws_toFile.f]
  exact Ev.bind (toByteS_ev l h) (Ev.now _)
theorem eqFile_ev (l : List Int) (h : l.length ≤ 1048576) : Ev (fun k => laws_eqFile.f k l l) true := by
  simp only [laws_eqFile.f]
  exact Ev.bind (eqByteS_ev l (by omega)) (Ev_pos (by first | trivial | rfl | simp) (Ev.now _))

theorem f_dec_eq {p q : Prop} [Decidable p] [Decidable q] (h : p ↔ q) : decide p = decide q := decide_eq_decide.mpr h
theorem f_in (a b c : Int) : spec_l1In.f a b c = some (decide (b ≤ a ∧ a ≤ c)) := by
  simp only [spec_l1In.f]
  by_cases h : a ≥ b
  · rw [if_pos h]; exact congrArg some (f_dec_eq (by omega))
  · rw [if_neg h]; exact congrArg some (decide_eq_false (by omega)).symm
theorem f_within (a b c : Int) : impl_within.f a b c = some (decide (b ≤ a ∧ a ≤ c)) := by
  simp only [impl_within.f]
  by_cases h : b ≤ a
  · rw [if_pos h]; exact congrArg some (f_dec_eq (by omega))
  · rw [if_neg h]; exact congrArg some (decide_eq_false (by omega)).symm

def bk (x : S108) : S80 := ⟨x.f0, x.f1⟩
theorem rdB (l : List (S80)) (i : Nat) (h : i < l.length) : rd_T80 l (i : Int) = l[i] := by simp [rd_T80, h]
theorem rdLB (l : List (S108)) (i : Nat) (h : i < l.length) : rd_T108 l (i : Int) = l[i] := by simp [rd_T108, h]
theorem szBlock_f (a : Int) (l : List Int) (n : Int) (hl : l.length ≤ maxLen) (h0 : 0 ≤ n) (h1 : n ≤ 1048576) : (l.length ≤ n ∧ laws_szBlock.f a l n = some (n - l.length)) ∨ laws_szBlock.f a l n = some (-1) := by
  simp only [laws_szBlock.f]
  rcases szByteS_f l n hl h0 h1 with ⟨h, e⟩ | e
  · exact .inl ⟨h, by rw [e, Option.bind_some, if_neg (by omega)]⟩
  · exact .inr (by rw [e]; rfl)
theorem szBlockS_l0 (l : List (S108)) (hw : ∀ x ∈ l, x.f1.length ≤ maxLen) (hl : l.length ≤ 1048576) : ∀ (d i : Nat) (n : Int), i + d = l.length → 0 ≤ n → n ≤ 1048576 →
    ∃ r, Ev (fun k => laws_szBlockS.l0 k l n (i : Int)) r ∧ (r = -1 ∨ (0 ≤ r ∧ r ≤ n ∧ ∀ (j : Nat) (hj : j < l.length), i ≤ j → (l[j].f1.length : Int) ≤ n - r)) := by
  intro d
  induction d with
  | zero =>
    intro i n hi h0 h1
    refine ⟨n, ?_, .inr ⟨h0, by omega, fun j hj h => by omega⟩⟩
    refine Ev_shift ?_; simp only [laws_szBlockS.l0]
    exact Ev_neg (by omega) (Ev.now _)
  | succ d ih =>
    intro i n hi h0 h1
    have hlt : i < l.length := by omega
    rcases szBlock_f l[i].f0 l[i].f1 n (hw _ (List.getElem_mem hlt)) h0 h1 with ⟨h, e⟩ | e
    · obtain ⟨r, hr, hc⟩ := ih (i + 1) (n - l[i].f1.length) (by omega) (by omega) (by omega)
      refine ⟨r, ?_, ?_⟩
      · refine Ev_shift ?_; simp only [laws_szBlockS.l0]
        rw [rdLB l i hlt, w64 (by omega) (by omega)]
        refine Ev_pos (by omega) (Ev_pos (by omega) (Ev.bind (Ev_eq e) (Ev_neg (by omega) ?_)))
        simpa only [Int.natCast_add, Int.natCast_one] using hr
      · rcases hc with hc | ⟨c0, c1, c2⟩
        · exact .inl hc
        · refine .inr ⟨c0, by omega, fun j hj hij => ?_⟩
          by_cases hji : j = i
          · subst hji; omega
          · have := c2 j hj (by omega); omega
    · refine ⟨-1, ?_, .inl rfl⟩
      refine Ev_shift ?_; simp only [laws_szBlockS.l0]
      rw [rdLB l i hlt]
      exact Ev_pos (by omega) (Ev_pos (by omega) (Ev.bind (Ev_eq e) (Ev_pos (by omega) (Ev.now _))))
theorem szBlockS_ev (l : List (S108)) (hw : ∀ x ∈ l, x.f1.length ≤ maxLen) (hl : l.length ≤ maxLen) (n : Int) (h0 : 0 ≤ n) (h1 : n ≤ 1048576) :
    ∃ r, Ev (fun k => laws_szBlockS.f k l n) r ∧ (r = -1 ∨ (0 ≤ r ∧ r ≤ n ∧ l.length ≤ 1048576 ∧ ∀ x ∈ l, x.f1.length ≤ 1048576)) := by
  have := maxLen_le
  simp only [laws_szBlockS.f, w64 (show -9223372036854775808 ≤ n - (l.length : Int) by omega) (by omega)]
  by_cases h : n - (l.length : Int) < 0
  · exact ⟨-1, Ev_pos h (Ev.now _), .inl rfl⟩
  · obtain ⟨r, hr, hc⟩ := szBlockS_l0 l hw (by omega) l.length 0 (n - l.length) (by omega) (by omega) (by omega)
    refine ⟨r, Ev_neg h hr, ?_⟩
    rcases hc with hc | ⟨c0, c1, c2⟩
    · exact .inl hc
    · refine .inr ⟨c0, by omega, by omega, fun x hx => ?_⟩
      obtain ⟨j, hj, rfl⟩ := List.getElem_of_mem hx
      have := c2 j hj (by omega)
      omega
theorem szCache_ev (u s : Int) (l : List (S108)) (hw : ∀ x ∈ l, x.f1.length ≤ maxLen) (hl : l.length ≤ maxLen) (n : Int) (h0 : 0 ≤ n) (h1 : n ≤ 1048576) :
    ∃ r, Ev (fun k => laws_szCache.f k u s l n) r ∧ (r = -1 ∨ (0 ≤ r ∧ r ≤ n ∧ l.length ≤ 1048576 ∧ ∀ x ∈ l, x.f1.length ≤ 1048576)) := by
  obtain ⟨r, hr, hc⟩ := szBlockS_ev l hw hl n h0 h1
  refine ⟨r, ?_, hc⟩
  simp only [laws_szCache.f]
  refine Ev.bind hr ?_
  rcases hc with rfl | hc
  · exact Ev_pos (by omega) (Ev.now _)
  · exact Ev_neg (by omega) (Ev.now _)
theorem toBlockS_ev (l : List (S108)) (hl : l.length ≤ 1048576) (hw : ∀ x ∈ l, x.f1.length ≤ 1048576) : Ev (fun k => laws_toBlockS.f k l) (l.map bk) := by
  have main := fill_loop l bk (fun k x i => laws_toBlockS.l0 k l x i) (fun x => by
      refine Ev_shift ?_; simp only [laws_toBlockS.l0]
      exact Ev_neg (by omega) (Ev.now _))
    (fun i hi x r hx hr => by
      refine Ev_shift ?_; simp only [laws_toBlockS.l0, laws_toBlock.f]
      refine Ev_pos (by omega) (Ev_pos (by omega) ?_)
      rw [rdLB l i hi, w64 (by omega) (by omega)]
      refine Ev.bind (Ev.bind (toByteS_ev l[i].f1 (hw _ (List.getElem_mem hi))) (Ev.now _)) (Ev_pos (by omega) ?_)
      simpa [bk] using hr)
    (List.replicate l.length z80) (by simp)
  simp only [laws_toBlockS.f]
  refine Ev_pos (by omega) (Ev_pos (by omega) ?_)
  simpa using main
theorem toCache_ev (u s : Int) (l : List (S108)) (hl : l.length ≤ 1048576) (hw : ∀ x ∈ l, x.f1.length ≤ 1048576) : Ev (fun k => laws_toCache.f k u s l) (u, s, l.map bk) := by
  simp only [laws_toCache.f]
  exact Ev.bind (toBlockS_ev l hl hw) (Ev.now _)
theorem eqBlock_ev (a : Int) (l : List Int) (h : l.length ≤ 9223372036854775807) : Ev (fun k => laws_eqBlock.f k a l a l) true := by
  simp only [laws_eqBlock.f]
  exact Ev_pos trivial (Ev.bind (eqByteS_ev l h) (Ev_pos (by first | trivial | rfl | simp) (Ev.now _)))
theorem eqBlockS_ev (l : List (S80)) (h : l.length ≤ 9223372036854775807) (hw : ∀ x ∈ l, x.f1.length ≤ 9223372036854775807) : Ev (fun k => laws_eqBlockS.f k l l) true := by
  simp only [laws_eqBlockS.f]
  refine Ev_pos (by first | trivial | rfl | simp) ?_
  refine same_loop l.length (fun k i => laws_eqBlockS.l0 k l l i) ?_ ?_
  · refine Ev_shift ?_; simp only [laws_eqBlockS.l0]
    exact Ev_neg (by omega) (Ev.now _)
  · intro i hi hr
    refine Ev_shift ?_; simp only [laws_eqBlockS.l0]
    rw [rdB l i hi, w64 (by omega) (by omega)]
    refine Ev_pos (by omega) (Ev_pos (by omega) (Ev_pos (by omega) ?_))
    exact Ev.bind (eqBlock_ev l[i].f0 l[i].f1 (hw _ (List.getElem_mem hi))) (Ev_pos (by first | trivial | rfl | simp) hr)
theorem eqCache_ev (u s : Int) (l : List (S80)) (h : l.length ≤ 9223372036854775807) (hw : ∀ x ∈ l, x.f1.length ≤ 9223372036854775807) : Ev (fun k => laws_eqCache.f k u s l u s l) true := by
  simp only [laws_eqCache.f]
  exact Ev_pos trivial (Ev_pos trivial (Ev.bind (eqBlockS_ev l h hw) (Ev_pos (by first | trivial | rfl | simp) (Ev.now _))))
theorem bk_small {l : List (S108)} {n : Nat} (hw : ∀ x ∈ l, x.f1.length ≤ n) : ∀ x ∈ l.map bk, x.f1.length ≤ n := by
  intro x hx
  obtain ⟨y, hy, rfl⟩ := List.mem_map.1 hx
  exact hw y hy

/-- What is wrong with the blocks from place i on. -/
def blocksF (u : Int) (l : List (S80)) : Nat → Nat → Int
  | 0, _ => 0
  | d + 1, i => match l[i]? with
    | none => 0
    | some b => if ¬ (0 ≤ b.f0 ∧ b.f0 ≤ 400) then 3 else if ¬ (1 ≤ (b.f1.length : Int) ∧ (b.f1.length : Int) ≤ u) then 1 else if (l.take i).any (fun x => x.f0 == b.f0) then 6 else blocksF u l d (i + 1)
def cacheF (u s : Int) (l : List (S80)) : Int :=
  if ¬ ((1 ≤ u ∧ u ≤ 64) ∧ (1 ≤ s ∧ s ≤ 6)) then 3 else if (l.length : Int) > s then 2 else blocksF u l l.length 0
theorem blkIdx_any (p : S80 → Bool) : ∀ (l : List (S80)) (i : Nat), (0 ≤ blkIdx p l i ↔ l.any p = true)
  | [], i => by simp [blkIdx]
  | x :: xs, i => by
    have := blkIdx_any p xs (i + 1)
    cases h : p x
    · simp [blkIdx, h, this]
    · simp [blkIdx, h]
theorem blkIdx_hi (p : S80 → Bool) : ∀ (l : List (S80)) (i : Nat), blkIdx p l i = -1 ∨ blkIdx p l i < (i + l.length : Nat)
  | [], i => .inl rfl
  | x :: xs, i => by
    have := blkIdx_hi p xs (i + 1)
    cases h : p x
    · simp only [blkIdx, h]; simp only [Bool.false_eq_true, if_false, List.length_cons]; omega
    · simp [blkIdx, h]; omega
/-- The first one that answers is this one just where none ahead of it does. -/
theorem blkIdx_this (p : S80 → Bool) (l : List (S80)) (i : Nat) (h : i < l.length) (hp : p l[i] = true) : blkIdx p l 0 = (i : Int) ↔ (l.take i).any p = false := by
  constructor
  · intro e
    by_cases ha : (l.take i).any p = true
    · obtain ⟨x, hx, hpx⟩ := List.any_eq_true.1 ha
      obtain ⟨j, hj, rfl⟩ := List.getElem_of_mem hx
      rw [List.length_take] at hj
      rw [List.getElem_take] at hpx
      exfalso
      have : ∀ (k : Nat), k ≤ j → (hk : k < l.length) → p l[k] = true → False := by
        intro k
        induction k using Nat.strongRecOn with
        | ind k ih =>
          intro hkj hk hpk
          by_cases hall : ∀ m (hm : m < k), p (l[m]'(by omega)) = false
          · have := blkIdx_hit p l k 0 hk hpk hall
            rw [e] at this; omega
          · have : ∃ m, ∃ hm : m < k, p (l[m]'(by omega)) = true := by
              apply Classical.byContradiction
              intro hn
              apply hall
              intro m hm
              cases hq : p (l[m]'(by omega))
              · rfl
              · exact absurd ⟨m, hm, hq⟩ hn
            obtain ⟨m, hm, hpm⟩ := this
            exact ih m hm (by omega) (by omega) hpm
      exact this j (Nat.le_refl _) (by omega) hpx
    · simpa using ha
  · intro ha
    have hn : ∀ j (hj : j < i), p (l[j]'(by omega)) = false := by
      intro j hj
      cases hq : p (l[j]'(by omega))
      · rfl
      · have : (l.take i).any p = true := List.any_eq_true.2 ⟨l[j]'(by omega), by rw [show l[j]'(by omega) = (l.take i)[j]'(by rw [List.length_take]; omega) by rw [List.getElem_take]]; exact List.getElem_mem _, hq⟩
        rw [this] at ha; cases ha
    have := blkIdx_hit p l i 0 h hp hn
    simpa using this
theorem l3At_l0 (u s : Int) (l : List (S80)) (hl : l.length ≤ 1048577) (n : Int) : ∀ (d i : Nat), i + d = l.length →
    Ev (fun k => spec_l3At.l0 k [(⟨u, s, l⟩ : S25)] n (i : Int)) (blkIdx (fun x => x.f0 == n) (l.drop i) i) := by
  have hr : rd_T25 [(⟨u, s, l⟩ : S25)] 0 = ⟨u, s, l⟩ := rfl
  intro d
  induction d with
  | zero =>
    intro i hi
    rw [List.drop_of_length_le (by omega)]
    refine Ev_shift ?_; simp only [spec_l3At.l0, hr]
    exact Ev_pos (by simp) (Ev_neg (by omega) (Ev.now _))
  | succ d ih =>
    intro i hi
    have hlt : i < l.length := by omega
    rw [List.drop_eq_getElem_cons hlt]
    refine Ev_shift ?_; simp only [spec_l3At.l0, hr]
    rw [rdB l i hlt, w64 (by omega) (by omega)]
    refine Ev_pos (by simp) (Ev_pos (by omega) (Ev_pos (by omega) ?_))
    simp only [blkIdx]
    by_cases h : l[i].f0 = n
    · rw [if_pos (by simpa using h)]
      exact Ev_pos h (Ev.now _)
    · rw [if_neg (by simpa using h)]
      refine Ev_neg h ?_
      have := ih (i + 1) (by omega)
      simpa only [Int.natCast_add, Int.natCast_one] using this
theorem l3At_ev (u s : Int) (l : List (S80)) (hl : l.length ≤ 1048577) (n : Int) : Ev (fun k => spec_l3At.f k [(⟨u, s, l⟩ : S25)] n) (blkIdx (fun x => x.f0 == n) l 0) := by
  have := l3At_l0 u s l hl n l.length 0 (by omega)
  simpa [spec_l3At.f] using this
theorem l3Fault_l0 (u s : Int) (hu : u ≤ 64) (l : List (S80)) (hl : l.length ≤ 1048576) : ∀ (d i : Nat), i + d = l.length →
    Ev (fun k => spec_l3Fault.l0 k [(⟨u, s, l⟩ : S25)] (i : Int)) (blocksF u l d i) := by
  have hr : rd_T25 [(⟨u, s, l⟩ : S25)] 0 = ⟨u, s, l⟩ := rfl
  intro d
  induction d with
  | zero =>
    intro i hi
    refine Ev_shift ?_; simp only [spec_l3Fault.l0, hr]
    exact Ev_pos (by simp) (Ev_neg (by omega) (Ev.now _))
  | succ d ih =>
    intro i hi
    have hlt : i < l.length := by omega
    simp only [blocksF, List.getElem?_eq_getElem hlt]
    refine Ev_shift ?_; simp only [spec_l3Fault.l0, hr, f_in]
    rw [rdB l i hlt, w64 (by omega) (by omega)]
    refine Ev_pos (by simp) (Ev_pos (by omega) (Ev_pos (by omega) (Ev.bind (Ev_eq rfl) ?_)))
    by_cases c1 : 0 ≤ l[i].f0 ∧ l[i].f0 ≤ 400
    · rw [if_neg (by simpa using c1)]
      refine Ev_pos (by simpa using c1) (Ev.bind (Ev_eq rfl) ?_)
      by_cases c2 : 1 ≤ (l[i].f1.length : Int) ∧ (l[i].f1.length : Int) ≤ u
      · rw [if_neg (fun hn => hn c2)]
        refine Ev_pos (decide_eq_true c2) (Ev.bind (l3At_ev u s l (by omega) l[i].f0) ?_)
        have hx := blkIdx_this (fun x => x.f0 == l[i].f0) l i hlt (by simp)
        by_cases c3 : (l.take i).any (fun x => x.f0 == l[i].f0) = true
        · rw [if_pos c3]
          exact Ev_neg (fun e => by rw [hx.1 e] at c3; cases c3) (Ev.now _)
        · rw [if_neg c3]
          refine Ev_pos (hx.2 (by simpa using c3)) ?_
          have := ih (i + 1) (by omega)
          simpa only [Int.natCast_add, Int.natCast_one] using this
      · rw [if_pos c2]
        exact Ev_neg (by simpa using c2) (Ev.now _)
    · rw [if_pos c1]
      exact Ev_neg (by simpa using c1) (Ev.now _)
theorem l3Fault_ev (u s : Int) (l : List (S80)) (hl : l.length ≤ 1048576) : Ev (fun k => spec_l3Fault.f k [(⟨u, s, l⟩ : S25)]) (cacheF u s l) := by
  have hr : rd_T25 [(⟨u, s, l⟩ : S25)] 0 = ⟨u, s, l⟩ := rfl
  simp only [spec_l3Fault.f, hr, f_in]
  refine Ev_pos (by simp) (Ev.bind (Ev_eq rfl) ?_)
  unfold cacheF
  have bad : ¬ ((1 ≤ u ∧ u ≤ 64) ∧ (1 ≤ s ∧ s ≤ 6)) → Ev (fun k => spec_l3Fault.j0 k [(⟨u, s, l⟩ : S25)] true) (if ¬ ((1 ≤ u ∧ u ≤ 64) ∧ (1 ≤ s ∧ s ≤ 6)) then 3 else if (l.length : Int) > s then 2 else blocksF u l l.length 0) := by
    intro e
    refine Ev_r (if_pos e) (Ev_shift ?_); simp only [spec_l3Fault.j0]
    exact Ev_pos (by first | trivial | rfl | simp) (Ev.now _)
  by_cases c1 : 1 ≤ u ∧ u ≤ 64
  · refine Ev_pos (decide_eq_true c1) (Ev.bind (a := decide (1 ≤ s ∧ s ≤ 6)) (Ev_eq rfl) ?_)
    by_cases c2 : 1 ≤ s ∧ s ≤ 6
    · rw [decide_eq_true c2]
      refine Ev_r (if_neg (fun hn => hn ⟨c1, c2⟩)) (Ev_shift ?_); simp only [spec_l3Fault.j0, hr]
      refine Ev_neg (by simp) (Ev_pos (by simp) ?_)
      by_cases c3 : (l.length : Int) > s
      · exact Ev_r (if_pos c3) (Ev_pos c3 (Ev.now _))
      · refine Ev_r (if_neg c3) (Ev_neg c3 ?_)
        simpa using l3Fault_l0 u s c1.2 l hl l.length 0 (by omega)
    · rw [decide_eq_false c2]
      exact bad (fun e => c2 e.2)
  · exact Ev_neg (by simpa using c1) (bad (fun e => c1 e.1))
theorem iCacheFault_l0 (u s : Int) (hu : u ≤ 64) (l : List (S80)) (hl : l.length ≤ 1048576) : ∀ (d i : Nat), i + d = l.length →
    Ev (fun k => impl_CacheFault.l0 k l (l.length : Int) (i : Int) u s l) (blocksF u l d i) := by
  intro d
  induction d with
  | zero =>
    intro i hi
    refine Ev_shift ?_; simp only [impl_CacheFault.l0]
    exact Ev_neg (by omega) (Ev.now _)
  | succ d ih =>
    intro i hi
    have hlt : i < l.length := by omega
    simp only [blocksF, List.getElem?_eq_getElem hlt]
    refine Ev_shift ?_; simp only [impl_CacheFault.l0, f_within, impl_blockAt.f]
    rw [rdB l i hlt, w64 (by omega) (by omega)]
    refine Ev_pos (by omega) (Ev_pos (by omega) (Ev_pos (by omega) (Ev.bind (Ev_eq rfl) ?_)))
    by_cases c1 : 0 ≤ l[i].f0 ∧ l[i].f0 ≤ 400
    · rw [if_neg (by simpa using c1)]
      refine Ev_pos (by simpa using c1) (Ev.bind (Ev_eq rfl) ?_)
      by_cases c2 : 1 ≤ (l[i].f1.length : Int) ∧ (l[i].f1.length : Int) ≤ u
      · rw [if_neg (fun hn => hn c2), Int.toNat_natCast]
        refine Ev_pos (decide_eq_true c2) (Ev_pos (by omega) (Ev.bind (Ev_eq rfl) ?_))
        have hx := blkIdx_any (fun x => x.f0 == l[i].f0) (l.take i) 0
        by_cases c3 : (l.take i).any (fun x => x.f0 == l[i].f0) = true
        · rw [if_pos c3]
          exact Ev_pos (hx.2 c3) (Ev.now _)
        · rw [if_neg c3]
          refine Ev_neg (fun e => c3 (hx.1 e)) ?_
          have := ih (i + 1) (by omega)
          simpa only [Int.natCast_add, Int.natCast_one] using this
      · rw [if_pos c2]
        exact Ev_neg (by simpa using c2) (Ev.now _)
    · rw [if_pos c1]
      exact Ev_neg (by simpa using c1) (Ev.now _)
theorem iCacheFault_ev (u s : Int) (l : List (S80)) (hl : l.length ≤ 1048576) : Ev (fun k => impl_CacheFault.f k u s l) (cacheF u s l) := by
  simp only [impl_CacheFault.f, f_within]
  refine Ev.bind (Ev_eq rfl) ?_
  unfold cacheF
  have bad : ¬ ((1 ≤ u ∧ u ≤ 64) ∧ (1 ≤ s ∧ s ≤ 6)) → Ev (fun k => impl_CacheFault.j0 k true u s l) (if ¬ ((1 ≤ u ∧ u ≤ 64) ∧ (1 ≤ s ∧ s ≤ 6)) then 3 else if (l.length : Int) > s then 2 else blocksF u l l.length 0) := by
    intro e
    refine Ev_r (if_pos e) (Ev_shift ?_); simp only [impl_CacheFault.j0]
    exact Ev_pos (by first | trivial | rfl | simp) (Ev.now _)
  by_cases c1 : 1 ≤ u ∧ u ≤ 64
  · refine Ev_pos (decide_eq_true c1) (Ev.bind (a := decide (1 ≤ s ∧ s ≤ 6)) (Ev_eq rfl) ?_)
    by_cases c2 : 1 ≤ s ∧ s ≤ 6
    · rw [decide_eq_true c2]
      refine Ev_r (if_neg (fun hn => hn ⟨c1, c2⟩)) (Ev_shift ?_); simp only [impl_CacheFault.j0]
      refine Ev_neg (by simp) ?_
      by_cases c3 : (l.length : Int) > s
      · exact Ev_r (if_pos c3) (Ev_pos c3 (Ev.now _))
      · refine Ev_r (if_neg c3) (Ev_neg c3 ?_)
        simpa using iCacheFault_l0 u s c1.2 l hl l.length 0 (by omega)
    · rw [decide_eq_false c2]
      exact bad (fun e => c2 e.2)
  · exact Ev_neg (by simpa using c1) (bad (fun e => c1 e.1))
/-- A loop that writes a running count into a row, s to an element. -/
theorem mark_loop {β : Type} (s : Nat) (V : Int → β) (n : Nat) (G : Nat → List β → Int → Int → Option (Int × List β)) (m0 : Int)
    (hend : ∀ x m, x.length = n → Ev (fun k => G k x m (n : Int)) (m, x))
    (hstep : ∀ (i : Nat) (x : List β) (r : Int × List β), i < n → x.length = n → Ev (fun k => G k (x.set i (V (m0 + s * i))) (m0 + s * (i + 1 : Nat)) ((i : Int) + 1)) r → Ev (fun k => G k x (m0 + s * i) (i : Int)) r)
    (x : List β) (hx : x.length = n) : Ev (fun k => G k x m0 0) (m0 + s * n, (List.range n).map fun j : Nat => V (m0 + s * j)) := by
  have main : ∀ (d i : Nat) (x : List β), x.length = n → i + d = n → (∀ (j : Nat) (hj : j < i) (hx : j < x.length), x[j] = V (m0 + s * j)) → Ev (fun k => G k x (m0 + s * i) (i : Int)) (m0 + s * n, (List.range n).map fun j : Nat => V (m0 + s * j)) := by
    intro d
    induction d with
    | zero =>
      intro i x hx hi hp
      obtain rfl : i = n := by omega
      have : x = (List.range i).map fun j : Nat => V (m0 + s * j) := by
        apply List.ext_getElem (by simp [hx])
        intro j h1 h2
        rw [List.getElem_map, List.getElem_range]
        exact hp j (by omega) h1
      rw [← this]
      exact hend x _ hx
    | succ d ih =>
      intro i x hx hi hp
      refine hstep i x _ (by omega) hx ?_
      have := ih (i + 1) (x.set i (V (m0 + s * i))) (by simp [hx]) (by omega) (fun j hj hx' => by
        rw [List.getElem_set]
        split
        · rename_i e; subst e; rfl
        · exact hp j (by omega) (by simpa using hx'))
      simpa using this
  have := main n 0 x hx (by omega) (fun j hj => absurd hj (by omega))
  simpa using this
/-- A loop that holds a row against a running count. -/
theorem held_loop (s n : Nat) (G : Nat → Int → Int → Option Int) (m0 : Int)
    (hend : ∀ m, Ev (fun k => G k m (n : Int)) m)
    (hstep : ∀ (i : Nat) (r : Int), i < n → Ev (fun k => G k (m0 + s * (i + 1 : Nat)) ((i : Int) + 1)) r → Ev (fun k => G k (m0 + s * i) (i : Int)) r) :
    Ev (fun k => G k m0 0) (m0 + s * n) := by
  have main : ∀ (d i : Nat), i + d = n → Ev (fun k => G k (m0 + s * i) (i : Int)) (m0 + s * n) := by
    intro d
    induction d with
    | zero => intro i hi; obtain rfl : i = n := by omega
              exact hend _
    | succ d ih =>
      intro i hi
      refine hstep i _ (by omega) ?_
      have := ih (i + 1) (by omega)
      simpa using this
  have := main n 0 (by omega)
  simpa using this

def mkB (n : Nat) (m : Int) : List Int := (List.range n).map fun j : Nat => (m + (1 : Nat) * j) % 256
theorem mkB_len (n : Nat) (m : Int) : (mkB n m).length = n := by simp [mkB]
theorem markByteS_ev (l : List Int) (m : Int) (h : l.length ≤ 1099511627776) (h0 : 0 ≤ m) (h1 : m ≤ 1125899906842624) : Ev (fun k => laws_markByteS.f k l m) (m + l.length, mkB l.length m) := by
  simp only [laws_markByteS.f]
  have main := mark_loop 1 (fun m => m % 256) l.length (fun k x m i => laws_markByteS.l0 k x m i) m (fun x m hx => by
      refine Ev_shift ?_; simp only [laws_markByteS.l0]
      exact Ev_neg (by omega) (Ev.now _))
    (fun i x r hi hx hr => by
      refine Ev_shift ?_; simp only [laws_markByteS.l0]
      refine Ev_pos (by omega) (Ev_pos (by omega) ?_)
      rw [w64 (x := _ + 1) (by omega) (by omega), w64 (x := (i : Int) + 1) (by omega) (by omega), Int.toNat_natCast]
      have e : m + ((1 : Nat) : Int) * (i : Int) + 1 = m + ((1 : Nat) : Int) * ((i + 1 : Nat) : Int) := by omega
      rw [e]
      exact hr) l rfl
  simpa [mkB] using main
theorem heldByteS_ev (n : Nat) (m : Int) (h : n ≤ 1099511627776) (h0 : 0 ≤ m) (h1 : m ≤ 1125899906842624) : Ev (fun k => laws_heldByteS.f k (mkB n m) m) (m + n) := by
  simp only [laws_heldByteS.f]
  have main := held_loop 1 n (fun k q i => laws_heldByteS.l0 k (mkB n m) q i) m (fun q => by
      refine Ev_shift ?_; simp only [laws_heldByteS.l0, mkB_len]
      exact Ev_neg (by omega) (Ev.now _))
    (fun i r hi hr => by
      refine Ev_shift ?_; simp only [laws_heldByteS.l0, mkB_len]
      have e0 : rd (mkB n m) (i : Int) = (m + ((1 : Nat) : Int) * (i : Int)) % 256 := by
        rw [rd_nat _ _ (by rw [mkB_len]; exact hi)]
        simp [mkB]
      refine Ev_pos (by omega) (Ev_pos (by omega) (Ev_pos e0 ?_))
      rw [w64 (x := _ + 1) (by omega) (by omega), w64 (x := (i : Int) + 1) (by omega) (by omega)]
      have e : m + ((1 : Nat) : Int) * (i : Int) + 1 = m + ((1 : Nat) : Int) * ((i + 1 : Nat) : Int) := by omega
      rw [e]
      exact hr)
  simpa using main

/-- The blocks with a running count laid into them; the count behind them. -/
def mkBl : List (S80) → Int → List (S80)
  | [], _ => []
  | b :: bs, m => ⟨m, mkB b.f1.length (m + 1)⟩ :: mkBl bs (m + 1 + b.f1.length)
def mkBn : List (S80) → Int → Int
  | [], m => m
  | b :: bs, m => mkBn bs (m + 1 + b.f1.length)
theorem mkBn_ge : ∀ (l : List (S80)) (m : Int), m ≤ mkBn l m
  | [], m => Int.le_refl _
  | b :: bs, m => by have := mkBn_ge bs (m + 1 + b.f1.length); simp only [mkBn]; omega
theorem mkBl_len : ∀ (l : List (S80)) (m : Int), (mkBl l m).length = l.length
  | [], m => rfl
  | b :: bs, m => by simp [mkBl, mkBl_len bs]
theorem markBlockS_ev : ∀ (l : List (S80)) (m : Int), (∀ x ∈ l, x.f1.length ≤ 1048576) → 0 ≤ m → m + (l.length : Int) * 1048577 ≤ 1125899906842624 → Ev (fun k => laws_markBlockS.f k l m) (mkBn l m, mkBl l m)
  | [], m, _, _, _ => Ev.now _
  | b :: bs, m, hw, h0, h1 => by
    have hb := hw b (by simp)
    simp only [List.length_cons, Int.natCast_add, Int.natCast_one] at h1
    have ih := markBlockS_ev bs (m + 1 + b.f1.length) (fun x hx => hw x (by simp [hx])) (by omega) (by omega)
    simp only [laws_markBlockS.f, mkBl, mkBn]
    rw [w64 (x := m + 1) (by omega) (by omega)]
    exact Ev.bind (markByteS_ev b.f1 (m + 1) (by omega) (by omega) (by omega)) (Ev.bind ih (Ev.now _))
theorem heldBlockS_l0 (l0 : List (S80)) : ∀ (l pre : List (S80)) (m : Int), l0 = pre ++ mkBl l m → l0.length ≤ 1048576 → (∀ x ∈ l, x.f1.length ≤ 1048576) → 0 ≤ m → m + (l.length : Int) * 1048577 ≤ 1125899906842624 → Ev (fun k => laws_heldBlockS.l0 k l0 m (pre.length : Int)) (mkBn l m)
  | [], pre, m, e, hl, _, _, _ => by
    have : l0.length = pre.length := by rw [e]; simp [mkBl]
    refine Ev_shift ?_; simp only [laws_heldBlockS.l0]
    exact Ev_neg (by omega) (Ev.now _)
  | b :: bs, pre, m, e, hl, hw, h0, h1 => by
    have hb := hw b (by simp)
    simp only [List.length_cons, Int.natCast_add, Int.natCast_one] at h1
    have hlen : pre.length < l0.length := by rw [e]; simp [mkBl]
    have hat : rd_T80 l0 (pre.length : Int) = ⟨m, mkB b.f1.length (m + 1)⟩ := by
      rw [rdB l0 pre.length hlen]
      subst e
      simp [mkBl]
    have ih := heldBlockS_l0 l0 bs (pre ++ [⟨m, mkB b.f1.length (m + 1)⟩]) (m + 1 + b.f1.length) (by rw [e]; simp [mkBl]) hl (fun x hx => hw x (by simp [hx])) (by omega) (by omega)
    refine Ev_shift ?_; simp only [laws_heldBlockS.l0, hat, mkBn]
    rw [w64 (x := m + 1) (by omega) (by omega), w64 (x := (pre.length : Int) + 1) (by omega) (by omega)]
    refine Ev_pos (by omega) (Ev_pos (by omega) (Ev_pos (by first | trivial | rfl | simp) (Ev.bind (heldByteS_ev b.f1.length (m + 1) (by omega) (by omega) (by omega)) (Ev_neg (by omega) ?_))))
    simpa using ih
theorem heldBlockS_ev (l : List (S80)) (m : Int) (hl : l.length ≤ 1048576) (hw : ∀ x ∈ l, x.f1.length ≤ 1048576) (h0 : 0 ≤ m) (h1 : m ≤ 1125899906842) : Ev (fun k => laws_heldBlockS.f k (mkBl l m) m) (mkBn l m) := by
  have := heldBlockS_l0 (mkBl l m) l [] m rfl (by rw [mkBl_len]; exact hl) hw h0 (by omega)
  simpa [laws_heldBlockS.f] using this
theorem eqCacheResult_ev (c : Int) (r : List Int) (u s : Int) (l : List (S80)) (hr : r.length ≤ 1048576) (hl : l.length ≤ 1048576) (hw : ∀ x ∈ l, x.f1.length ≤ 1048576) : Ev (fun k => laws_eqCacheResult.f k c r u s l c r u s l) true := by
  simp only [laws_eqCacheResult.f]
  exact Ev_pos (by first | trivial | rfl | simp) (Ev.bind (eqByteS_ev r (by omega)) (Ev_pos (by first | trivial | rfl | simp) (Ev.bind (eqCache_ev u s l (by omega) (fun x hx => Nat.le_trans (hw x hx) (by omega))) (Ev_pos (by first | trivial | rfl | simp) (Ev.now _)))))
theorem heldCacheResult_ev (c : Int) (n : Nat) (u s : Int) (l : List (S80)) (hr : n ≤ 1048576) (hl : l.length ≤ 1048576) (hw : ∀ x ∈ l, x.f1.length ≤ 1048576) : Ev (fun k => laws_heldCacheResult.f k c (mkB n 1) u s (mkBl l (1 + n)) 1) (mkBn l (1 + n)) := by
  have h := mkBn_ge l (1 + n)
  simp only [laws_heldCacheResult.f, laws_heldCache.f]
  exact Ev.bind (heldByteS_ev n 1 (by omega) (by omega) (by omega)) (Ev_neg (by omega) (Ev.bind (Ev.bind (heldBlockS_ev l (1 + n) hl hw (by omega) (by omega)) (Ev_neg (by omega) (Ev.now _))) (Ev_neg (by omega) (Ev.now _))))
theorem mkBn_le : ∀ (l : List (S80)) (m : Int), (∀ x ∈ l, x.f1.length ≤ 1048576) → mkBn l m ≤ m + (l.length : Int) * 1048577
  | [], m, _ => by simp [mkBn]
  | b :: bs, m, h => by
    have hb := h b (by simp)
    have := mkBn_le bs (m + 1 + b.f1.length) (fun x hx => h x (by simp [hx]))
    simp only [mkBn, List.length_cons, Int.natCast_add, Int.natCast_one]
    omega

theorem l2Fault_f (l : List Int) : spec_l2Fault.f [(⟨l⟩ : S44)] = some (if (l.length : Int) > 400 then 2 else 0) := by
  simp only [spec_l2Fault.f, rd_T44, List.length_singleton]
  by_cases h : (l.length : Int) > 400 <;> simp [h]
theorem isLong_f (l : List Int) : impl_isLong.f l = some (decide ((l.length : Int) > 400)) := rfl
theorem l1Copy_f (l : List Int) (h : l.length ≤ 1048576) : spec_l1Copy.f l = some l := by
  simp only [spec_l1Copy.f, Option.bind_some, List.length_nil, List.nil_append]
  rw [if_pos (by omega)]
def BlockOk (u : Int) (x : S80) : Prop := (0 ≤ x.f0 ∧ x.f0 ≤ 400) ∧ (1 ≤ (x.f1.length : Int) ∧ (x.f1.length : Int) ≤ u)
def CacheOk (u s : Int) (l : List (S80)) : Prop :=
  (1 ≤ u ∧ u ≤ 64) ∧ (1 ≤ s ∧ s ≤ 6) ∧ (l.length : Int) ≤ s ∧ (∀ x ∈ l, BlockOk u x) ∧ l.Pairwise (fun a b => a.f0 ≠ b.f0)
theorem blocksF_zero (u : Int) (l : List (S80)) : ∀ (d i : Nat), i + d = l.length →
    (blocksF u l d i = 0 ↔ ∀ (j : Nat) (hj : j < l.length), i ≤ j → BlockOk u l[j] ∧ (l.take j).any (fun x => x.f0 == l[j].f0) = false) := by
  intro d
  induction d with
  | zero => intro i hi; exact ⟨fun _ j hj h => by omega, fun _ => rfl⟩
  | succ d ih =>
    intro i hi
    have hlt : i < l.length := by omega
    have ih' := ih (i + 1) (by omega)
    simp only [blocksF, List.getElem?_eq_getElem hlt]
    constructor
    · intro e j hj hij
      by_cases c1 : 0 ≤ l[i].f0 ∧ l[i].f0 ≤ 400
      · rw [if_neg (fun hn => hn c1)] at e
        by_cases c2 : 1 ≤ (l[i].f1.length : Int) ∧ (l[i].f1.length : Int) ≤ u
        · rw [if_neg (fun hn => hn c2)] at e
          by_cases c3 : (l.take i).any (fun x => x.f0 == l[i].f0) = true
          · rw [if_pos c3] at e; cases e
          · rw [if_neg c3] at e
            by_cases hji : j = i
            · subst hji; exact ⟨⟨c1, c2⟩, by simpa using c3⟩
            · exact ih'.1 e j hj (by omega)
        · rw [if_pos c2] at e; cases e
      · rw [if_pos c1] at e; cases e
    · intro h
      obtain ⟨⟨c1, c2⟩, c3⟩ := h i hlt (Nat.le_refl _)
      rw [if_neg (fun hn => hn c1), if_neg (fun hn => hn c2), if_neg (by rw [c3]; simp)]
      exact ih'.2 (fun j hj hij => h j hj (by omega))
theorem cacheF_zero (u s : Int) (l : List (S80)) : cacheF u s l = 0 ↔ CacheOk u s l := by
  have hz := blocksF_zero u l l.length 0 (by omega)
  unfold cacheF CacheOk
  have pw : (∀ (j : Nat) (hj : j < l.length), (l.take j).any (fun x => x.f0 == l[j].f0) = false) ↔ l.Pairwise (fun a b => a.f0 ≠ b.f0) := by
    rw [List.pairwise_iff_getElem]
    constructor
    · intro h i j hi hj hij e
      have := h j hj
      rw [List.any_eq_false] at this
      exact this l[i] (by rw [show l[i] = (l.take j)[i]'(by rw [List.length_take]; omega) by rw [List.getElem_take]]; exact List.getElem_mem _) (by simpa using e)
    · intro h j hj
      rw [List.any_eq_false]
      intro x hx
      obtain ⟨i, hi, rfl⟩ := List.getElem_of_mem hx
      rw [List.length_take] at hi
      rw [List.getElem_take]
      have := h i j (by omega) hj (by omega)
      simpa using this
  constructor
  · intro e
    by_cases c : (1 ≤ u ∧ u ≤ 64) ∧ (1 ≤ s ∧ s ≤ 6)
    · rw [if_neg (fun hn => hn c)] at e
      by_cases c3 : (l.length : Int) > s
      · rw [if_pos c3] at e; cases e
      · rw [if_neg c3] at e
        have h := hz.1 e
        refine ⟨c.1, c.2, by omega, fun x hx => ?_, pw.1 (fun j hj => (h j hj (by omega)).2)⟩
        obtain ⟨j, hj, rfl⟩ := List.getElem_of_mem hx
        exact (h j hj (by omega)).1
    · rw [if_pos c] at e; cases e
  · rintro ⟨h1, h2, h3, h4, h5⟩
    rw [if_neg (fun hn => hn ⟨h1, h2⟩), if_neg (by omega)]
    exact hz.2 (fun j hj _ => ⟨h4 _ (List.getElem_mem hj), pw.2 h5 j hj⟩)
/-- The code of a cache and a file. -/
def codeF (u s : Int) (l : List (S80)) (f : List Int) : Int := if cacheF u s l = 0 then (if (f.length : Int) > 400 then 2 else 0) else cacheF u s l
theorem l3Asked_ev (u s : Int) (l : List (S80)) (f : List Int) (hl : l.length ≤ 1048576) : Ev (fun k => spec_l3Asked.f k [(⟨u, s, l⟩ : S25)] [(⟨f⟩ : S44)]) (codeF u s l f) := by
  simp only [spec_l3Asked.f]
  refine Ev.bind (l3Fault_ev u s l hl) ?_
  unfold codeF
  by_cases h : cacheF u s l = 0
  · exact Ev_r (if_pos h) (Ev_pos h (Ev.bind (Ev_eq (l2Fault_f f)) (Ev.now _)))
  · exact Ev_r (if_neg h) (Ev_neg h (Ev.now _))
theorem iFileFault_f (f : List Int) : impl_FileFault.f f = some (if (f.length : Int) > 400 then 2 else 0) := by
  simp only [impl_FileFault.f, isLong_f, Option.bind_some, decide_eq_true_eq]
  by_cases h : (f.length : Int) > 400 <;> simp [h]
theorem cacheCode_ev (u s : Int) (l : List (S80)) (f : List Int) (hl : l.length ≤ 1048576) : Ev (fun k => impl_cacheCode.f k u s l f) (codeF u s l f) := by
  simp only [impl_cacheCode.f]
  refine Ev.bind (iCacheFault_ev u s l hl) ?_
  unfold codeF
  by_cases h : cacheF u s l = 0
  · exact Ev_r (if_pos h) (Ev_pos h (Ev.bind (Ev_eq (iFileFault_f f)) (Ev.now _)))
  · exact Ev_r (if_neg h) (Ev_neg h (Ev.now _))
theorem codeF_zero {u s : Int} {l : List (S80)} {f : List Int} (h : codeF u s l f = 0) : CacheOk u s l ∧ f.length ≤ 400 := by
  unfold codeF at h
  by_cases c : cacheF u s l = 0
  · rw [if_pos c] at h
    refine ⟨(cacheF_zero u s l).1 c, ?_⟩
    by_cases c2 : (f.length : Int) > 400
    · rw [if_pos c2] at h; cases h
    · omega
  · rw [if_neg c] at h; exact absurd h c

theorem clone_f (l : List Int) (h : l.length ≤ 1048576) : slices_Clone_byte_byte.f l = some l := by
  simp only [slices_Clone_byte_byte.f, Option.bind_some]
  rw [if_pos (by simp; omega)]; simp
theorem ownBlock_f (a : Int) (l : List Int) (h : l.length ≤ 1048576) : impl_ownBlock.f a l = some (a, l) := by
  simp only [impl_ownBlock.f, clone_f l h, Option.bind_some]
theorem ownCache_l0 (u s : Int) (l : List (S80)) (hl : l.length ≤ 1048576) (hw : ∀ x ∈ l, x.f1.length ≤ 1048576) : ∀ (d i : Nat), i + d = l.length → Ev (fun k => impl_ownCache.l0 k l (l.length : Int) (i : Int) u s (l.take i)) (u, s, l) := by
  intro d
  induction d with
  | zero =>
    intro i hi
    refine Ev_shift ?_; simp only [impl_ownCache.l0]
    refine Ev_neg (by omega) ?_
    rw [List.take_of_length_le (by omega)]
    exact Ev.now _
  | succ d ih =>
    intro i hi
    have hlt : i < l.length := by omega
    have h := ih (i + 1) (by omega)
    refine Ev_shift ?_; simp only [impl_ownCache.l0]
    rw [rdB l i hlt, w64 (by omega) (by omega), ownBlock_f _ _ (hw _ (List.getElem_mem hlt))]
    refine Ev_pos (by omega) (Ev_pos (by omega) (Ev_pos (by omega) ?_))
    simp only [Option.bind_some]
    refine Ev_pos (by rw [List.length_take]; omega) ?_
    rw [List.take_succ_eq_append_getElem hlt] at h
    simpa only [Int.natCast_add, Int.natCast_one] using h
theorem ownCache_ev (u s : Int) (l : List (S80)) (hl : l.length ≤ 1048576) (hw : ∀ x ∈ l, x.f1.length ≤ 1048576) : Ev (fun k => impl_ownCache.f k u s l) (u, s, l) := by
  have := ownCache_l0 u s l hl hw l.length 0 (by omega)
  simpa [impl_ownCache.f] using this

def partF (l : List Int) (a n m : Int) : List Int := if a ≥ (l.length : Int) then [] else (l.drop a.toNat).take (min (min (((l.drop a.toNat).length : Nat) : Int) n) m).toNat
theorem l1Min_f (a b : Int) : spec_l1Min.f a b = some (min a b) := by
  simp only [spec_l1Min.f]
  by_cases h : a < b
  · rw [if_pos h, show min a b = a by omega]
  · rw [if_neg h, show min a b = b by omega]
theorem l2Part_f (l : List Int) (hl : l.length ≤ 400) (a n m : Int) (h0 : 0 ≤ a) (hn : 0 ≤ n ∧ n ≤ 400) (hm : 1 ≤ m ∧ m ≤ 400) : spec_l2Part.f [(⟨l⟩ : S44)] a n m = some (partF l a n m) := by
  have hr : rd_T44 [(⟨l⟩ : S44)] 0 = ⟨l⟩ := rfl
  simp only [spec_l2Part.f, hr, l1Min_f, Option.bind_some]
  rw [if_pos (by simp)]
  unfold partF
  by_cases h : a ≥ (l.length : Int)
  · rw [if_pos h, if_pos h]
  · rw [if_neg h, if_neg h, w64 (x := (l.length : Int) - a) (by omega) (by omega)]
    have hd : (l.drop a.toNat).length = l.length - a.toNat := List.length_drop
    obtain ⟨q, hq⟩ : ∃ q : Int, min (min n m) ((l.length : Int) - a) = q := ⟨_, rfl⟩
    rw [hq, w64 (x := a + q) (by omega) (by omega), if_pos h0, if_pos (by omega), if_pos (by omega), l1Copy_f _ (by simp; omega)]
    simp only [Option.bind_some]
    rw [List.drop_take, show (a + q).toNat - a.toNat = (min (min (((l.drop a.toNat).length : Nat) : Int) n) m).toNat by omega]
theorem readPart_f (l : List Int) (a n m : Int) (h0 : 0 ≤ a) (hn : 0 ≤ n ∧ n ≤ 400) (hm : 1 ≤ m ∧ m ≤ 400) : impl_readPart.f l a n m = some (partF l a n m) := by
  unfold impl_readPart.f partF
  by_cases h : a ≥ (l.length : Int)
  · rw [if_pos h, if_pos h]
  · rw [if_neg h, if_neg h, if_pos h0, if_pos (by omega)]
theorem partF_le (l : List Int) (a n m : Int) (hn : 0 ≤ n) : ((partF l a n m).length : Int) ≤ n := by
  unfold partF
  split
  · simpa using hn
  · rw [List.length_take]; omega
/-- What is read of a block, part by part. -/
def loadF (f : List Int) (b u m : Int) : Nat → List Int → List Int
  | 0, bs => bs
  | d + 1, bs => if (partF f (b + bs.length) (u - bs.length) m).length = 0 then bs else loadF f b u m d (bs ++ partF f (b + bs.length) (u - bs.length) m)
theorem loadF_le (f : List Int) (b u m : Int) : ∀ (d : Nat) (bs : List Int), (bs.length : Int) ≤ u → ((loadF f b u m d bs).length : Int) ≤ u
  | 0, bs, h => h
  | d + 1, bs, h => by
    simp only [loadF]
    split
    · exact h
    · have := partF_le f (b + bs.length) (u - bs.length) m (by omega)
      exact loadF_le f b u m d _ (by rw [List.length_append]; omega)
theorem partF_none (l : List Int) (a m : Int) : (partF l a 0 m).length = 0 := by
  have := partF_le l a 0 m (by omega)
  omega
theorem implLoad_ev (f : List Int) (u num m : Int) (hu : 1 ≤ u ∧ u ≤ 64) (hn : 0 ≤ num ∧ num ≤ 1000) (hm : 1 ≤ m ∧ m ≤ 400) : ∀ (d : Nat) (bs : List Int), (bs.length : Int) ≤ u → u - bs.length < d → Ev (fun k => impl_fetch.l0 f u num m k bs) (loadF f (num * u) u m d bs)
  | 0, bs, h0, h1 => by omega
  | d + 1, bs, h0, h1 => by
    have m0 : 0 ≤ num * u := Int.mul_nonneg hn.1 (by omega)
    have m1 : num * u ≤ 1000 * 64 := Int.mul_le_mul hn.2 hu.2 (by omega) (by omega)
    have hp := partF_le f (num * u + bs.length) (u - bs.length) m (by omega)
    refine Ev_shift ?_; simp only [impl_fetch.l0, loadF]
    rw [w64 (x := num * u) (by omega) (by omega), w64 (x := num * u + (bs.length : Int)) (by omega) (by omega), w64 (x := u - (bs.length : Int)) (by omega) (by omega), readPart_f f _ _ m (by omega) (by omega) hm]
    simp only [Option.bind_some]
    by_cases h : (partF f (num * u + bs.length) (u - bs.length) m).length = 0
    · exact Ev_r (if_pos h) (Ev_pos h (Ev.now _))
    · refine Ev_r (if_neg h) (Ev_neg h (Ev_pos (by omega) ?_))
      exact implLoad_ev f u num m hu hn hm d _ (by rw [List.length_append]; omega) (by rw [List.length_append]; omega)
theorem specLoad_ev (f : List Int) (hf : f.length ≤ 400) (u num m : Int) (hu : 1 ≤ u ∧ u ≤ 64) (hn : 0 ≤ num ∧ num ≤ 1000) (hm : 1 ≤ m ∧ m ≤ 400) : ∀ (d : Nat) (bs : List Int), (bs.length : Int) ≤ u → u - bs.length < d → Ev (fun k => spec_l3Load.l0 k [(⟨f⟩ : S44)] (num * u) u m bs) (loadF f (num * u) u m d bs)
  | 0, bs, h0, h1 => by omega
  | d + 1, bs, h0, h1 => by
    have m0 : 0 ≤ num * u := Int.mul_nonneg hn.1 (by omega)
    have m1 : num * u ≤ 1000 * 64 := Int.mul_le_mul hn.2 hu.2 (by omega) (by omega)
    have hp := partF_le f (num * u + bs.length) (u - bs.length) m (by omega)
    refine Ev_shift ?_; simp only [spec_l3Load.l0, loadF]
    by_cases hl : (bs.length : Int) < u
    · refine Ev_pos hl ?_
      rw [w64 (x := num * u + (bs.length : Int)) (by omega) (by omega), w64 (x := u - (bs.length : Int)) (by omega) (by omega), l2Part_f f hf _ _ m (by omega) (by omega) hm]
      simp only [Option.bind_some]
      by_cases h : (partF f (num * u + bs.length) (u - bs.length) m).length = 0
      · exact Ev_r (if_pos h) (Ev_pos (by omega) (Ev.now _))
      · refine Ev_r (if_neg h) (Ev_neg (by omega) (Ev_pos (by omega) ?_))
        exact specLoad_ev f hf u num m hu hn hm d _ (by rw [List.length_append]; omega) (by rw [List.length_append]; omega)
    · have e : u - (bs.length : Int) = 0 := by omega
      rw [e, if_pos (partF_none f _ m)]
      exact Ev_neg hl (Ev.now _)
/-- A cache's blocks without one. -/
def lessL (l : List (S80)) (i : Int) : List (S80) := if 0 ≤ i then l.eraseIdx i.toNat else l
theorem lessL_len (l : List (S80)) (i : Int) : (lessL l i).length ≤ l.length := by
  unfold lessL
  split
  · exact List.length_eraseIdx_le ..
  · exact Nat.le_refl _
theorem lessL_mem {l : List (S80)} {i : Int} {x : S80} (h : x ∈ lessL l i) : x ∈ l := by
  unfold lessL at h
  split at h
  · exact List.mem_of_mem_eraseIdx h
  · exact h
theorem lessL_step (l : List (S80)) (i : Int) (j : Nat) (hj : j < l.length) : lessL (l.take (j + 1)) i = if (j : Int) = i then lessL (l.take j) i else lessL (l.take j) i ++ [l[j]] := by
  have e := List.take_succ_eq_append_getElem hj
  have hlen : (l.take j).length = j := by rw [List.length_take]; omega
  unfold lessL
  by_cases hi : 0 ≤ i
  · rw [if_pos hi, if_pos hi]
    by_cases hji : (j : Int) = i
    · have h1 : (l.take j ++ [l[j]]).eraseIdx i.toNat = l.take j := by
        rw [List.eraseIdx_append_of_length_le (by omega), hlen]
        have : i.toNat - j = 0 := by omega
        rw [this]; simp
      have h2 : (l.take j).eraseIdx i.toNat = l.take j := List.eraseIdx_of_length_le (by omega)
      rw [if_pos hji, e, h1, h2]
    · rw [if_neg hji]
      by_cases hlt : i.toNat < j
      · rw [e, List.eraseIdx_append_of_lt_length (by omega)]
      · rw [List.eraseIdx_of_length_le (by rw [List.length_take]; omega), List.eraseIdx_of_length_le (by omega), e]
  · rw [if_neg hi, if_neg hi, if_neg (by omega), e]
theorem l3Less_l0 (u s : Int) (l : List (S80)) (i : Int) (hl : l.length ≤ 1048577) (hw : ∀ x ∈ l, x.f1.length ≤ 1048576) : ∀ (d j : Nat), j + d = l.length → Ev (fun k => spec_l3Less.l0 k i (j : Int) u s l u s (lessL (l.take j) i)) (u, s, lessL l i) := by
  intro d
  induction d with
  | zero =>
    intro j hj
    refine Ev_shift ?_; simp only [spec_l3Less.l0]
    refine Ev_neg (by omega) ?_
    rw [List.take_of_length_le (by omega)]
    exact Ev.now _
  | succ d ih =>
    intro j hj
    have hlt : j < l.length := by omega
    have h := ih (j + 1) (by omega)
    have hlen := lessL_len (l.take j) i
    rw [List.length_take] at hlen
    rw [lessL_step l i j hlt] at h
    refine Ev_shift ?_; simp only [spec_l3Less.l0]
    rw [rdB l j hlt, w64 (x := (j : Int) + 1) (by omega) (by omega), l1Copy_f _ (hw _ (List.getElem_mem hlt))]
    refine Ev_pos (by omega) ?_
    by_cases hji : (j : Int) = i
    · rw [if_pos hji] at h
      refine Ev_pos hji ?_
      simpa only [Int.natCast_add, Int.natCast_one] using h
    · rw [if_neg hji] at h
      refine Ev_neg hji (Ev_pos (by omega) ?_)
      simp only [Option.bind_some]
      refine Ev_pos (by omega) ?_
      simpa only [Int.natCast_add, Int.natCast_one] using h
theorem l3Less_ev (u s : Int) (l : List (S80)) (i : Int) (hl : l.length ≤ 1048577) (hw : ∀ x ∈ l, x.f1.length ≤ 1048576) : Ev (fun k => spec_l3Less.f k u s l i) (u, s, lessL l i) := by
  have h := l3Less_l0 u s l i hl hw l.length 0 (by omega)
  have e : lessL (l.take 0) i = [] := by unfold lessL; split <;> simp
  rw [e] at h
  simpa [spec_l3Less.f] using h
/-- What a fetch gives: the bytes, the blocks. -/
def putF (s : Int) (l : List (S80)) (b : S80) : List Int × List (S80) := if 0 < b.f1.length then (b.f1, (l ++ [b]).drop (l.length + 1 - s.toNat)) else (b.f1, l)
def fetchB (u : Int) (l : List (S80)) (f : List Int) (num m : Int) : List Int := if 0 ≤ blkIdx (fun x => x.f0 == num) l 0 then (rd_T80 l (blkIdx (fun x => x.f0 == num) l 0)).f1 else loadF f (num * u) u m (u.toNat + 1) []
def fetchR (u s : Int) (l : List (S80)) (f : List Int) (num m : Int) : List Int × List (S80) := putF s (lessL l (blkIdx (fun x => x.f0 == num) l 0)) ⟨num, fetchB u l f num m⟩
theorem fetchB_le {u s : Int} {l : List (S80)} (ok : CacheOk u s l) (f : List Int) (num m : Int) : ((fetchB u l f num m).length : Int) ≤ u := by
  unfold fetchB
  obtain ⟨hu, hs, hls, hb, hp⟩ := ok
  by_cases h : 0 ≤ blkIdx (fun x => x.f0 == num) l 0
  · rw [if_pos h]
    have hi := blkIdx_hi (fun x => x.f0 == num) l 0
    have hlt : (blkIdx (fun x => x.f0 == num) l 0).toNat < l.length := by omega
    have e : rd_T80 l (blkIdx (fun x => x.f0 == num) l 0) = l[(blkIdx (fun x => x.f0 == num) l 0).toNat] := by
      have := rdB l (blkIdx (fun x => x.f0 == num) l 0).toNat hlt
      rwa [Int.toNat_of_nonneg h] at this
    rw [e]
    exact (hb _ (List.getElem_mem hlt)).2.2
  · rw [if_neg h]
    exact loadF_le f _ u m _ [] (by simp; omega)
theorem implPut_f (s : Int) (hs : 1 ≤ s ∧ s ≤ 6) (l : List (S80)) (hl : l.length ≤ 1048576) (b : S80) : impl_fetch.put s l b = some (putF s l b) := by
  simp only [impl_fetch.put, putF]
  by_cases h : 0 < b.f1.length
  · have e : wrap64 (((l.length + 1 : Nat) : Int) - s) = ((l.length + 1 : Nat) : Int) - s := w64 (by omega) (by omega)
    rw [if_pos h, if_pos h, if_pos (by omega), e, if_pos (by omega)]
    congr 3
    omega
  · rw [if_neg h, if_neg h]
theorem implFetch_ev (u s : Int) (l : List (S80)) (f : List Int) (num m : Int) (ok : CacheOk u s l) (hn : 0 ≤ num ∧ num ≤ 1000) (hm : 1 ≤ m ∧ m ≤ 400) : Ev (fun k => impl_fetch.f k u s l f num m) (fetchR u s l f num m) := by
  obtain ⟨hu, hs, hls, hb, hp⟩ := ok
  simp only [impl_fetch.f, fetchR, fetchB, lessL]
  by_cases h : 0 ≤ blkIdx (fun x => x.f0 == num) l 0
  · rw [if_pos h, if_pos h]
    refine Ev_pos h (Ev_pos (by omega) (Ev_eq (implPut_f s hs _ ?_ _)))
    exact Nat.le_trans (List.length_eraseIdx_le ..) (by omega)
  · rw [if_neg h, if_neg h]
    refine Ev_neg h (Ev.bind (implLoad_ev f u num m hu hn hm (u.toNat + 1) [] (by simp; omega) (by simp; omega)) (Ev_eq (implPut_f s hs l (by omega) _)))
theorem putF_less (s : Int) (hs : 1 ≤ s) (l : List (S80)) (b : S80) (hl : (l.length : Int) ≤ s) (h : 0 < b.f1.length) : putF s l b = (b.f1, if ((l ++ [b]).length : Int) > s then lessL (l ++ [b]) 0 else l ++ [b]) := by
  unfold putF
  rw [if_pos h]
  have hlen : (l ++ [b]).length = l.length + 1 := by simp
  by_cases hg : ((l ++ [b]).length : Int) > s
  · rw [if_pos hg]
    have e : l.length + 1 - s.toNat = 1 := by omega
    rw [e]
    unfold lessL
    rw [if_pos (by omega)]
    simp
  · rw [if_neg hg]
    have e : l.length + 1 - s.toNat = 0 := by omega
    rw [e, List.drop_zero]
theorem specFetch_j0 (u s : Int) (l : List (S80)) (ok : CacheOk u s l) (num i : Int) (bs : List Int) (hbs : (bs.length : Int) ≤ u) : Ev (fun k => spec_l3Fetch.j0 k num i bs u s l) (bs, u, s, (putF s (lessL l i) ⟨num, bs⟩).2) := by
  obtain ⟨hu, hs, hls, hb, hp⟩ := ok
  have hw : ∀ x ∈ l, x.f1.length ≤ 1048576 := fun x hx => by have := (hb x hx).2.2; omega
  have hll := lessL_len l i
  have hlw : ∀ x ∈ lessL l i, x.f1.length ≤ 1048576 := fun x hx => hw x (lessL_mem hx)
  refine Ev_shift ?_; simp only [spec_l3Fetch.j0]
  refine Ev.bind (l3Less_ev u s l i (by omega) hw) ?_
  by_cases h : (bs.length : Int) > 0
  · refine Ev_pos h (Ev.bind (Ev_eq (l1Copy_f bs (by omega))) (Ev_pos (by show (lessL l i).length < _; omega) ?_))
    have hpf := putF_less s hs.1 (lessL l i) (⟨num, bs⟩ : S80) (by omega) (by show 0 < bs.length; omega)
    simp only [Option.bind_some]
    rw [hpf]
    by_cases hg : ((lessL l i ++ [(⟨num, bs⟩ : S80)]).length : Int) > s
    · refine Ev_pos hg ?_
      rw [if_pos hg]
      refine Ev.bind (l3Less_ev u s _ 0 (by rw [List.length_append]; simp; omega) (fun x hx => ?_)) (Ev.now _)
      rcases List.mem_append.1 hx with hx | hx
      · exact hlw x hx
      · rw [List.mem_singleton.1 hx]; show bs.length ≤ _; omega
    · refine Ev_neg hg ?_
      rw [if_neg hg]
      exact Ev.now _
  · have e : putF s (lessL l i) (⟨num, bs⟩ : S80) = (bs, lessL l i) := by unfold putF; rw [if_neg (by show ¬ 0 < bs.length; omega)]
    rw [e]
    refine Ev_neg h (Ev_neg (by show ¬ ((lessL l i).length : Int) > s; omega) (Ev.now _))
theorem specFetch_ev (u s : Int) (l : List (S80)) (f : List Int) (hf : f.length ≤ 400) (num m : Int) (ok : CacheOk u s l) (hn : 0 ≤ num ∧ num ≤ 1000) (hm : 1 ≤ m ∧ m ≤ 400) : Ev (fun k => spec_l3Fetch.f k u s l [(⟨f⟩ : S44)] num m) ((fetchR u s l f num m).1, u, s, (fetchR u s l f num m).2) := by
  have hbs := fetchB_le ok f num m
  have hfst : (fetchR u s l f num m).1 = fetchB u l f num m := by unfold fetchR putF; split <;> rfl
  have hj := specFetch_j0 u s l ok num (blkIdx (fun x => x.f0 == num) l 0) (fetchB u l f num m) hbs
  rw [hfst]
  obtain ⟨hu, hs, hls, hb, hp⟩ := ok
  have hi := blkIdx_hi (fun x => x.f0 == num) l 0
  simp only [spec_l3Fetch.f]
  refine Ev.bind (l3At_ev u s l (by omega) num) ?_
  by_cases h : 0 ≤ blkIdx (fun x => x.f0 == num) l 0
  · refine Ev_pos h (Ev_pos h (Ev_pos (by omega) (Ev.bind (Ev_eq (l1Copy_f _ ?_)) ?_)))
    · unfold fetchB at hbs; rw [if_pos h] at hbs; omega
    · unfold fetchB at hj; rw [if_pos h] at hj
      unfold fetchR fetchB
      rw [if_pos h]
      exact hj
  · have m0 : 0 ≤ num * u := Int.mul_nonneg hn.1 (by omega)
    have m1 : num * u ≤ 1000 * 64 := Int.mul_le_mul hn.2 hu.2 (by omega) (by omega)
    refine Ev_neg h ?_
    rw [w64 (x := num * u) (by omega) (by omega)]
    refine Ev.bind (a := loadF f (num * u) u m (u.toNat + 1) []) ?_ ?_
    · have := specLoad_ev f hf u num m hu hn hm (u.toNat + 1) [] (by simp; omega) (by simp; omega)
      simpa only [spec_l3Load.f] using this
    · unfold fetchB at hj; rw [if_neg h] at hj
      unfold fetchR fetchB
      rw [if_neg h]
      exact hj
theorem blkIdx_none {p : S80 → Bool} {l : List (S80)} (h : ¬ 0 ≤ blkIdx p l 0) : ∀ x ∈ l, p x = false := by
  intro x hx
  cases hq : p x
  · rfl
  · exact absurd ((blkIdx_any p l 0).2 (List.any_eq_true.2 ⟨x, hx, hq⟩)) h
theorem loadF_some (f : List Int) (b u m : Int) : ∀ (d : Nat), 0 < (loadF f b u m d []).length → b < (f.length : Int)
  | 0, h => by simp [loadF] at h
  | d + 1, h => by
    simp only [loadF, List.length_nil, Int.natCast_zero, Int.add_zero, Int.sub_zero] at h
    by_cases hb : b < (f.length : Int)
    · exact hb
    · have e : partF f b u m = [] := by unfold partF; rw [if_pos (by omega)]
      rw [e] at h
      simp at h
theorem fetchR_ok {u s : Int} {l : List (S80)} (ok : CacheOk u s l) (f : List Int) (hf : f.length ≤ 400) (num m : Int) (hn : 0 ≤ num) : CacheOk u s (fetchR u s l f num m).2 := by
  have hbs := fetchB_le ok f num m
  obtain ⟨hu, hs, hls, hb, hp⟩ := ok
  have hll := lessL_len l (blkIdx (fun x => x.f0 == num) l 0)
  have hlp : (lessL l (blkIdx (fun x => x.f0 == num) l 0)).Pairwise (fun a b => a.f0 ≠ b.f0) := by
    unfold lessL
    split
    · exact hp.sublist (List.eraseIdx_sublist ..)
    · exact hp
  unfold fetchR putF
  by_cases h0 : 0 < (fetchB u l f num m).length
  · rw [if_pos (show 0 < (⟨num, fetchB u l f num m⟩ : S80).f1.length from h0)]
    have key : (0 ≤ num ∧ num ≤ 400) ∧ ∀ x ∈ lessL l (blkIdx (fun x => x.f0 == num) l 0), x.f0 ≠ num := by
      by_cases h : 0 ≤ blkIdx (fun x => x.f0 == num) l 0
      · rcases blkIdx_spec (fun x : S80 => x.f0 == num) l 0 with e | ⟨i, hi, e, ht⟩
        · rw [e] at h; exact absurd h (by omega)
        · rw [Nat.zero_add] at e
          have hx : l[i].f0 = num := by simpa using ht
          refine ⟨hx ▸ (hb _ (List.getElem_mem hi)).1, fun x hx2 => ?_⟩
          unfold lessL at hx2
          rw [if_pos h, e, Int.toNat_natCast, List.eraseIdx_eq_take_drop_succ] at hx2
          have hsplit : l = l.take i ++ l[i] :: l.drop (i + 1) := (List.take_append_drop i l).symm.trans (by rw [List.drop_eq_getElem_cons hi])
          rw [hsplit, List.pairwise_append, List.pairwise_cons] at hp
          rcases List.mem_append.1 hx2 with h1 | h1
          · have := hp.2.2 x h1 l[i] (List.mem_cons.2 (.inl rfl))
            rw [hx] at this; exact this
          · have := hp.2.1.1 x h1
            rw [hx] at this; exact fun e => this e.symm
      · have hnone := blkIdx_none h
        refine ⟨?_, fun x hx2 => ?_⟩
        · unfold fetchB at h0
          rw [if_neg h] at h0
          have h1 := loadF_some f (num * u) u m _ h0
          have h2 : num * 1 ≤ num * u := Int.mul_le_mul_of_nonneg_left hu.1 hn
          omega
        · unfold lessL at hx2
          rw [if_neg h] at hx2
          have := hnone x hx2
          simpa using this
    refine ⟨hu, hs, ?_, fun x hx => ?_, ?_⟩
    · show ((_ ++ [_]).drop _).length ≤ s
      rw [List.length_drop, List.length_append, List.length_singleton]; omega
    · rcases List.mem_append.1 (List.mem_of_mem_drop hx) with hx | hx
      · exact hb x (lessL_mem hx)
      · rw [List.mem_singleton.1 hx]; exact ⟨key.1, by show 1 ≤ ((fetchB u l f num m).length : Int) ∧ ((fetchB u l f num m).length : Int) ≤ u; omega⟩
    · refine List.Pairwise.sublist (List.drop_sublist ..) ?_
      rw [List.pairwise_append]
      exact ⟨hlp, List.pairwise_singleton .., fun a ha b hb2 => by rw [List.mem_singleton.1 hb2]; exact key.2 a ha⟩
  · rw [if_neg (show ¬ 0 < (⟨num, fetchB u l f num m⟩ : S80).f1.length from h0)]
    exact ⟨hu, hs, by show ((lessL l _).length : Int) ≤ s; omega, fun x hx => hb x (lessL_mem hx), hlp⟩
theorem fetchR_le {u s : Int} {l : List (S80)} (ok : CacheOk u s l) (f : List Int) (num m : Int) : ((fetchR u s l f num m).1.length : Int) ≤ u := by
  have hfst : (fetchR u s l f num m).1 = fetchB u l f num m := by unfold fetchR putF; split <;> rfl
  rw [hfst]; exact fetchB_le ok f num m
/-- Blocks read one behind the other, until one is short. -/
def readF (u s : Int) (f : List Int) (hi m : Int) : Nat → List (S80) → Int → List Int → List Int × List (S80)
  | 0, l, _, o => (o, l)
  | d + 1, l, n, o => if n ≤ hi then (if ((fetchR u s l f n m).1.length : Int) < u then (o ++ (fetchR u s l f n m).1, (fetchR u s l f n m).2) else readF u s f hi m d (fetchR u s l f n m).2 (n + 1) (o ++ (fetchR u s l f n m).1)) else (o, l)
theorem readF_ok (u s : Int) (f : List Int) (hf : f.length ≤ 400) (hi m : Int) : ∀ (d : Nat) (l : List (S80)) (n : Int) (o : List Int), CacheOk u s l → 0 ≤ n → CacheOk u s (readF u s f hi m d l n o).2 ∧ (readF u s f hi m d l n o).1.length ≤ o.length + 64 * d
  | 0, l, n, o, ok, _ => ⟨ok, Nat.le_refl _⟩
  | d + 1, l, n, o, ok, hn => by
    have h1 := fetchR_ok ok f hf n m hn
    have h2 := fetchR_le ok f n m
    have h3 := ok.1
    simp only [readF]
    split
    · split
      · exact ⟨h1, by show (o ++ _).length ≤ _; rw [List.length_append]; omega⟩
      · have := readF_ok u s f hf hi m d (fetchR u s l f n m).2 (n + 1) (o ++ (fetchR u s l f n m).1) h1 (by omega)
        refine ⟨this.1, ?_⟩
        have h4 := this.2
        rw [List.length_append] at h4
        omega
    · exact ⟨ok, by show o.length ≤ _; omega⟩
theorem implRead_l0 (u s : Int) (f : List Int) (hf : f.length ≤ 400) (hi m : Int) (hh : hi ≤ 900) (hm : 1 ≤ m ∧ m ≤ 400) : ∀ (d : Nat) (l : List (S80)) (n : Int) (o : List Int), CacheOk u s l → 0 ≤ n → n ≤ 901 → hi < n + d → o.length + 64 * d ≤ 1000000 →
    ∃ K0, ∀ K, K0 ≤ K → ∀ j, d < j → impl_read.l0 K u s f hi m j l n o = some (readF u s f hi m d l n o)
  | 0, l, n, o, ok, hn, _, h1, _ => ⟨0, fun K _ j hj => by
    obtain ⟨j, rfl⟩ : ∃ j', j = j' + 1 := ⟨j - 1, by omega⟩
    simp only [impl_read.l0, readF]
    rw [if_neg (by omega)]⟩
  | d + 1, l, n, o, ok, hn, hn2, h1, h2 => by
    by_cases hc : n ≤ hi
    · obtain ⟨K1, e1⟩ := implFetch_ev u s l f n m ok ⟨hn, by omega⟩ hm
      have hle := fetchR_le ok f n m
      have hu := ok.1
      obtain ⟨K2, e2⟩ := implRead_l0 u s f hf hi m hh hm d (fetchR u s l f n m).2 (n + 1) (o ++ (fetchR u s l f n m).1) (fetchR_ok ok f hf n m hn) (by omega) (by omega) (by omega) (by rw [List.length_append]; omega)
      refine ⟨K1 + K2, fun K hK j hj => ?_⟩
      obtain ⟨j, rfl⟩ : ∃ j', j = j' + 1 := ⟨j - 1, by omega⟩
      simp only [impl_read.l0, readF]
      have e3 : impl_fetch.f K u s l f n m = some (fetchR u s l f n m) := e1 K (by omega)
      rw [if_pos hc, if_pos hc, e3]
      simp only [Option.bind_some]
      rw [if_pos (by omega), w64 (x := n + 1) (by omega) (by omega)]
      by_cases hs : ((fetchR u s l f n m).1.length : Int) < u
      · rw [if_pos hs, if_pos hs]
      · rw [if_neg hs, if_neg hs]
        exact e2 K (by omega) j (by omega)
    · refine ⟨0, fun K _ j hj => ?_⟩
      obtain ⟨j, rfl⟩ : ∃ j', j = j' + 1 := ⟨j - 1, by omega⟩
      simp only [impl_read.l0, readF]
      rw [if_neg hc, if_neg hc]
/-- What of the blocks was asked for. -/
def cutF (u a n : Int) (o : List Int) : List Int := (o.drop (a - a / u * u).toNat).take n.toNat
theorem cut_ok (u a n : Int) (hu : 1 ≤ u ∧ u ≤ 64) (ha : 0 ≤ a ∧ a ≤ 400) (hn : 0 ≤ n ∧ n ≤ 400) (o : List Int) (ho : o.length ≤ 1000000) (l : List (S80)) : impl_read.cut u a n o l = some (cutF u a n o, l) := by
  have e1 : Int.tdiv a u = a / u := Int.tdiv_eq_ediv_of_nonneg ha.1
  have q0 : 0 ≤ a / u := Int.ediv_nonneg ha.1 (by omega)
  have q1 : a / u ≤ a := Int.ediv_le_self u ha.1
  have q2 : a / u * u ≤ a := Int.ediv_mul_le a (by omega)
  have q3 : 0 ≤ a / u * u := Int.mul_nonneg q0 (by omega)
  simp only [impl_read.cut, e1, cutF]
  rw [w64 (x := a / u) (by omega) (by omega), w64 (x := a / u * u) (by omega) (by omega), w64 (x := a - a / u * u) (by omega) (by omega)]
  obtain ⟨dd, hdd⟩ : ∃ dd : Int, a - a / u * u = dd := ⟨_, rfl⟩
  rw [hdd]
  have d0 : 0 ≤ dd := by omega
  have d1 : dd ≤ 400 := by omega
  rw [w64 (x := min dd (o.length : Int) + n) (by omega) (by omega), if_pos (by omega), if_pos (by omega)]
  congr 2
  rw [List.drop_take]
  by_cases h : dd ≤ (o.length : Int)
  · have e2 : (min dd (o.length : Int)).toNat = dd.toNat := by omega
    rw [e2]
    by_cases h2 : dd + n ≤ (o.length : Int)
    · congr 1; omega
    · rw [List.take_of_length_le (by rw [List.length_drop]; omega), List.take_of_length_le (by rw [List.length_drop]; omega)]
  · rw [List.drop_of_length_le (by omega), List.drop_of_length_le (by omega)]
    simp
def rangeR (u s : Int) (l : List (S80)) (f : List Int) (a n m : Int) : List Int × List (S80) :=
  if n = 0 then ([], l) else (cutF u a n (readF u s f ((a + n - 1) / u) m 1000 l (a / u) []).1, (readF u s f ((a + n - 1) / u) m 1000 l (a / u) []).2)
theorem implRead_ev (u s : Int) (l : List (S80)) (f : List Int) (hf : f.length ≤ 400) (a n m : Int) (ok : CacheOk u s l) (ha : 0 ≤ a ∧ a ≤ 400) (hn : 0 ≤ n ∧ n ≤ 400) (hm : 1 ≤ m ∧ m ≤ 400) : Ev (fun k => impl_read.f k u s l f a n m) (rangeR u s l f a n m) := by
  have hu := ok.1
  simp only [impl_read.f, rangeR]
  by_cases h : n = 0
  · exact Ev_r (if_pos h) (Ev_pos h (Ev.now _))
  · refine Ev_r (if_neg h) (Ev_neg h (Ev_neg (by omega) ?_))
    have e1 : Int.tdiv a u = a / u := Int.tdiv_eq_ediv_of_nonneg ha.1
    have e2 : Int.tdiv (a + n - 1) u = (a + n - 1) / u := Int.tdiv_eq_ediv_of_nonneg (by omega)
    have q0 : 0 ≤ a / u := Int.ediv_nonneg ha.1 (by omega)
    have q1 : a / u ≤ a := Int.ediv_le_self u ha.1
    have p0 : 0 ≤ (a + n - 1) / u := Int.ediv_nonneg (by omega) (by omega)
    have p1 : (a + n - 1) / u ≤ a + n - 1 := Int.ediv_le_self u (by omega)
    rw [w64 (x := a + n) (by omega) (by omega), w64 (x := a + n - 1) (by omega) (by omega), e1, e2, w64 (x := a / u) (by omega) (by omega), w64 (x := (a + n - 1) / u) (by omega) (by omega)]
    obtain ⟨K0, hK⟩ := implRead_l0 u s f hf ((a + n - 1) / u) m (by omega) hm 1000 l (a / u) [] ok q0 (by omega) (by omega) (by simp)
    have hro := readF_ok u s f hf ((a + n - 1) / u) m 1000 l (a / u) [] ok q0
    refine ⟨K0 + 1001, fun k hk => ?_⟩
    dsimp only
    rw [hK k (by omega) k (by omega)]
    simp only [Option.bind_some]
    exact cut_ok u a n hu ha hn _ (by have := hro.2; simp at this; omega) _
/-- The row so far, asked for: what comes on. -/
theorem cutF_app (u a n : Int) (o b : List Int) (dd sk : Nat) (hdd : (a - a / u * u).toNat = dd) (h : (o = [] ∧ sk = dd) ∨ (dd ≤ o.length ∧ sk = 0)) : cutF u a n (o ++ b) = cutF u a n o ++ (b.drop sk).take (n.toNat - (cutF u a n o).length) := by
  unfold cutF
  rw [hdd]
  rcases h with ⟨rfl, rfl⟩ | ⟨h1, rfl⟩
  · simp
  · rw [List.drop_append_of_le_length h1, List.take_append, List.drop_zero]
    congr 2
    rw [List.length_take]
    omega
theorem range_step (u a n kk fi hi : Int) (o : List Int) (hu : 1 ≤ u ∧ u ≤ 64) (ha : 0 ≤ a ∧ a ≤ 400) (hn : 1 ≤ n ∧ n ≤ 400) (hfi : a / u = fi) (hhi : (a + n - 1) / u = hi) (h1 : fi ≤ kk) (h3 : kk ≤ hi) (h4 : (o.length : Int) = (kk - fi) * u) :
    ∃ sk : Nat, ((cutF u a n o).length : Int) < n ∧ (a + (cutF u a n o).length) / u = kk ∧ (a + (cutF u a n o).length) % u = sk ∧ ((o = [] ∧ sk = (a - a / u * u).toNat) ∨ ((a - a / u * u).toNat ≤ o.length ∧ sk = 0)) := by
  have q2 : a / u * u ≤ a := Int.ediv_mul_le a (by omega)
  have q3 : a < (a / u + 1) * u := Int.lt_ediv_add_one_mul_self a (by omega)
  have p2 : (a + n - 1) / u * u ≤ a + n - 1 := Int.ediv_mul_le _ (by omega)
  have m1 : kk * u ≤ hi * u := Int.mul_le_mul_of_nonneg_right h3 (by omega)
  rw [Int.add_mul] at q3
  rw [Int.sub_mul] at h4
  rw [hfi] at q2 q3 ⊢
  rw [hhi] at p2
  have hlen : (cutF u a n o).length = min n.toNat (o.length - (a - fi * u).toNat) := by
    unfold cutF
    rw [hfi, List.length_take, List.length_drop]
  by_cases h0 : o = []
  · subst h0
    have e0 : (cutF u a n []).length = 0 := by rw [hlen]; simp
    have hk : kk = fi := by
      rcases Int.lt_or_eq_of_le h1 with h | h
      · have : (fi + 1) * u ≤ kk * u := Int.mul_le_mul_of_nonneg_right (by omega) (by omega)
        rw [Int.add_mul] at this
        simp at h4; omega
      · exact h.symm
    refine ⟨(a - fi * u).toNat, ?_, ?_, ?_, .inl ⟨rfl, rfl⟩⟩
    · rw [e0]; simp; omega
    · rw [e0, hk, ← hfi]; simp
    · rw [e0, Int.emod_def, Int.natCast_zero, Int.add_zero, hfi, Int.mul_comm u fi]; omega
  · have hop : 0 < o.length := List.length_pos_iff.2 h0
    have hk : fi + 1 ≤ kk := by
      rcases Int.lt_or_eq_of_le h1 with h | h
      · omega
      · rw [h] at h4; omega
    have m2 : (fi + 1) * u ≤ kk * u := Int.mul_le_mul_of_nonneg_right hk (by omega)
    rw [Int.add_mul] at m2
    have e0 : a + ((cutF u a n o).length : Int) = kk * u := by rw [hlen]; omega
    refine ⟨0, by omega, ?_, ?_, .inr ⟨by omega, rfl⟩⟩
    · rw [e0]; exact Int.mul_ediv_cancel kk (by omega)
    · rw [e0]; simp
theorem range_done (u a n kk fi hi : Int) (o : List Int) (hu : 1 ≤ u ∧ u ≤ 64) (ha : 0 ≤ a ∧ a ≤ 400) (hn : 1 ≤ n ∧ n ≤ 400) (hfi : a / u = fi) (hhi : (a + n - 1) / u = hi) (h3 : hi < kk) (h4 : (o.length : Int) = (kk - fi) * u) :
    ¬ ((cutF u a n o).length : Int) < n := by
  have q2 : a / u * u ≤ a := Int.ediv_mul_le a (by omega)
  have p3 : a + n - 1 < ((a + n - 1) / u + 1) * u := Int.lt_ediv_add_one_mul_self _ (by omega)
  have m1 : (hi + 1) * u ≤ kk * u := Int.mul_le_mul_of_nonneg_right (by omega) (by omega)
  rw [hfi] at q2
  rw [hhi] at p3
  rw [Int.sub_mul] at h4
  have hlen : (cutF u a n o).length = min n.toNat (o.length - (a - fi * u).toNat) := by
    unfold cutF
    rw [hfi, List.length_take, List.length_drop]
  rw [hlen]; omega
theorem specRange_l0 (u s : Int) (f : List Int) (hf : f.length ≤ 400) (a n m fi hi : Int) (hu : 1 ≤ u ∧ u ≤ 64) (ha : 0 ≤ a ∧ a ≤ 400) (hn : 1 ≤ n ∧ n ≤ 400) (hm : 1 ≤ m ∧ m ≤ 400) (hfi : a / u = fi) (hhi : (a + n - 1) / u = hi) (hf0 : 0 ≤ fi) (hh0 : hi ≤ 900) : ∀ (d : Nat) (l : List (S80)) (kk : Int) (o : List Int), CacheOk u s l → fi ≤ kk → hi < kk + d → (o.length : Int) = (kk - fi) * u →
    Ev (fun k => spec_l3Range.l0 k [(⟨f⟩ : S44)] a n m (cutF u a n o) u s l) (cutF u a n (readF u s f hi m d l kk o).1, u, s, (readF u s f hi m d l kk o).2) := by
  intro d
  induction d with
  | zero =>
    intro l kk o ok h1 h2 h4
    refine Ev_shift ?_; simp only [spec_l3Range.l0]
    exact Ev_neg (range_done u a n kk fi hi o hu ha hn hfi hhi (by omega) h4) (Ev.now _)
  | succ d ih =>
    intro l kk o ok h1 h2 h4
    refine Ev_shift ?_; simp only [spec_l3Range.l0, readF]
    by_cases h3 : kk ≤ hi
    · obtain ⟨sk, c1, c2, c3, c4⟩ := range_step u a n kk fi hi o hu ha hn hfi hhi h1 h3 h4
      have hle := fetchR_le ok f kk m
      have hok := fetchR_ok ok f hf kk m (by omega)
      have hfe := specFetch_ev u s l f hf kk m ok ⟨by omega, by omega⟩ hm
      have happ := cutF_app u a n o (fetchR u s l f kk m).1 _ sk rfl c4
      obtain ⟨rb, hrb⟩ : ∃ rb, (fetchR u s l f kk m).1 = rb := ⟨_, rfl⟩
      obtain ⟨rl, hrl⟩ : ∃ rl, (fetchR u s l f kk m).2 = rl := ⟨_, rfl⟩
      rw [hrb] at hle happ
      rw [hrl] at hok
      rw [hrb, hrl] at hfe
      obtain ⟨L, hL⟩ : ∃ L : Nat, (cutF u a n o).length = L := ⟨_, rfl⟩
      rw [hL] at c1 c2 c3 happ
      rw [if_pos h3, hrb, hrl]
      refine Ev_pos (by rw [hL]; exact c1) (Ev_neg (by omega) ?_)
      rw [hL, w64 (x := a + (L : Int)) (by omega) (by omega), Int.tdiv_eq_ediv_of_nonneg (by omega), c2, w64 (x := kk) (by omega) (by omega)]
      refine Ev.bind hfe ?_
      dsimp only
      rw [Int.tmod_eq_emod_of_nonneg (by omega), c3]
      refine Ev_neg (by omega) ?_
      by_cases h5 : (sk : Int) ≥ (rb.length : Int)
      · have e0 : rb.drop sk = [] := List.drop_of_length_le (by omega)
        rw [e0] at happ
        simp only [List.take_nil, List.append_nil] at happ
        have h6 : (rb.length : Int) < u := by
          have : (a + (L : Int)) % u < u := Int.emod_lt_of_pos _ (by omega)
          omega
        rw [if_pos h6]
        show Ev _ (cutF u a n (o ++ rb), u, s, rl)
        rw [happ]
        exact Ev_pos h5 (Ev.now _)
      · refine Ev_neg h5 ?_
        rw [w64 (x := n - (L : Int)) (by omega) (by omega), w64 (x := (rb.length : Int) - (sk : Int)) (by omega) (by omega)]
        obtain ⟨t, ht⟩ : ∃ t, min (n - (L : Int)) ((rb.length : Int) - (sk : Int)) = t := ⟨_, rfl⟩
        have hmn : spec_l1Min.f (n - (L : Int)) ((rb.length : Int) - (sk : Int)) = some t := by
          simp only [spec_l1Min.f]
          split
          · rw [← ht]; congr 1; omega
          · rw [← ht]; congr 1; omega
        refine Ev.bind (Ev_eq hmn) ?_
        rw [w64 (x := (sk : Int) + t) (by omega) (by omega)]
        refine Ev_pos (by omega) (Ev_pos (by omega) (Ev_pos (by omega) ?_))
        have hy : ((rb.take ((sk : Int) + t).toNat).drop (sk : Int).toNat) = (rb.drop sk).take (n.toNat - L) := by
          rw [List.drop_take, Int.toNat_natCast]
          by_cases h7 : n - (L : Int) ≤ (rb.length : Int) - (sk : Int)
          · congr 1; omega
          · rw [List.take_of_length_le (by rw [List.length_drop]; omega), List.take_of_length_le (by rw [List.length_drop]; omega)]
        rw [hy]
        simp only [Option.bind_some]
        rw [← happ]
        refine Ev_pos (by rw [List.length_take, List.length_drop]; omega) ?_
        by_cases h8 : (rb.length : Int) < u
        · rw [if_pos h8]
          exact Ev_pos h8 (Ev.now _)
        · rw [if_neg h8]
          refine Ev_neg h8 (ih rl (kk + 1) (o ++ rb) hok (by omega) (by omega) ?_)
          have e1 : (kk + 1 - fi) * u = (kk - fi) * u + u := by rw [show kk + 1 - fi = (kk - fi) + 1 by omega, Int.add_mul, Int.one_mul]
          rw [e1, List.length_append]; omega
    · rw [if_neg h3]
      exact Ev_neg (range_done u a n kk fi hi o hu ha hn hfi hhi (by omega) h4) (Ev.now _)
theorem specRange_ev (u s : Int) (l : List (S80)) (f : List Int) (hf : f.length ≤ 400) (a n m : Int) (ok : CacheOk u s l) (ha : 0 ≤ a ∧ a ≤ 400) (hn : 0 ≤ n ∧ n ≤ 400) (hm : 1 ≤ m ∧ m ≤ 400) : Ev (fun k => spec_l3Range.f k u s l [(⟨f⟩ : S44)] a n m) ((rangeR u s l f a n m).1, u, s, (rangeR u s l f a n m).2) := by
  have hu := ok.1
  simp only [spec_l3Range.f, rangeR]
  by_cases h : n = 0
  · rw [if_pos h]
    refine Ev_shift ?_; simp only [spec_l3Range.l0]
    exact Ev_neg (by simp; omega) (Ev.now _)
  · rw [if_neg h]
    have q0 : 0 ≤ a / u := Int.ediv_nonneg ha.1 (by omega)
    have p1 : (a + n - 1) / u ≤ a + n - 1 := Int.ediv_le_self u (by omega)
    have h9 := specRange_l0 u s f hf a n m (a / u) ((a + n - 1) / u) hu ha ⟨by omega, hn.2⟩ hm rfl rfl q0 (by omega) 1000 l (a / u) [] ok (by omega) (by omega) (by simp)
    have e : cutF u a n [] = [] := by simp [cutF]
    rw [e] at h9
    exact h9
theorem rangeR_nice {u s : Int} {l : List (S80)} (ok : CacheOk u s l) (f : List Int) (hf : f.length ≤ 400) (a n m : Int) (ha : 0 ≤ a) (hn : 0 ≤ n ∧ n ≤ 400) : (rangeR u s l f a n m).1.length ≤ 400 ∧ CacheOk u s (rangeR u s l f a n m).2 := by
  unfold rangeR
  split
  · exact ⟨by simp, ok⟩
  · refine ⟨?_, (readF_ok u s f hf ((a + n - 1) / u) m 1000 l (a / u) [] ok (Int.ediv_nonneg ha (by have := ok.1; omega))).1⟩
    show (cutF u a n _).length ≤ 400
    unfold cutF
    rw [List.length_take]; omega
def readRangeR (u s : Int) (l : List (S80)) (f : List Int) (a n m : Int) : Int × List Int × Int × Int × List (S80) :=
  if codeF u s l f = 0 then (if (0 ≤ a ∧ a ≤ 400) ∧ (0 ≤ n ∧ n ≤ 400) ∧ (1 ≤ m ∧ m ≤ 400) then (0, (rangeR u s l f a n m).1, u, s, (rangeR u s l f a n m).2) else (3, [], 0, 0, [])) else (codeF u s l f, [], 0, 0, [])
theorem specReadRange_ev (u s : Int) (l : List (S80)) (f : List Int) (a n m : Int) (hl : l.length ≤ 1048576) : Ev (fun k => spec_ReadRange.f k u s l f a n m) (readRangeR u s l f a n m) := by
  simp only [spec_ReadRange.f, f_in]
  refine Ev.bind (l3Asked_ev u s l f hl) ?_
  unfold readRangeR
  by_cases h : codeF u s l f = 0
  · obtain ⟨ok, hf⟩ := codeF_zero h
    refine Ev_r (if_pos h) (Ev_pos h (Ev.bind (Ev_eq rfl) ?_))
    have bad : Ev (fun k => spec_ReadRange.j0 k a n m true u s l f) (3, [], 0, 0, []) := by
      refine Ev_shift ?_; simp only [spec_ReadRange.j0]
      exact Ev_pos (by first | trivial | rfl | simp) (Ev.bind (Ev_eq rfl) (Ev.now _))
    by_cases c0 : 0 ≤ a ∧ a ≤ 400
    · refine Ev_pos (decide_eq_true c0) (Ev.bind (Ev_eq rfl) ?_)
      by_cases c1 : 0 ≤ n ∧ n ≤ 400
      · refine Ev_pos (decide_eq_true c1) (Ev.bind (Ev_eq rfl) ?_)
        by_cases c2 : 1 ≤ m ∧ m ≤ 400
        · rw [if_pos ⟨c0, c1, c2⟩, decide_eq_true c2]
          refine Ev_shift ?_; simp only [spec_ReadRange.j0]
          obtain ⟨hu, hs, hls, hb, hp⟩ := ok
          have hless := l3Less_ev u s l (-1) (by omega) (fun x hx => by have := (hb x hx).2.2; omega)
          have e : lessL l (-1) = l := by unfold lessL; rw [if_neg (by omega)]
          rw [e] at hless
          exact Ev_neg (by simp) (Ev.bind hless (Ev.bind (specRange_ev u s l f hf a n m ⟨hu, hs, hls, hb, hp⟩ c0 c1 c2) (Ev.now _)))
        · rw [if_neg (fun e => c2 e.2.2), decide_eq_false c2]
          exact bad
      · rw [if_neg (fun e => c1 e.2.1)]
        exact Ev_neg (by simpa using c1) bad
    · rw [if_neg (fun e => c0 e.1)]
      exact Ev_neg (by simpa using c0) bad
  · exact Ev_r (if_neg h) (Ev_neg h (Ev.bind (Ev_eq rfl) (Ev.now _)))
theorem implReadRange_ev (u s : Int) (l : List (S80)) (f : List Int) (a n m : Int) (hl : l.length ≤ 1048576) : Ev (fun k => impl_ReadRange.f k u s l f a n m) (readRangeR u s l f a n m) := by
  simp only [impl_ReadRange.f, f_within, impl_isMost.f]
  refine Ev.bind (cacheCode_ev u s l f hl) ?_
  unfold readRangeR
  by_cases h : codeF u s l f = 0
  · obtain ⟨ok, hf⟩ := codeF_zero h
    refine Ev_r (if_pos h) (Ev_pos h (Ev.bind (Ev_eq rfl) ?_))
    by_cases c0 : 0 ≤ a ∧ a ≤ 400
    · by_cases c1 : 0 ≤ n ∧ n ≤ 400
      · refine Ev.bind (a := true) (Ev_eq ?_) ?_
        · rw [if_pos (decide_eq_true c0)]; simp [c1]
        by_cases c2 : 1 ≤ m ∧ m ≤ 400
        · refine Ev_r (if_pos ⟨c0, c1, c2⟩) ?_
          obtain ⟨n1, n2⟩ := rangeR_nice ok f hf a n m c0.1 c1
          obtain ⟨hu2, hs2, hls2, hb2, hp2⟩ := n2
          refine Ev.bind (a := true) (Ev_eq ?_) (Ev_pos rfl (Ev.bind (implRead_ev u s l f hf a n m ok c0 c1 c2) (Ev.bind (Ev_eq (clone_f _ (by omega))) (Ev.bind (ownCache_ev u s _ (by omega) (fun x hx => by have := (hb2 x hx).2.2; omega)) (Ev.now _)))))
          simp [c2]
        · refine Ev_r (if_neg (fun e => c2 e.2.2)) ?_
          refine Ev.bind (a := false) (Ev_eq ?_) (Ev_neg (by simp) (Ev.now _))
          simp [c2]
      · refine Ev_r (if_neg (fun e => c1 e.2.1)) ?_
        refine Ev.bind (a := false) (Ev_eq ?_) (Ev.bind (a := false) (Ev_eq ?_) (Ev_neg (by simp) (Ev.now _)))
        · rw [if_pos (decide_eq_true c0)]; simp [c1]
        · rw [if_neg (by simp)]
    · refine Ev_r (if_neg (fun e => c0 e.1)) ?_
      refine Ev.bind (a := false) (Ev_eq ?_) (Ev.bind (a := false) (Ev_eq ?_) (Ev_neg (by simp) (Ev.now _)))
      · rw [if_neg (by simpa using c0)]
      · rw [if_neg (by simp)]
  · exact Ev_r (if_neg h) (Ev_neg h (Ev.now _))
theorem readRangeR_nice (u s : Int) (l : List (S80)) (f : List Int) (a n m : Int) : ∃ c r x y bs, readRangeR u s l f a n m = (c, r, x, y, bs) ∧ r.length ≤ 1048576 ∧ bs.length ≤ 1048576 ∧ ∀ x ∈ bs, x.f1.length ≤ 1048576 := by
  unfold readRangeR
  split
  · rename_i h
    obtain ⟨ok, hf⟩ := codeF_zero h
    split
    · rename_i hc
      obtain ⟨n1, hu2, hs2, hls2, hb2, hp2⟩ := rangeR_nice ok f hf a n m hc.1.1 hc.2.1
      exact ⟨_, _, _, _, _, rfl, by omega, by omega, fun x hx => by have := (hb2 x hx).2.2; omega⟩
    · exact ⟨_, _, _, _, _, rfl, by simp, by simp, by simp⟩
  · exact ⟨_, _, _, _, _, rfl, by simp, by simp, by simp⟩

theorem markFile_ev (l : List Int) (m : Int) (h : l.length ≤ 1048576) (h0 : 0 ≤ m) (h1 : m ≤ 1125899906842624) : Ev (fun k => laws_markFile.f k l m) (m + l.length, mkB l.length m) := by
  simp only [laws_markFile.f]
  exact Ev.bind (markByteS_ev l m (by omega) h0 h1) (Ev.now _)
theorem FnExactReadRange : laws_FnExactReadRange.Pure := by
  intro u s l fl p n m _ _ hl hw hfl _ _ _ _
  have hwl : ∀ x ∈ l, x.f1.length ≤ maxLen := fun x hx => (hw x hx).2.1
  obtain ⟨r, h0, hc⟩ := szCache_ev u s l hwl hl 1048576 (by omega) (by omega)
  rcases hc with rfl | ⟨c0, c1, c2, c3⟩
  · obtain ⟨k, hk⟩ := Ev.rounds h0
    exact ⟨k, -1, hk, .inl (by omega)⟩
  · rcases szFile_f fl r hfl c0 c1 with ⟨e1, e2⟩ | e2
    · have c4 := bk_small c3
      have c5 : (l.map bk).length ≤ 1048576 := by simpa using c2
      have c6 : fl.length ≤ 1048576 := by omega
      obtain ⟨c, rb, a, b, bs, hr, hrl, hbl, hbw⟩ := readRangeR_nice u s (l.map bk) fl p n m
      have h1 := toCache_ev u s l c2 c3
      have h1f := toFile_ev fl c6
      have h2 := specReadRange_ev u s (l.map bk) fl p n m c5
      have h3 := implReadRange_ev u s (l.map bk) fl p n m c5
      rw [hr] at h2 h3
      have h4 := eqCacheResult_ev c rb a b bs hrl hbl hbw
      have h5 := eqCache_ev u s (l.map bk) (by omega) (fun x hx => Nat.le_trans (c4 x hx) (by omega))
      have h5f := eqFile_ev fl (by omega)
      have h6 := markBlockS_ev (l.map bk) 1 c4 (by omega) (by omega)
      have g1 := mkBn_ge (l.map bk) 1
      have g3 := mkBn_le (l.map bk) 1 c4
      have h6f := markFile_ev fl (mkBn (l.map bk) 1) (by omega) (by omega) (by omega)
      have h7 := markByteS_ev rb 1 (by omega) (by omega) (by omega)
      have h8 := markBlockS_ev bs (1 + rb.length) hbw (by omega) (by omega)
      have h9 := heldCacheResult_ev c rb.length a b bs hrl hbl hbw
      have g2 := mkBn_ge bs (1 + rb.length)
      obtain ⟨K0, h0⟩ := h0; obtain ⟨K1, h1⟩ := h1; obtain ⟨K1f, h1f⟩ := h1f; obtain ⟨K2, h2⟩ := h2; obtain ⟨K3, h3⟩ := h3; obtain ⟨K4, h4⟩ := h4
      obtain ⟨K5, h5⟩ := h5; obtain ⟨K5f, h5f⟩ := h5f; obtain ⟨K6, h6⟩ := h6; obtain ⟨K6f, h6f⟩ := h6f; obtain ⟨K7, h7⟩ := h7; obtain ⟨K8, h8⟩ := h8; obtain ⟨K9, h9⟩ := h9
      exact ⟨K0 + K1 + K1f + K2 + K3 + K4 + K5 + K5f + K6 + K6f + K7 + K8 + K9, r, h0 _ (by omega), .inr ⟨by omega, _, e2, .inr ⟨by omega, _, _, _, _, _, _, _, _, _, _, _, _, _, _, _, _, _, h1 _ (by omega), h1f _ (by omega), h2 _ (by omega), h3 _ (by omega), h4 _ (by omega), h5 _ (by omega), h5f _ (by omega), h6 _ (by omega), h6f _ (by omega), by omega, h7 _ (by omega), h8 _ (by omega), h9 _ (by omega), by omega⟩⟩⟩
    · obtain ⟨k, hk⟩ := Ev.rounds h0
      exact ⟨k, r, hk, .inr ⟨by omega, -1, e2, .inl (by omega)⟩⟩

end Go.Proofs.Ytkocconggohdgaa.Pure
