/- the program's CacheTrue tells what the reference's tells, for every cache and file. Under no condition. -/
import Derived.Test.YtkocconggohdgaaPFnExactCacheTruex8
set_option linter.unusedVariables false
set_option linter.unusedSimpArgs false
namespace Go.Proofs.Ytkocconggohdgaa.Pure
open Go.RowKit Go.Proofs.Ytkocconggohdgaa.PFnExactCacheTrue Go.Proofs.YtkocconggohdgaaW.PrintWords Go.Proofs.YtkocconggohdgaaW.PrintLast

theorem w64 {x : Int} (h0 : -9223372036854775808 ≤ x) (h1 : x ≤ 9223372036854775807) : wrap64 x = x := by unfold wrap64; omega
theorem Ev_shift {α : Type} {g : Nat → Option α} {r : α} (h : Ev (fun k => g (k + 1)) r) : Ev g r := Ev.step (f := fun k => g (k + 1)) (fun _ => rfl) h
theorem Ev_pos {α : Type} {c : Prop} [Decidable c] (hc : c) {a b : Nat → Option α} {r : α} (h : Ev a r) : Ev (fun k => if c then a k else b k) r := by
  simpa only [if_pos hc] using h
theorem Ev_neg {α : Type} {c : Prop} [Decidable c] (hc : ¬ c) {a b : Nat → Option α} {r : α} (h : Ev b r) : Ev (fun k => if c then a k else b k) r := by
  simpa only [if_neg hc] using h
theorem Ev_pre {α β : Type} {g : Option α} {a : α} {f : Nat → α → Option β} {r : β} (h : g = some a) (k : Ev (fun n => f n a) r) : Ev (fun n => g.bind (f n)) r := by
  subst h; exact k
theorem Ev_eq {α : Type} {g : Option α} {r : α} (h : g = some r) : Ev (fun _ => g) r := by subst h; exact Ev.now r
theorem Ev_r {α : Type} {g : Nat → Option α} {r r' : α} (e : r = r') (h : Ev g r') : Ev g r := e ▸ h
theorem maxLen_le : maxLen ≤ 9223372036854775807 := by unfold maxLen; omega
theorem rd_nat (l : List Int) (i : Nat) (h : i < l.length) : rd l (i : Int) = l[i] := by simp [rd, h]
/-- A loop that fills a row with what it makes of another one's elements. -/
theorem fill_loop {α β : Type} (l : List α) (c : α → β) (G : Nat → List β → Int → Option (List β))
    (hend : ∀ x, Ev (fun k => G k x (l.length : Int)) x)
    (hstep : ∀ (i : Nat) (h : i < l.length) (x : List β) (r : List β), x.length = l.length → Ev (fun k => G k (x.set i (c l[i])) ((i : Int) + 1)) r → Ev (fun k => G k x (i : Int)) r)
    (x : List β) (hx : x.length = l.length) : Ev (fun k => G k x 0) (l.map c) := by
  have main : ∀ (d i : Nat) (x : List β), x.length = l.length → i + d = l.length → (∀ (j : Nat) (hj : j < i) (hl : j < l.length) (hx : j < x.length), x[j] = c l[j]) → Ev (fun k => G k x (i : Int)) (l.map c) := by
    intro d
    induction d with
    | zero =>
      intro i x hx hi hp
      obtain rfl : i = l.length := by omega
      have : x = l.map c := by
        apply List.ext_getElem (by simp [hx])
        intro j h1 h2
        rw [List.getElem_map]
        exact hp j (by omega) (by omega) h1
      rw [← this]
      exact hend x
    | succ d ih =>
      intro i x hx hi hp
      refine hstep i (by omega) x _ hx ?_
      have := ih (i + 1) (x.set i (c (l[i]'(by omega)))) (by simp [hx]) (by omega) (fun j hj hl hx' => by
        rw [List.getElem_set]
        split
        · rename_i e; subst e; rfl
        · exact hp j (by omega) hl (by simpa using hx'))
      simpa using this
  have := main l.length 0 x hx (by omega) (fun j hj => absurd hj (by omega))
  simpa using this
/-- A loop that goes through all places and finds nothing amiss. -/
theorem same_loop (n : Nat) (G : Nat → Int → Option Bool) (hend : Ev (fun k => G k (n : Int)) true)
    (hstep : ∀ i : Nat, i < n → Ev (fun k => G k ((i : Int) + 1)) true → Ev (fun k => G k (i : Int)) true) : Ev (fun k => G k 0) true := by
  have main : ∀ (d i : Nat), i + d = n → Ev (fun k => G k (i : Int)) true := by
    intro d
    induction d with
    | zero => intro i hi; obtain rfl : i = n := by omega
              exact hend
    | succ d ih =>
      intro i hi
      refine hstep i (by omega) ?_
      have := ih (i + 1) (by omega)
      simpa using this
  have := main n 0 (by omega)
  simpa using this

theorem toByteS_ev (l : List Int) (h : l.length ≤ 1048576) : Ev (fun k => laws_toByteS.f k l) l := by
  have main := fill_loop l (fun x => x) (fun k x i => laws_toByteS.l0 k l x i) (fun x => by
      refine Ev_shift ?_; simp only [laws_toByteS.l0]
      exact Ev_neg (by omega) (Ev.now _))
    (fun i hi x r hx hr => by
      refine Ev_shift ?_; simp only [laws_toByteS.l0]
      refine Ev_pos (by omega) (Ev_pos (by omega) (Ev_pos (by omega) ?_))
      rw [w64 (by omega) (by omega), rd_nat l i hi]
      simpa using hr)
    (List.replicate l.length 0) (by simp)
  simp only [laws_toByteS.f]
  refine Ev_pos (by omega) (Ev_pos (by omega) ?_)
  simpa using main
theorem eqByteS_ev (l : List Int) (h : l.length ≤ 9223372036854775807) : Ev (fun k => laws_eqByteS.f k l l) true := by
  simp only [laws_eqByteS.f]
  refine Ev_pos (by first | trivial | rfl | simp) ?_
  refine same_loop l.length (fun k i => laws_eqByteS.l0 k l l i) ?_ ?_
  · refine Ev_shift ?_; simp only [laws_eqByteS.l0]
    exact Ev_neg (by omega) (Ev.now _)
  · intro i hi hr
    refine Ev_shift ?_; simp only [laws_eqByteS.l0]
    refine Ev_pos (by omega) (Ev_pos (by omega) (Ev_pos (by omega) (Ev_pos (by first | trivial | rfl | simp) ?_)))
    rw [w64 (by omega) (by omega)]
    exact hr

theorem szByteS_f (l : List Int) (n : Int) (hl : l.length ≤ maxLen) (h0 : 0 ≤ n) (h1 : n ≤ 1048576) : (l.length ≤ n ∧ laws_szByteS.f l n = some (n - l.length)) ∨ laws_szByteS.f l n = some (-1) := by
  have := maxLen_le
  simp only [laws_szByteS.f, w64 (show -9223372036854775808 ≤ n - (l.length : Int) by omega) (by omega)]
  by_cases h : n - (l.length : Int) < 0
  · exact .inr (if_pos h)
  · exact .inl ⟨by omega, if_neg h⟩
theorem szFile_f (l : List Int) (n : Int) (hl : l.length ≤ maxLen) (h0 : 0 ≤ n) (h1 : n ≤ 1048576) : (l.length ≤ n ∧ laws_szFile.f l n = some (n - l.length)) ∨ laws_szFile.f l n = some (-1) := by
  simp only [laws_szFile.f]
  rcases szByteS_f l n hl h0 h1 with ⟨h, e⟩ | e
  · exact .inl ⟨h, by rw [e, Option.bind_some, if_neg (by omega)]⟩
  · exact .inr (by rw [e]; rfl)
theorem toFile_ev (l : List Int) (h : l.length ≤ 1048576) : Ev (fun k => laws_toFile.f k l) l := by
  simp only [laws_toFile.f]
  exact Ev.bind (toByteS_ev l h) (Ev.now _)
theorem eqFile_ev (l : List Int) (h : l.length ≤ 1048576) : Ev (fun k => laws_eqFile.f k l l) true := by
  simp only [laws_eqFile.f]
  exact Ev.bind (eqByteS_ev l (by omega)) (Ev_pos (by first | trivial | rfl | simp) (Ev.now _))

theorem f_dec_eq {p q : Prop} [Decidable p] [Decidable q] (h : p ↔ q) : decide p = decide q := decide_eq_decide.mpr h
theorem f_in (a b c : Int) : spec_l1In.f a b c = some (decide (b ≤ a ∧ a ≤ c)) := by
  simp only [spec_l1In.f]
  by_cases h : a ≥ b
  · rw [if_pos h]; exact congrArg some (f_dec_eq (by omega))
  · rw [if_neg h]; exact congrArg some (decide_eq_false (by omega)).symm
theorem f_within (a b c : Int) : impl_within.f a b c = some (decide (b ≤ a ∧ a ≤ c)) := by
  simp only [impl_within.f]
  by_cases h : b ≤ a
  · rw [if_pos h]; exact congrArg some (f_dec_eq (by omega))
  · rw [if_neg h]; exact congrArg some (decide_eq_false (by omega)).symm

def bk (x : S108) : S80 := ⟨x.f0, x.f1⟩
theorem rdB (l : List (S80)) (i : Nat) (h : i < l.length) : rd_T80 l (i : Int) = l[i] := by simp [rd_T80, h]
theorem rdLB (l : List (S108)) (i : Nat) (h : i < l.length) : rd_T108 l (i : Int) = l[i] := by simp [rd_T108, h]
theorem szBlock_f (a : Int) (l : List Int) (n : Int) (hl : l.length ≤ maxLen) (h0 : 0 ≤ n) (h1 : n ≤ 1048576) : (l.length ≤ n ∧ laws_szBlock.f a l n = some (n - l.length)) ∨ laws_szBlock.f a l n = some (-1) := by
  simp only [laws_szBlock.f]
  rcases szByteS_f l n hl h0 h1 with ⟨h, e⟩ | e
  · exact .inl ⟨h, by rw [e, Option.bind_some, if_neg (by omega)]⟩
  · exact .inr (by rw [e]; rfl)
theorem szBlockS_l0 (l : List (S108)) (hw : ∀ x ∈ l, x.f1.length ≤ maxLen) (hl : l.length ≤ 1048576) : ∀ (d i : Nat) (n : Int), i + d = l.length → 0 ≤ n → n ≤ 1048576 →
    ∃ r, Ev (fun k => laws_szBlockS.l0 k l n (i : Int)) r ∧ (r = -1 ∨ (0 ≤ r ∧ r ≤ n ∧ ∀ (j : Nat) (hj : j < l.length), i ≤ j → (l[j].f1.length : Int) ≤ n - r)) := by
  intro d
  induction d with
  | zero =>
    intro i n hi h0 h1
    refine ⟨n, ?_, .inr ⟨h0, by omega, fun j hj h => by omega⟩⟩
    refine Ev_shift ?_; simp only [laws_szBlockS.l0]
    exact Ev_neg (by omega) (Ev.now _)
  | succ d ih =>
    intro i n hi h0 h1
    have hlt : i < l.length := by omega
    rcases szBlock_f l[i].f0 l[i].f1 n (hw _ (List.getElem_mem hlt)) h0 h1 with ⟨h, e⟩ | e
    · obtain ⟨r, hr, hc⟩ := ih (i + 1) (n - l[i].f1.length) (by omega) (by omega) (by omega)
      refine ⟨r, ?_, ?_⟩
      · refine Ev_shift ?_; simp only [laws_szBlockS.l0]
        rw [rdLB l i hlt, w64 (by omega) (by omega)]
        refine Ev_pos (by omega) (Ev_pos (by omega) (Ev.bind (Ev_eq e) (Ev_neg (by omega) ?_)))
        simpa only [Int.natCast_add, Int.natCast_one] using hr
      · rcases hc with hc | ⟨c0, c1, c2⟩
        · exact .inl hc
        · refine .inr ⟨c0, by omega, fun j hj hij => ?_⟩
          by_cases hji : j = i
          · subst hji; omega
          · have := c2 j hj (by omega); omega
    · refine ⟨-1, ?_, .inl rfl⟩
      refine Ev_shift ?_; simp only [laws_szBlockS.l0]
      rw [rdLB l i hlt]
      exact Ev_pos (by omega) (Ev_pos (by omega) (Ev.bind (Ev_eq e) (Ev_pos (by omega) (Ev.now _))))
theorem szBlockS_ev (l : List (S108)) (hw : ∀ x ∈ l, x.f1.length ≤ maxLen) (hl : l.length ≤ maxLen) (n : Int) (h0 : 0 ≤ n) (h1 : n ≤ 1048576) :
    ∃ r, Ev (fun k => laws_szBlockS.f k l n) r ∧ (r = -1 ∨ (0 ≤ r ∧ r ≤ n ∧ l.length ≤ 1048576 ∧ ∀ x ∈ l, x.f1.length ≤ 1048576)) := by
  have := maxLen_le
  simp only [laws_szBlockS.f, w64 (show -9223372036854775808 ≤ n - (l.length : Int) by omega) (by omega)]
  by_cases h : n - (l.length : Int) < 0
  · exact ⟨-1, Ev_pos h (Ev.now _), .inl rfl⟩
  · obtain ⟨r, hr, hc⟩ := szBlockS_l0 l hw (by omega) l.length 0 (n - l.length) (by omega) (by omega) (by omega)
    refine ⟨r, Ev_neg h hr, ?_⟩
    rcases hc with hc | ⟨c0, c1, c2⟩
    · exact .inl hc
    · refine .inr ⟨c0, by omega, by omega, fun x hx => ?_⟩
      obtain ⟨j, hj, rfl⟩ := List.getElem_of_mem hx
      have := c2 j hj (by omega)
      omega
theorem szCache_ev (u s : Int) (l : List (S108)) (hw : ∀ x ∈ l, x.f1.length ≤ maxLen) (hl : l.length ≤ maxLen) (n : Int) (h0 : 0 ≤ n) (h1 : n ≤ 1048576) :
    ∃ r, Ev (fun k => laws_szCache.f k u s l n) r ∧ (r = -1 ∨ (0 ≤ r ∧ r ≤ n ∧ l.length ≤ 1048576 ∧ ∀ x ∈ l, x.f1.length ≤ 1048576)) := by
  obtain ⟨r, hr, hc⟩ := szBlockS_ev l hw hl n h0 h1
  refine ⟨r, ?_, hc⟩
  simp only [laws_szCache.f]
  refine Ev.bind hr ?_
  rcases hc with rfl | hc
  · exact Ev_pos (by omega) (Ev.now _)
  · exact Ev_neg (by omega) (Ev.now _)
theorem toBlockS_ev (l : List (S108)) (hl : l.length ≤ 1048576) (hw : ∀ x ∈ l, x.f1.length ≤ 1048576) : Ev (fun k => laws_toBlockS.f k l) (l.map bk) := by
  have main := fill_loop l bk (fun k x i => laws_toBlockS.l0 k l x i) (fun x => by
      refine Ev_shift ?_; simp only [laws_toBlockS.l0]
      exact Ev_neg (by omega) (Ev.now _))
    (fun i hi x r hx hr => by
      refine Ev_shift ?_; simp only [laws_toBlockS.l0, laws_toBlock.f]
      refine Ev_pos (by omega) (Ev_pos (by omega) ?_)
      rw [rdLB l i hi, w64 (by omega) (by omega)]
      refine Ev.bind (Ev.bind (toByteS_ev l[i].f1 (hw _ (List.getElem_mem hi))) (Ev.now _)) (Ev_pos (by omega) ?_)
      simpa [bk] using hr)
    (List.replicate l.length z80) (by simp)
  simp only [laws_toBlockS.f]
  refine Ev_pos (by omega) (Ev_pos (by omega) ?_)
  simpa using main
theorem toCache_ev (u s : Int) (l : List (S108)) (hl : l.length ≤ 1048576) (hw : ∀ x ∈ l, x.f1.length ≤ 1048576) : Ev (fun k => laws_toCache.f k u s l) (u, s, l.map bk) := by
  simp only [laws_toCache.f]
  exact Ev.bind (toBlockS_ev l hl hw) (Ev.now _)
theorem eqBlock_ev (a : Int) (l : List Int) (h : l.length ≤ 9223372036854775807) : Ev (fun k => laws_eqBlock.f k a l a l) true := by
  simp only [laws_eqBlock.f]
  exact Ev_pos trivial (Ev.bind (eqByteS_ev l h) (Ev_pos (by first | trivial | rfl | simp) (Ev.now _)))
theorem eqBlockS_ev (l : List (S80)) (h : l.length ≤ 9223372036854775807) (hw : ∀ x ∈ l, x.f1.length ≤ 9223372036854775807) : Ev (fun k => laws_eqBlockS.f k l l) true := by
  simp only [laws_eqBlockS.f]
  refine Ev_pos (by first | trivial | rfl | simp) ?_
  refine same_loop l.length (fun k i => laws_eqBlockS.l0 k l l i) ?_ ?_
  · refine Ev_shift ?_; simp only [laws_eqBlockS.l0]
    exact Ev_neg (by omega) (Ev.now _)
  · intro i hi hr
    refine Ev_shift ?_; simp only [laws_eqBlockS.l0]
    rw [rdB l i hi, w64 (by omega) (by omega)]
    refine Ev_pos (by omega) (Ev_pos (by omega) (Ev_pos (by omega) ?_))
    exact Ev.bind (eqBlock_ev l[i].f0 l[i].f1 (hw _ (List.getElem_mem hi))) (Ev_pos (by first | trivial | rfl | simp) hr)
theorem eqCache_ev (u s : Int) (l : List (S80)) (h : l.length ≤ 9223372036854775807) (hw : ∀ x ∈ l, x.f1.length ≤ 9223372036854775807) : Ev (fun k => laws_eqCache.f k u s l u s l) true := by
  simp only [laws_eqCache.f]
  exact Ev_pos trivial (Ev_pos trivial (Ev.bind (eqBlockS_ev l h hw) (Ev_pos (by first | trivial | rfl | simp) (Ev.now _))))
theorem bk_small {l : List (S108)} {n : Nat} (hw : ∀ x ∈ l, x.f1.length ≤ n) : ∀ x ∈ l.map bk, x.f1.length ≤ n := by
  intro x hx
  obtain ⟨y, hy, rfl⟩ := List.mem_map.1 hx
  exact hw y hy

/-- What is wrong with the blocks from place i on. -/
def blocksF (u : Int) (l : List (S80)) : Nat → Nat → Int
  | 0, _ => 0
  | d + 1, i => match l[i]? with
    | none => 0
    | some b => if ¬ (0 ≤ b.f0 ∧ b.f0 ≤ 400) then 3 else if ¬ (1 ≤ (b.f1.length : Int) ∧ (b.f1.length : Int) ≤ u) then 1 else if (l.take i).any (fun x => x.f0 == b.f0) then 6 else blocksF u l d (i + 1)
def cacheF (u s : Int) (l : List (S80)) : Int :=
  if ¬ ((1 ≤ u ∧ u ≤ 64) ∧ (1 ≤ s ∧ s ≤ 6)) then 3 else if (l.length : Int) > s then 2 else blocksF u l l.length 0
theorem blkIdx_any (p : S80 → Bool) : ∀ (l : List (S80)) (i : Nat), (0 ≤ blkIdx p l i ↔ l.any p = true)
  | [], i => by simp [blkIdx]
  | x :: xs, i => by
    have := blkIdx_any p xs (i + 1)
    cases h : p x
    · simp [blkIdx, h, this]
    · simp [blkIdx, h]
theorem blkIdx_lo (p : S80 → Bool) : ∀ (l : List (S80)) (i : Nat), blkIdx p l i = -1 ∨ (i : Int) ≤ blkIdx p l i
  | [], i => .inl rfl
  | x :: xs, i => by
    have := blkIdx_lo p xs (i + 1)
    cases h : p x
    · simp only [blkIdx, h]; simp only [Bool.false_eq_true, if_false]; omega
    · simp [blkIdx, h]
theorem blkIdx_hi (p : S80 → Bool) : ∀ (l : List (S80)) (i : Nat), blkIdx p l i = -1 ∨ blkIdx p l i < (i + l.length : Nat)
  | [], i => .inl rfl
  | x :: xs, i => by
    have := blkIdx_hi p xs (i + 1)
    cases h : p x
    · simp only [blkIdx, h]; simp only [Bool.false_eq_true, if_false, List.length_cons]; omega
    · simp [blkIdx, h]; omega
/-- The first one that answers is this one just where none ahead of it does. -/
theorem blkIdx_this (p : S80 → Bool) (l : List (S80)) (i : Nat) (h : i < l.length) (hp : p l[i] = true) : blkIdx p l 0 = (i : Int) ↔ (l.take i).any p = false := by
  constructor
  · intro e
    by_cases ha : (l.take i).any p = true
    · obtain ⟨x, hx, hpx⟩ := List.any_eq_true.1 ha
      obtain ⟨j, hj, rfl⟩ := List.getElem_of_mem hx
      rw [List.length_take] at hj
      rw [List.getElem_take] at hpx
      exfalso
      have : ∀ (k : Nat), k ≤ j → (hk : k < l.length) → p l[k] = true → False := by
        intro k
        induction k using Nat.strongRecOn with
        | ind k ih =>
          intro hkj hk hpk
          by_cases hall : ∀ m (hm : m < k), p (l[m]'(by omega)) = false
          · have := blkIdx_hit p l k 0 hk hpk hall
            rw [e] at this; omega
          · have : ∃ m, ∃ hm : m < k, p (l[m]'(by omega)) = true := by
              apply Classical.byContradiction
              intro hn
              apply hall
              intro m hm
              cases hq : p (l[m]'(by omega))
              · rfl
              · exact absurd ⟨m, hm, hq⟩ hn
            obtain ⟨m, hm, hpm⟩ := this
            exact ih m hm (by omega) (by omega) hpm
      exact this j (Nat.le_refl _) (by omega) hpx
    · simpa using ha
  · intro ha
    have hn : ∀ j (hj : j < i), p (l[j]'(by omega)) = false := by
      intro j hj
      cases hq : p (l[j]'(by omega))
      · rfl
      · have : (l.take i).any p = true := List.any_eq_true.2 ⟨l[j]'(by omega), by rw [show l[j]'(by omega) = (l.take i)[j]'(by rw [List.length_take]; omega) by rw [List.getElem_take]]; exact List.getElem_mem _, hq⟩
        rw [this] at ha; cases ha
    have := blkIdx_hit p l i 0 h hp hn
    simpa using this
theorem l3At_l0 (u s : Int) (l : List (S80)) (hl : l.length ≤ 1048577) (n : Int) : ∀ (d i : Nat), i + d = l.length →
    Ev (fun k => spec_l3At.l0 k [(⟨u, s, l⟩ : S25)] n (i : Int)) (blkIdx (fun x => x.f0 == n) (l.drop i) i) := by
  have hr : rd_T25 [(⟨u, s, l⟩ : S25)] 0 = ⟨u, s, l⟩ := rfl
  intro d
  induction d with
  | zero =>
    intro i hi
    rw [List.drop_of_length_le (by omega)]
    refine Ev_shift ?_; simp only [spec_l3At.l0, hr]
    exact Ev_pos (by simp) (Ev_neg (by omega) (Ev.now _))
  | succ d ih =>
    intro i hi
    have hlt : i < l.length := by omega
    rw [List.drop_eq_getElem_cons hlt]
    refine Ev_shift ?_; simp only [spec_l3At.l0, hr]
    rw [rdB l i hlt, w64 (by omega) (by omega)]
    refine Ev_pos (by simp) (Ev_pos (by omega) (Ev_pos (by omega) ?_))
    simp only [blkIdx]
    by_cases h : l[i].f0 = n
    · rw [if_pos (by simpa using h)]
      exact Ev_pos h (Ev.now _)
    · rw [if_neg (by simpa using h)]
      refine Ev_neg h ?_
      have := ih (i + 1) (by omega)
      simpa only [Int.natCast_add, Int.natCast_one] using this
theorem l3At_ev (u s : Int) (l : List (S80)) (hl : l.length ≤ 1048577) (n : Int) : Ev (fun k => spec_l3At.f k [(⟨u, s, l⟩ : S25)] n) (blkIdx (fun x => x.f0 == n) l 0) := by
  have := l3At_l0 u s l hl n l.length 0 (by omega)
  simpa [spec_l3At.f] using this
theorem l3Fault_l0 (u s : Int) (hu : u ≤ 64) (l : List (S80)) (hl : l.length ≤ 1048576) : ∀ (d i : Nat), i + d = l.length →
    Ev (fun k => spec_l3Fault.l0 k [(⟨u, s, l⟩ : S25)] (i : Int)) (blocksF u l d i) := by
  have hr : rd_T25 [(⟨u, s, l⟩ : S25)] 0 = ⟨u, s, l⟩ := rfl
  intro d
  induction d with
  | zero =>
    intro i hi
    refine Ev_shift ?_; simp only [spec_l3Fault.l0, hr]
    exact Ev_pos (by simp) (Ev_neg (by omega) (Ev.now _))
  | succ d ih =>
    intro i hi
    have hlt : i < l.length := by omega
    simp only [blocksF, List.getElem?_eq_getElem hlt]
    refine Ev_shift ?_; simp only [spec_l3Fault.l0, hr, f_in]
    rw [rdB l i hlt, w64 (by omega) (by omega)]
    refine Ev_pos (by simp) (Ev_pos (by omega) (Ev_pos (by omega) (Ev.bind (Ev_eq rfl) ?_)))
    by_cases c1 : 0 ≤ l[i].f0 ∧ l[i].f0 ≤ 400
    · rw [if_neg (by simpa using c1)]
      refine Ev_pos (by simpa using c1) (Ev.bind (Ev_eq rfl) ?_)
      by_cases c2 : 1 ≤ (l[i].f1.length : Int) ∧ (l[i].f1.length : Int) ≤ u
      · rw [if_neg (fun hn => hn c2)]
        refine Ev_pos (decide_eq_true c2) (Ev.bind (l3At_ev u s l (by omega) l[i].f0) ?_)
        have hx := blkIdx_this (fun x => x.f0 == l[i].f0) l i hlt (by simp)
        by_cases c3 : (l.take i).any (fun x => x.f0 == l[i].f0) = true
        · rw [if_pos c3]
          exact Ev_neg (fun e => by rw [hx.1 e] at c3; cases c3) (Ev.now _)
        · rw [if_neg c3]
          refine Ev_pos (hx.2 (by simpa using c3)) ?_
          have := ih (i + 1) (by omega)
          simpa only [Int.natCast_add, Int.natCast_one] using this
      · rw [if_pos c2]
        exact Ev_neg (by simpa using c2) (Ev.now _)
    · rw [if_pos c1]
      exact Ev_neg (by simpa using c1) (Ev.now _)
theorem l3Fault_ev (u s : Int) (l : List (S80)) (hl : l.length ≤ 1048576) : Ev (fun k => spec_l3Fault.f k [(⟨u, s, l⟩ : S25)]) (cacheF u s l) := by
  have hr : rd_T25 [(⟨u, s, l⟩ : S25)] 0 = ⟨u, s, l⟩ := rfl
  simp only [spec_l3Fault.f, hr, f_in]
  refine Ev_pos (by simp) (Ev.bind (Ev_eq rfl) ?_)
  unfold cacheF
  have bad : ¬ ((1 ≤ u ∧ u ≤ 64) ∧ (1 ≤ s ∧ s ≤ 6)) → Ev (fun k => spec_l3Fault.j0 k [(⟨u, s, l⟩ : S25)] true) (if ¬ ((1 ≤ u ∧ u ≤ 64) ∧ (1 ≤ s ∧ s ≤ 6)) then 3 else if (l.length : Int) > s then 2 else blocksF u l l.length 0) := by
    intro e
    refine Ev_r (if_pos e) (Ev_shift ?_); simp only [spec_l3Fault.j0]
    exact Ev_pos (by first | trivial | rfl | simp) (Ev.now _)
  by_cases c1 : 1 ≤ u ∧ u ≤ 64
  · refine Ev_pos (decide_eq_true c1) (Ev.bind (a := decide (1 ≤ s ∧ s ≤ 6)) (Ev_eq rfl) ?_)
    by_cases c2 : 1 ≤ s ∧ s ≤ 6
    · rw [decide_eq_true c2]
      refine Ev_r (if_neg (fun hn => hn ⟨c1, c2⟩)) (Ev_shift ?_); simp only [spec_l3Fault.j0, hr]
      refine Ev_neg (by simp) (Ev_pos (by simp) ?_)
      by_cases c3 : (l.length : Int) > s
      · exact Ev_r (if_pos c3) (Ev_pos c3 (Ev.now _))
      · refine Ev_r (if_neg c3) (Ev_neg c3 ?_)
        simpa using l3Fault_l0 u s c1.2 l hl l.length 0 (by omega)
    · rw [decide_eq_false c2]
      exact bad (fun e => c2 e.2)
  · exact Ev_neg (by simpa using c1) (bad (fun e => c1 e.1))
theorem iCacheFault_l0 (u s : Int) (hu : u ≤ 64) (l : List (S80)) (hl : l.length ≤ 1048576) : ∀ (d i : Nat), i + d = l.length →
    Ev (fun k => impl_CacheFault.l0 k l (l.length : Int) (i : Int) u s l) (blocksF u l d i) := by
  intro d
  induction d with
  | zero =>
    intro i hi
    refine Ev_shift ?_; simp only [impl_CacheFault.l0]
    exact Ev_neg (by omega) (Ev.now _)
  | succ d ih =>
    intro i hi
    have hlt : i < l.length := by omega
    simp only [blocksF, List.getElem?_eq_getElem hlt]
    refine Ev_shift ?_; simp only [impl_CacheFault.l0, f_within, impl_blockAt.f]
    rw [rdB l i hlt, w64 (by omega) (by omega)]
    refine Ev_pos (by omega) (Ev_pos (by omega) (Ev_pos (by omega) (Ev.bind (Ev_eq rfl) ?_)))
    by_cases c1 : 0 ≤ l[i].f0 ∧ l[i].f0 ≤ 400
    · rw [if_neg (by simpa using c1)]
      refine Ev_pos (by simpa using c1) (Ev.bind (Ev_eq rfl) ?_)
      by_cases c2 : 1 ≤ (l[i].f1.length : Int) ∧ (l[i].f1.length : Int) ≤ u
      · rw [if_neg (fun hn => hn c2), Int.toNat_natCast]
        refine Ev_pos (decide_eq_true c2) (Ev_pos (by omega) (Ev.bind (Ev_eq rfl) ?_))
        have hx := blkIdx_any (fun x => x.f0 == l[i].f0) (l.take i) 0
        by_cases c3 : (l.take i).any (fun x => x.f0 == l[i].f0) = true
        · rw [if_pos c3]
          exact Ev_pos (hx.2 c3) (Ev.now _)
        · rw [if_neg c3]
          refine Ev_neg (fun e => c3 (hx.1 e)) ?_
          have := ih (i + 1) (by omega)
          simpa only [Int.natCast_add, Int.natCast_one] using this
      · rw [if_pos c2]
        exact Ev_neg (by simpa using c2) (Ev.now _)
    · rw [if_pos c1]
      exact Ev_neg (by simpa using c1) (Ev.now _)
theorem iCacheFault_ev (u s : Int) (l : List (S80)) (hl : l.length ≤ 1048576) : Ev (fun k => impl_CacheFault.f k u s l) (cacheF u s l) := by
  simp only [impl_CacheFault.f, f_within]
  refine Ev.bind (Ev_eq rfl) ?_
  unfold cacheF
  have bad : ¬ ((1 ≤ u ∧ u ≤ 64) ∧ (1 ≤ s ∧ s ≤ 6)) → Ev (fun k => impl_CacheFault.j0 k true u s l) (if ¬ ((1 ≤ u ∧ u ≤ 64) ∧ (1 ≤ s ∧ s ≤ 6)) then 3 else if (l.length : Int) > s then 2 else blocksF u l l.length 0) := by
    intro e
    refine Ev_r (if_pos e) (Ev_shift ?_); simp only [impl_CacheFault.j0]
    exact Ev_pos (by first | trivial | rfl | simp) (Ev.now _)
  by_cases c1 : 1 ≤ u ∧ u ≤ 64
  · refine Ev_pos (decide_eq_true c1) (Ev.bind (a := decide (1 ≤ s ∧ s ≤ 6)) (Ev_eq rfl) ?_)
    by_cases c2 : 1 ≤ s ∧ s ≤ 6
    · rw [decide_eq_true c2]
      refine Ev_r (if_neg (fun hn => hn ⟨c1, c2⟩)) (Ev_shift ?_); simp only [impl_CacheFault.j0]
      refine Ev_neg (by simp) ?_
      by_cases c3 : (l.length : Int) > s
      · exact Ev_r (if_pos c3) (Ev_pos c3 (Ev.now _))
      · refine Ev_r (if_neg c3) (Ev_neg c3 ?_)
        simpa using iCacheFault_l0 u s c1.2 l hl l.length 0 (by omega)
    · rw [decide_eq_false c2]
      exact bad (fun e => c2 e.2)
  · exact Ev_neg (by simpa using c1) (bad (fun e => c1 e.1))
theorem l2Fault_f (l : List Int) : spec_l2Fault.f [(⟨l⟩ : S44)] = some (if (l.length : Int) > 400 then 2 else 0) := by
  simp only [spec_l2Fault.f, rd_T44, List.length_singleton]
  by_cases h : (l.length : Int) > 400 <;> simp [h]
theorem isLong_f (l : List Int) : impl_isLong.f l = some (decide ((l.length : Int) > 400)) := rfl
theorem l1Copy_f (l : List Int) (h : l.length ≤ 1048576) : spec_l1Copy.f l = some l := by
  simp only [spec_l1Copy.f, Option.bind_some, List.length_nil, List.nil_append]
  rw [if_pos (by omega)]
def BlockOk (u : Int) (x : S80) : Prop := (0 ≤ x.f0 ∧ x.f0 ≤ 400) ∧ (1 ≤ (x.f1.length : Int) ∧ (x.f1.length : Int) ≤ u)
def CacheOk (u s : Int) (l : List (S80)) : Prop :=
  (1 ≤ u ∧ u ≤ 64) ∧ (1 ≤ s ∧ s ≤ 6) ∧ (l.length : Int) ≤ s ∧ (∀ x ∈ l, BlockOk u x) ∧ l.Pairwise (fun a b => a.f0 ≠ b.f0)
theorem blocksF_zero (u : Int) (l : List (S80)) : ∀ (d i : Nat), i + d = l.length →
    (blocksF u l d i = 0 ↔ ∀ (j : Nat) (hj : j < l.length), i ≤ j → BlockOk u l[j] ∧ (l.take j).any (fun x => x.f0 == l[j].f0) = false) := by
  intro d
  induction d with
  | zero => intro i hi; exact ⟨fun _ j hj h => by omega, fun _ => rfl⟩
  | succ d ih =>
    intro i hi
    have hlt : i < l.length := by omega
    have ih' := ih (i + 1) (by omega)
    simp only [blocksF, List.getElem?_eq_getElem hlt]
    constructor
    · intro e j hj hij
      by_cases c1 : 0 ≤ l[i].f0 ∧ l[i].f0 ≤ 400
      · rw [if_neg (fun hn => hn c1)] at e
        by_cases c2 : 1 ≤ (l[i].f1.length : Int) ∧ (l[i].f1.length : Int) ≤ u
        · rw [if_neg (fun hn => hn c2)] at e
          by_cases c3 : (l.take i).any (fun x => x.f0 == l[i].f0) = true
          · rw [if_pos c3] at e; cases e
          · rw [if_neg c3] at e
            by_cases hji : j = i
            · subst hji; exact ⟨⟨c1, c2⟩, by simpa using c3⟩
            · exact ih'.1 e j hj (by omega)
        · rw [if_pos c2] at e; cases e
      · rw [if_pos c1] at e; cases e
    · intro h
      obtain ⟨⟨c1, c2⟩, c3⟩ := h i hlt (Nat.le_refl _)
      rw [if_neg (fun hn => hn c1), if_neg (fun hn => hn c2), if_neg (by rw [c3]; simp)]
      exact ih'.2 (fun j hj hij => h j hj (by omega))
theorem cacheF_zero (u s : Int) (l : List (S80)) : cacheF u s l = 0 ↔ CacheOk u s l := by
  have hz := blocksF_zero u l l.length 0 (by omega)
  unfold cacheF CacheOk
  have pw : (∀ (j : Nat) (hj : j < l.length), (l.take j).any (fun x => x.f0 == l[j].f0) = false) ↔ l.Pairwise (fun a b => a.f0 ≠ b.f0) := by
    rw [List.pairwise_iff_getElem]
    constructor
    · intro h i j hi hj hij e
      have := h j hj
      rw [List.any_eq_false] at this
      exact this l[i] (by rw [show l[i] = (l.take j)[i]'(by rw [List.length_take]; omega) by rw [List.getElem_take]]; exact List.getElem_mem _) (by simpa using e)
    · intro h j hj
      rw [List.any_eq_false]
      intro x hx
      obtain ⟨i, hi, rfl⟩ := List.getElem_of_mem hx
      rw [List.length_take] at hi
      rw [List.getElem_take]
      have := h i j (by omega) hj (by omega)
      simpa using this
  constructor
  · intro e
    by_cases c : (1 ≤ u ∧ u ≤ 64) ∧ (1 ≤ s ∧ s ≤ 6)
    · rw [if_neg (fun hn => hn c)] at e
      by_cases c3 : (l.length : Int) > s
      · rw [if_pos c3] at e; cases e
      · rw [if_neg c3] at e
        have h := hz.1 e
        refine ⟨c.1, c.2, by omega, fun x hx => ?_, pw.1 (fun j hj => (h j hj (by omega)).2)⟩
        obtain ⟨j, hj, rfl⟩ := List.getElem_of_mem hx
        exact (h j hj (by omega)).1
    · rw [if_pos c] at e; cases e
  · rintro ⟨h1, h2, h3, h4, h5⟩
    rw [if_neg (fun hn => hn ⟨h1, h2⟩), if_neg (by omega)]
    exact hz.2 (fun j hj _ => ⟨h4 _ (List.getElem_mem hj), pw.2 h5 j hj⟩)
/-- The code of a cache and a file. -/
def codeF (u s : Int) (l : List (S80)) (f : List Int) : Int := if cacheF u s l = 0 then (if (f.length : Int) > 400 then 2 else 0) else cacheF u s l
theorem l3Asked_ev (u s : Int) (l : List (S80)) (f : List Int) (hl : l.length ≤ 1048576) : Ev (fun k => spec_l3Asked.f k [(⟨u, s, l⟩ : S25)] [(⟨f⟩ : S44)]) (codeF u s l f) := by
  simp only [spec_l3Asked.f]
  refine Ev.bind (l3Fault_ev u s l hl) ?_
  unfold codeF
  by_cases h : cacheF u s l = 0
  · exact Ev_r (if_pos h) (Ev_pos h (Ev.bind (Ev_eq (l2Fault_f f)) (Ev.now _)))
  · exact Ev_r (if_neg h) (Ev_neg h (Ev.now _))
theorem iFileFault_f (f : List Int) : impl_FileFault.f f = some (if (f.length : Int) > 400 then 2 else 0) := by
  simp only [impl_FileFault.f, isLong_f, Option.bind_some, decide_eq_true_eq]
  by_cases h : (f.length : Int) > 400 <;> simp [h]
theorem cacheCode_ev (u s : Int) (l : List (S80)) (f : List Int) (hl : l.length ≤ 1048576) : Ev (fun k => impl_cacheCode.f k u s l f) (codeF u s l f) := by
  simp only [impl_cacheCode.f]
  refine Ev.bind (iCacheFault_ev u s l hl) ?_
  unfold codeF
  by_cases h : cacheF u s l = 0
  · exact Ev_r (if_pos h) (Ev_pos h (Ev.bind (Ev_eq (iFileFault_f f)) (Ev.now _)))
  · exact Ev_r (if_neg h) (Ev_neg h (Ev.now _))
theorem codeF_zero {u s : Int} {l : List (S80)} {f : List Int} (h : codeF u s l f = 0) : CacheOk u s l ∧ f.length ≤ 400 := by
  unfold codeF at h
  by_cases c : cacheF u s l = 0
  · rw [if_pos c] at h
    refine ⟨(cacheF_zero u s l).1 c, ?_⟩
    by_cases c2 : (f.length : Int) > 400
    · rw [if_pos c2] at h; cases h
    · omega
  · rw [if_neg c] at h; exact absurd h c

def partF (l : List Int) (a n m : Int) : List Int := if a ≥ (l.length : Int) then [] else (l.drop a.toNat).take (min (min (((l.drop a.toNat).length : Nat) : Int) n) m).toNat
theorem partF_len (l : List Int) (a n m : Int) : (partF l a n m).length ≤ l.length := by
  unfold partF
  split
  · simp
  · simp; omega
theorem l1Min_f (a b : Int) : spec_l1Min.f a b = some (min a b) := by
  simp only [spec_l1Min.f]
  by_cases h : a < b
  · rw [if_pos h, show min a b = a by omega]
  · rw [if_neg h, show min a b = b by omega]
theorem l2Part_f (l : List Int) (hl : l.length ≤ 400) (a n m : Int) (h0 : 0 ≤ a) (hn : 0 ≤ n ∧ n ≤ 400) (hm : 1 ≤ m ∧ m ≤ 400) : spec_l2Part.f [(⟨l⟩ : S44)] a n m = some (partF l a n m) := by
  have hr : rd_T44 [(⟨l⟩ : S44)] 0 = ⟨l⟩ := rfl
  simp only [spec_l2Part.f, hr, l1Min_f, Option.bind_some]
  rw [if_pos (by simp)]
  unfold partF
  by_cases h : a ≥ (l.length : Int)
  · rw [if_pos h, if_pos h]
  · rw [if_neg h, if_neg h, w64 (x := (l.length : Int) - a) (by omega) (by omega)]
    have hd : (l.drop a.toNat).length = l.length - a.toNat := List.length_drop
    obtain ⟨q, hq⟩ : ∃ q : Int, min (min n m) ((l.length : Int) - a) = q := ⟨_, rfl⟩
    rw [hq, w64 (x := a + q) (by omega) (by omega), if_pos h0, if_pos (by omega), if_pos (by omega), l1Copy_f _ (by simp; omega)]
    simp only [Option.bind_some]
    rw [List.drop_take, show (a + q).toNat - a.toNat = (min (min (((l.drop a.toNat).length : Nat) : Int) n) m).toNat by omega]
theorem readPart_f (l : List Int) (a n m : Int) (h0 : 0 ≤ a) (hn : 0 ≤ n ∧ n ≤ 400) (hm : 1 ≤ m ∧ m ≤ 400) : impl_readPart.f l a n m = some (partF l a n m) := by
  unfold impl_readPart.f partF
  by_cases h : a ≥ (l.length : Int)
  · rw [if_pos h, if_pos h]
  · rw [if_neg h, if_neg h, if_pos h0, if_pos (by omega)]
def partR (l : List Int) (a n m : Int) : Int × List Int := if (l.length : Int) > 400 then (2, []) else if 0 ≤ a ∧ (0 ≤ n ∧ n ≤ 400) ∧ (1 ≤ m ∧ m ≤ 400) then (0, partF l a n m) else (3, [])
theorem partR_len (l : List Int) (a n m : Int) : (partR l a n m).2.length ≤ l.length := by
  unfold partR
  split
  · simp
  · split
    · exact partF_len l a n m
    · simp
/-- A loop that asks each place, and ends at the first one that answers. -/
def askTo {β : Type} (p : Nat → Bool) (bad good : β) : Nat → Nat → β
  | 0, _ => good
  | d + 1, i => if p i then askTo p bad good d (i + 1) else bad
theorem askTo_loop {β : Type} (n : Nat) (p : Nat → Bool) (bad good : β) (G : Nat → Int → Option β)
    (hend : Ev (fun k => G k (n : Int)) good)
    (hstep : ∀ (i : Nat) (h : i < n) (r : β), p i = true → Ev (fun k => G k ((i : Int) + 1)) r → Ev (fun k => G k (i : Int)) r)
    (hbad : ∀ (i : Nat) (h : i < n), p i = false → Ev (fun k => G k (i : Int)) bad) : Ev (fun k => G k 0) (askTo p bad good n 0) := by
  have main : ∀ (d i : Nat), i + d = n → Ev (fun k => G k (i : Int)) (askTo p bad good d i) := by
    intro d
    induction d with
    | zero =>
      intro i hi
      obtain rfl : i = n := by omega
      exact hend
    | succ d ih =>
      intro i hi
      have hlt : i < n := by omega
      show Ev _ (if p i then askTo p bad good d (i + 1) else bad)
      by_cases hp : p i = true
      · rw [if_pos hp]
        refine hstep i hlt _ hp ?_
        have := ih (i + 1) (by omega)
        simpa only [Int.natCast_add, Int.natCast_one] using this
      · rw [if_neg hp]
        exact hbad i hlt (by simpa using hp)
  exact main n 0 (by omega)

def Bytes (l : List Int) : Prop := ∀ x ∈ l, 0 ≤ x ∧ x ≤ 255
theorem Bytes.take {l : List Int} (h : Bytes l) (n : Nat) : Bytes (l.take n) := fun x hx => h x (List.mem_of_mem_take hx)
theorem Bytes.drop {l : List Int} (h : Bytes l) (n : Nat) : Bytes (l.drop n) := fun x hx => h x (List.mem_of_mem_drop hx)
theorem Bytes.append {l m : List Int} (h : Bytes l) (k : Bytes m) : Bytes (l ++ m) := fun x hx => (List.mem_append.1 hx).elim (h x) (k x)
theorem Bytes.nil : Bytes [] := fun _ h => by cases h
theorem bytes_of_wf {l : List Int} (h : ∀ x ∈ l, (Lit.int .u8 x).wf = true) : Bytes l := fun x hx => by
  have := h x hx
  simp [Lit.wf, IntKind.min, IntKind.max, IntKind.signed, IntKind.bits] at this
  omega
theorem u8_inj {a b : Int} (ha : 0 ≤ a ∧ a ≤ 255) (hb : 0 ≤ b ∧ b ≤ 255) (h : UInt8.ofNat a.toNat = UInt8.ofNat b.toNat) : a = b := by
  have := congrArg UInt8.toNat h
  simp only [UInt8.toNat_ofNat'] at this
  omega
theorem so_list (xs : List Int) : (strOfNums xs).toList = xs.map fun n => UInt8.ofNat n.toNat := by
  rw [Go.ByteArray.toList_eq]; rfl
theorem map_u8_inj : ∀ {xs ys : List Int}, Bytes xs → Bytes ys → (xs.map fun n => UInt8.ofNat n.toNat) = (ys.map fun n => UInt8.ofNat n.toNat) → xs = ys
  | [], [], _, _, _ => rfl
  | [], _ :: _, _, _, h => by simp at h
  | _ :: _, [], _, _, h => by simp at h
  | x :: xs, y :: ys, hx, hy, h => by
    simp only [List.map_cons, List.cons.injEq] at h
    rw [u8_inj (hx x (by simp)) (hy y (by simp)) h.1, map_u8_inj (fun z hz => hx z (by simp [hz])) (fun z hz => hy z (by simp [hz])) h.2]
theorem so_inj {xs ys : List Int} (hx : Bytes xs) (hy : Bytes ys) : (strOfNums xs).toList = (strOfNums ys).toList ↔ xs = ys := by
  rw [so_list, so_list]
  exact ⟨map_u8_inj hx hy, fun h => by rw [h]⟩

def trueP (u : Int) (l : List (S80)) (f : List Int) (i : Nat) : Bool :=
  match l[i]? with
  | none => true
  | some b => decide ((strOfNums b.f1).toList = (strOfNums (partF f (b.f0 * u) u 400)).toList)
def cacheTrueF (u s : Int) (l : List (S80)) (f : List Int) : Bool := if codeF u s l f = 0 then askTo (trueP u l f) false true l.length 0 else false
theorem l3True_ev (u s : Int) (l : List (S80)) (f : List Int) (hl : l.length ≤ 1048576) (ok : CacheOk u s l) (hf : f.length ≤ 400) :
    Ev (fun k => spec_l3True.f k [(⟨u, s, l⟩ : S25)] [(⟨f⟩ : S44)]) (askTo (trueP u l f) false true l.length 0) := by
  have hr : rd_T25 [(⟨u, s, l⟩ : S25)] 0 = ⟨u, s, l⟩ := rfl
  obtain ⟨hu, hs, hls, hb, hp⟩ := ok
  have part : ∀ (i : Nat) (h : i < l.length), spec_l2Part.f [(⟨f⟩ : S44)] (wrap64 (l[i].f0 * u)) u 400 = some (partF f (l[i].f0 * u) u 400) := by
    intro i h
    obtain ⟨⟨b0, b1⟩, _⟩ := hb _ (List.getElem_mem h)
    have m0 : 0 ≤ l[i].f0 * u := Int.mul_nonneg b0 (by omega)
    have m1 : l[i].f0 * u ≤ 400 * 64 := Int.mul_le_mul b1 hu.2 (by omega) (by omega)
    rw [w64 (by omega) (by omega)]
    exact l2Part_f f hf _ u 400 m0 (by omega) (by omega)
  simp only [spec_l3True.f]
  refine askTo_loop l.length (trueP u l f) false true (fun k i => spec_l3True.l0 k [(⟨u, s, l⟩ : S25)] [(⟨f⟩ : S44)] i) ?_ ?_ ?_
  · refine Ev_shift ?_; simp only [spec_l3True.l0, hr]
    exact Ev_pos (by simp) (Ev_neg (by omega) (Ev.now _))
  · intro i h r hp hk
    simp only [trueP, List.getElem?_eq_getElem h, decide_eq_true_eq] at hp
    refine Ev_shift ?_; simp only [spec_l3True.l0, hr]
    rw [rdB l i h, w64 (x := (i : Int) + 1) (by omega) (by omega)]
    exact Ev_pos (by simp) (Ev_pos (by omega) (Ev_pos (by omega) (Ev.bind (Ev_eq (part i h)) (Ev_pos hp hk))))
  · intro i h hp
    simp only [trueP, List.getElem?_eq_getElem h, decide_eq_false_iff_not] at hp
    refine Ev_shift ?_; simp only [spec_l3True.l0, hr]
    rw [rdB l i h]
    exact Ev_pos (by simp) (Ev_pos (by omega) (Ev_pos (by omega) (Ev.bind (Ev_eq (part i h)) (Ev_neg hp (Ev.now _)))))
theorem specCacheTrue_ev (u s : Int) (l : List (S80)) (f : List Int) (hl : l.length ≤ 1048576) : Ev (fun k => spec_CacheTrue.f k u s l f) (cacheTrueF u s l f) := by
  simp only [spec_CacheTrue.f]
  refine Ev.bind (l3Asked_ev u s l f hl) ?_
  unfold cacheTrueF
  by_cases h : codeF u s l f = 0
  · obtain ⟨ok, hf⟩ := codeF_zero h
    exact Ev_r (if_pos h) (Ev_pos h (Ev.bind (l3True_ev u s l f hl ok hf) (Ev.now _)))
  · exact Ev_r (if_neg h) (Ev_neg h (Ev.now _))
theorem implCacheTrue_ev (u s : Int) (l : List (S80)) (f : List Int) (hl : l.length ≤ 1048576) : Ev (fun k => impl_CacheTrue.f k u s l f) (cacheTrueF u s l f) := by
  simp only [impl_CacheTrue.f]
  refine Ev.bind (cacheCode_ev u s l f hl) ?_
  unfold cacheTrueF
  by_cases h : codeF u s l f = 0
  · obtain ⟨⟨hu, hs, hls, hb, hp⟩, hf⟩ := codeF_zero h
    refine Ev_r (if_pos h) (Ev_pos h ?_)
    have part : ∀ (i : Nat) (h : i < l.length), impl_readPart.f f (wrap64 (l[i].f0 * u)) u 400 = some (partF f (l[i].f0 * u) u 400) := by
      intro i h
      obtain ⟨⟨b0, b1⟩, _⟩ := hb _ (List.getElem_mem h)
      have m0 : 0 ≤ l[i].f0 * u := Int.mul_nonneg b0 (by omega)
      have m1 : l[i].f0 * u ≤ 400 * 64 := Int.mul_le_mul b1 hu.2 (by omega) (by omega)
      rw [w64 (by omega) (by omega)]
      exact readPart_f f _ u 400 m0 (by omega) (by omega)
    refine askTo_loop l.length (trueP u l f) false true (fun k i => impl_CacheTrue.l0 k l (l.length : Int) i u s l f) ?_ ?_ ?_
    · refine Ev_shift ?_; simp only [impl_CacheTrue.l0]
      exact Ev_neg (by omega) (Ev.now _)
    · intro i h r hp hk
      simp only [trueP, List.getElem?_eq_getElem h, decide_eq_true_eq] at hp
      refine Ev_shift ?_; simp only [impl_CacheTrue.l0]
      rw [rdB l i h, w64 (x := (i : Int) + 1) (by omega) (by omega)]
      exact Ev_pos (by omega) (Ev_pos (by omega) (Ev_pos (by omega) (Ev.bind (Ev_eq (part i h)) (Ev_pos hp.symm hk))))
    · intro i h hp
      simp only [trueP, List.getElem?_eq_getElem h, decide_eq_false_iff_not] at hp
      refine Ev_shift ?_; simp only [impl_CacheTrue.l0]
      rw [rdB l i h]
      exact Ev_pos (by omega) (Ev_pos (by omega) (Ev_pos (by omega) (Ev.bind (Ev_eq (part i h)) (Ev_neg (fun e => hp e.symm) (Ev.now _)))))
  · exact Ev_r (if_neg h) (Ev_neg h (Ev.now _))

theorem FnExactCacheTrue : laws_FnExactCacheTrue.Pure := by
  intro u s l f _ _ hl hw hfl _
  have hwl : ∀ x ∈ l, x.f1.length ≤ maxLen := fun x hx => (hw x hx).2.1
  refine Ev.rounds ?_
  simp only [laws_FnExactCacheTrue.f]
  obtain ⟨r, h0, hc⟩ := szCache_ev u s l hwl hl 1048576 (by omega) (by omega)
  rcases hc with rfl | ⟨c0, c1, c2, c3⟩
  · exact Ev.bind h0 (Ev_pos (by omega) (Ev.now _))
  · rcases szFile_f f r hfl (by omega) (by omega) with ⟨h, e⟩ | e
    · have g0 := Ev_eq e
      have hs : f.length ≤ 1048576 := by omega
      have h1 := toCache_ev u s l c2 c3
      have h1' := toFile_ev f hs
      have h2 := specCacheTrue_ev u s (l.map bk) f (by simpa using c2)
      have h3 := implCacheTrue_ev u s (l.map bk) f (by simpa using c2)
      have h4 := eqCache_ev u s (l.map bk) (by simp; omega) (fun x hx => Nat.le_trans (bk_small c3 x hx) (by omega))
      have h5 := eqFile_ev f hs
      repeat' first | with_reducible exact Ev.now _ | (with_reducible refine Ev.bind (by with_reducible assumption) ?_; try dsimp only) | (with_reducible refine Ev_pos ?hc_ ?_; (case hc_ => first | omega | (simp; done))) | (with_reducible refine Ev_neg ?hc_ ?_; (case hc_ => first | omega | (simp; done)))
    · exact Ev.bind h0 (Ev_neg (by omega) (Ev_pre e (Ev_pos (by omega) (Ev.now _))))

end Go.Proofs.Ytkocconggohdgaa.Pure
