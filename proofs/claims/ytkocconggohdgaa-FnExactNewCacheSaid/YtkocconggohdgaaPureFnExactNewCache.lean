/- the program's NewCache tells what the reference's tells, for all numbers. Under no condition. -/
import Derived.Test.YtkocconggohdgaaPFnExactNewCachex4
set_option linter.unusedVariables false
set_option linter.unusedSimpArgs false
namespace Go.Proofs.Ytkocconggohdgaa.Pure
open Go.RowKit Go.Proofs.Ytkocconggohdgaa.PFnExactNewCache Go.Proofs.YtkocconggohdgaaW.PrintWords Go.Proofs.YtkocconggohdgaaW.PrintLast

theorem w64 {x : Int} (h0 : -9223372036854775808 ≤ x) (h1 : x ≤ 9223372036854775807) : wrap64 x = x := by unfold wrap64; omega
theorem Ev_shift {α : Type} {g : Nat → Option α} {r : α} (h : Ev (fun k => g (k + 1)) r) : Ev g r := Ev.step (f := fun k => g (k + 1)) (fun _ => rfl) h
theorem Ev_pos {α : Type} {c : Prop} [Decidable c] (hc : c) {a b : Nat → Option α} {r : α} (h : Ev a r) : Ev (fun k => if c then a k else b k) r := by
  simpa only [if_pos hc] using h
theorem Ev_neg {α : Type} {c : Prop} [Decidable c] (hc : ¬ c) {a b : Nat → Option α} {r : α} (h : Ev b r) : Ev (fun k => if c then a k else b k) r := by
  simpa only [if_neg hc] using h
theorem Ev_pre {α β : Type} {g : Option α} {a : α} {f : Nat → α → Option β} {r : β} (h : g = some a) (k : Ev (fun n => f n a) r) : Ev (fun n => g.bind (f n)) r := by
  subst h; exact k
theorem Ev_eq {α : Type} {g : Option α} {r : α} (h : g = some r) : Ev (fun _ => g) r := by subst h; exact Ev.now r
theorem Ev_r {α : Type} {g : Nat → Option α} {r r' : α} (e : r = r') (h : Ev g r') : Ev g r := e ▸ h
theorem maxLen_le : maxLen ≤ 9223372036854775807 := by unfold maxLen; omega
theorem rd_nat (l : List Int) (i : Nat) (h : i < l.length) : rd l (i : Int) = l[i] := by simp [rd, h]
/-- A loop that fills a row with what it makes of another one's elements. -/
theorem fill_loop {α β : Type} (l : List α) (c : α → β) (G : Nat → List β → Int → Option (List β))
    (hend : ∀ x, Ev (fun k => G k x (l.length : Int)) x)
    (hstep : ∀ (i : Nat) (h : i < l.length) (x : List β) (r : List β), x.length = l.length → Ev (fun k => G k (x.set i (c l[i])) ((i : Int) + 1)) r → Ev (fun k => G k x (i : Int)) r)
    (x : List β) (hx : x.length = l.length) : Ev (fun k => G k x 0) (l.map c) := by
  have main : ∀ (d i : Nat) (x : List β), x.length = l.length → i + d = l.length → (∀ (j : Nat) (hj : j < i) (hl : j < l.length) (hx : j < x.length), x[j] = c l[j]) → Ev (fun k => G k x (i : Int)) (l.map c) := by
    intro d
    induction d with
    | zero =>
      intro i x hx hi hp
      obtain rfl : i = l.length := by omega
      have : x = l.map c := by
        apply List.ext_getElem (by simp [hx])
        intro j h1 h2
        rw [List.getElem_map]
        exact hp j (by omega) (by omega) h1
      rw [← this]
      exact hend x
    | succ d ih =>
      intro i x hx hi hp
      refine hstep i (by omega) x _ hx ?_
      have := ih (i + 1) (x.set i (c (l[i]'(by omega)))) (by simp [hx]) (by omega) (fun j hj hl hx' => by
        rw [List.getElem_set]
        split
        · rename_i e; subst e; rfl
        · exact hp j (by omega) hl (by simpa using hx'))
      simpa using this
  have := main l.length 0 x hx (by omega) (fun j hj => absurd hj (by omega))
  simpa using this
/-- A loop that goes through all places and finds nothing amiss. -/
theorem same_loop (n : Nat) (G : Nat → Int → Option Bool) (hend : Ev (fun k => G k (n : Int)) true)
    (hstep : ∀ i : Nat, i < n → Ev (fun k => G k ((i : Int) + 1)) true → Ev (fun k => G k (i : Int)) true) : Ev (fun k => G k 0) true := by
  have main : ∀ (d i : Nat), i + d = n → Ev (fun k => G k (i : Int)) true := by
    intro d
    induction d with
    | zero => intro i hi; obtain rfl : i = n := by omega
              exact hend
    | succ d ih =>
      intro i hi
      refine hstep i (by omega) ?_
      have := ih (i + 1) (by omega)
      simpa using this
  have := main n 0 (by omega)
  simpa using this

theorem eqByteS_ev (l : List Int) (h : l.length ≤ 9223372036854775807) : Ev (fun k => laws_eqByteS.f k l l) true := by
  simp only [laws_eqByteS.f]
  refine Ev_pos (by first | trivial | rfl | simp) ?_
  refine same_loop l.length (fun k i => laws_eqByteS.l0 k l l i) ?_ ?_
  · refine Ev_shift ?_; simp only [laws_eqByteS.l0]
    exact Ev_neg (by omega) (Ev.now _)
  · intro i hi hr
    refine Ev_shift ?_; simp only [laws_eqByteS.l0]
    refine Ev_pos (by omega) (Ev_pos (by omega) (Ev_pos (by omega) (Ev_pos (by first | trivial | rfl | simp) ?_)))
    rw [w64 (by omega) (by omega)]
    exact hr

theorem f_dec_eq {p q : Prop} [Decidable p] [Decidable q] (h : p ↔ q) : decide p = decide q := decide_eq_decide.mpr h
theorem f_in (a b c : Int) : spec_l1In.f a b c = some (decide (b ≤ a ∧ a ≤ c)) := by
  simp only [spec_l1In.f]
  by_cases h : a ≥ b
  · rw [if_pos h]; exact congrArg some (f_dec_eq (by omega))
  · rw [if_neg h]; exact congrArg some (decide_eq_false (by omega)).symm
theorem f_within (a b c : Int) : impl_within.f a b c = some (decide (b ≤ a ∧ a ≤ c)) := by
  simp only [impl_within.f]
  by_cases h : b ≤ a
  · rw [if_pos h]; exact congrArg some (f_dec_eq (by omega))
  · rw [if_neg h]; exact congrArg some (decide_eq_false (by omega)).symm

theorem rdB (l : List (S80)) (i : Nat) (h : i < l.length) : rd_T80 l (i : Int) = l[i] := by simp [rd_T80, h]
theorem eqBlock_ev (a : Int) (l : List Int) (h : l.length ≤ 9223372036854775807) : Ev (fun k => laws_eqBlock.f k a l a l) true := by
  simp only [laws_eqBlock.f]
  exact Ev_pos trivial (Ev.bind (eqByteS_ev l h) (Ev_pos (by first | trivial | rfl | simp) (Ev.now _)))
theorem eqBlockS_ev (l : List (S80)) (h : l.length ≤ 9223372036854775807) (hw : ∀ x ∈ l, x.f1.length ≤ 9223372036854775807) : Ev (fun k => laws_eqBlockS.f k l l) true := by
  simp only [laws_eqBlockS.f]
  refine Ev_pos (by first | trivial | rfl | simp) ?_
  refine same_loop l.length (fun k i => laws_eqBlockS.l0 k l l i) ?_ ?_
  · refine Ev_shift ?_; simp only [laws_eqBlockS.l0]
    exact Ev_neg (by omega) (Ev.now _)
  · intro i hi hr
    refine Ev_shift ?_; simp only [laws_eqBlockS.l0]
    rw [rdB l i hi, w64 (by omega) (by omega)]
    refine Ev_pos (by omega) (Ev_pos (by omega) (Ev_pos (by omega) ?_))
    exact Ev.bind (eqBlock_ev l[i].f0 l[i].f1 (hw _ (List.getElem_mem hi))) (Ev_pos (by first | trivial | rfl | simp) hr)
theorem eqCache_ev (u s : Int) (l : List (S80)) (h : l.length ≤ 9223372036854775807) (hw : ∀ x ∈ l, x.f1.length ≤ 9223372036854775807) : Ev (fun k => laws_eqCache.f k u s l u s l) true := by
  simp only [laws_eqCache.f]
  exact Ev_pos trivial (Ev_pos trivial (Ev.bind (eqBlockS_ev l h hw) (Ev_pos (by first | trivial | rfl | simp) (Ev.now _))))
/-- What is wrong with the blocks from place i on. -/
def blocksF (u : Int) (l : List (S80)) : Nat → Nat → Int
  | 0, _ => 0
  | d + 1, i => match l[i]? with
    | none => 0
    | some b => if ¬ (0 ≤ b.f0 ∧ b.f0 ≤ 400) then 3 else if ¬ (1 ≤ (b.f1.length : Int) ∧ (b.f1.length : Int) ≤ u) then 1 else if (l.take i).any (fun x => x.f0 == b.f0) then 6 else blocksF u l d (i + 1)
def cacheF (u s : Int) (l : List (S80)) : Int :=
  if ¬ ((1 ≤ u ∧ u ≤ 64) ∧ (1 ≤ s ∧ s ≤ 6)) then 3 else if (l.length : Int) > s then 2 else blocksF u l l.length 0
theorem blkIdx_any (p : S80 → Bool) : ∀ (l : List (S80)) (i : Nat), (0 ≤ blkIdx p l i ↔ l.any p = true)
  | [], i => by simp [blkIdx]
  | x :: xs, i => by
    have := blkIdx_any p xs (i + 1)
    cases h : p x
    · simp [blkIdx, h, this]
    · simp [blkIdx, h]
theorem blkIdx_lo (p : S80 → Bool) : ∀ (l : List (S80)) (i : Nat), blkIdx p l i = -1 ∨ (i : Int) ≤ blkIdx p l i
  | [], i => .inl rfl
  | x :: xs, i => by
    have := blkIdx_lo p xs (i + 1)
    cases h : p x
    · simp only [blkIdx, h]; simp only [Bool.false_eq_true, if_false]; omega
    · simp [blkIdx, h]
theorem blkIdx_hi (p : S80 → Bool) : ∀ (l : List (S80)) (i : Nat), blkIdx p l i = -1 ∨ blkIdx p l i < (i + l.length : Nat)
  | [], i => .inl rfl
  | x :: xs, i => by
    have := blkIdx_hi p xs (i + 1)
    cases h : p x
    · simp only [blkIdx, h]; simp only [Bool.false_eq_true, if_false, List.length_cons]; omega
    · simp [blkIdx, h]; omega
/-- The first one that answers is this one just where none ahead of it does. -/
theorem blkIdx_this (p : S80 → Bool) (l : List (S80)) (i : Nat) (h : i < l.length) (hp : p l[i] = true) : blkIdx p l 0 = (i : Int) ↔ (l.take i).any p = false := by
  constructor
  · intro e
    by_cases ha : (l.take i).any p = true
    · obtain ⟨x, hx, hpx⟩ := List.any_eq_true.1 ha
      obtain ⟨j, hj, rfl⟩ := List.getElem_of_mem hx
      rw [List.length_take] at hj
      rw [List.getElem_take] at hpx
      exfalso
      have : ∀ (k : Nat), k ≤ j → (hk : k < l.length) → p l[k] = true → False := by
        intro k
        induction k using Nat.strongRecOn with
        | ind k ih =>
          intro hkj hk hpk
          by_cases hall : ∀ m (hm : m < k), p (l[m]'(by omega)) = false
          · have := blkIdx_hit p l k 0 hk hpk hall
            rw [e] at this; omega
          · have : ∃ m, ∃ hm : m < k, p (l[m]'(by omega)) = true := by
              apply Classical.byContradiction
              intro hn
              apply hall
              intro m hm
              cases hq : p (l[m]'(by omega))
              · rfl
              · exact absurd ⟨m, hm, hq⟩ hn
            obtain ⟨m, hm, hpm⟩ := this
            exact ih m hm (by omega) (by omega) hpm
      exact this j (Nat.le_refl _) (by omega) hpx
    · simpa using ha
  · intro ha
    have hn : ∀ j (hj : j < i), p (l[j]'(by omega)) = false := by
      intro j hj
      cases hq : p (l[j]'(by omega))
      · rfl
      · have : (l.take i).any p = true := List.any_eq_true.2 ⟨l[j]'(by omega), by rw [show l[j]'(by omega) = (l.take i)[j]'(by rw [List.length_take]; omega) by rw [List.getElem_take]]; exact List.getElem_mem _, hq⟩
        rw [this] at ha; cases ha
    have := blkIdx_hit p l i 0 h hp hn
    simpa using this
theorem iCacheFault_l0 (u s : Int) (hu : u ≤ 64) (l : List (S80)) (hl : l.length ≤ 1048576) : ∀ (d i : Nat), i + d = l.length →
    Ev (fun k => impl_CacheFault.l0 k l (l.length : Int) (i : Int) u s l) (blocksF u l d i) := by
  intro d
  induction d with
  | zero =>
    intro i hi
    refine Ev_shift ?_; simp only [impl_CacheFault.l0]
    exact Ev_neg (by omega) (Ev.now _)
  | succ d ih =>
    intro i hi
    have hlt : i < l.length := by omega
    simp only [blocksF, List.getElem?_eq_getElem hlt]
    refine Ev_shift ?_; simp only [impl_CacheFault.l0, f_within, impl_blockAt.f]
    rw [rdB l i hlt, w64 (by omega) (by omega)]
    refine Ev_pos (by omega) (Ev_pos (by omega) (Ev_pos (by omega) (Ev.bind (Ev_eq rfl) ?_)))
    by_cases c1 : 0 ≤ l[i].f0 ∧ l[i].f0 ≤ 400
    · rw [if_neg (by simpa using c1)]
      refine Ev_pos (by simpa using c1) (Ev.bind (Ev_eq rfl) ?_)
      by_cases c2 : 1 ≤ (l[i].f1.length : Int) ∧ (l[i].f1.length : Int) ≤ u
      · rw [if_neg (fun hn => hn c2), Int.toNat_natCast]
        refine Ev_pos (decide_eq_true c2) (Ev_pos (by omega) (Ev.bind (Ev_eq rfl) ?_))
        have hx := blkIdx_any (fun x => x.f0 == l[i].f0) (l.take i) 0
        by_cases c3 : (l.take i).any (fun x => x.f0 == l[i].f0) = true
        · rw [if_pos c3]
          exact Ev_pos (hx.2 c3) (Ev.now _)
        · rw [if_neg c3]
          refine Ev_neg (fun e => c3 (hx.1 e)) ?_
          have := ih (i + 1) (by omega)
          simpa only [Int.natCast_add, Int.natCast_one] using this
      · rw [if_pos c2]
        exact Ev_neg (by simpa using c2) (Ev.now _)
    · rw [if_pos c1]
      exact Ev_neg (by simpa using c1) (Ev.now _)
theorem iCacheFault_ev (u s : Int) (l : List (S80)) (hl : l.length ≤ 1048576) : Ev (fun k => impl_CacheFault.f k u s l) (cacheF u s l) := by
  simp only [impl_CacheFault.f, f_within]
  refine Ev.bind (Ev_eq rfl) ?_
  unfold cacheF
  have bad : ¬ ((1 ≤ u ∧ u ≤ 64) ∧ (1 ≤ s ∧ s ≤ 6)) → Ev (fun k => impl_CacheFault.j0 k true u s l) (if ¬ ((1 ≤ u ∧ u ≤ 64) ∧ (1 ≤ s ∧ s ≤ 6)) then 3 else if (l.length : Int) > s then 2 else blocksF u l l.length 0) := by
    intro e
    refine Ev_r (if_pos e) (Ev_shift ?_); simp only [impl_CacheFault.j0]
    exact Ev_pos (by first | trivial | rfl | simp) (Ev.now _)
  by_cases c1 : 1 ≤ u ∧ u ≤ 64
  · refine Ev_pos (decide_eq_true c1) (Ev.bind (a := decide (1 ≤ s ∧ s ≤ 6)) (Ev_eq rfl) ?_)
    by_cases c2 : 1 ≤ s ∧ s ≤ 6
    · rw [decide_eq_true c2]
      refine Ev_r (if_neg (fun hn => hn ⟨c1, c2⟩)) (Ev_shift ?_); simp only [impl_CacheFault.j0]
      refine Ev_neg (by simp) ?_
      by_cases c3 : (l.length : Int) > s
      · exact Ev_r (if_pos c3) (Ev_pos c3 (Ev.now _))
      · refine Ev_r (if_neg c3) (Ev_neg c3 ?_)
        simpa using iCacheFault_l0 u s c1.2 l hl l.length 0 (by omega)
    · rw [decide_eq_false c2]
      exact bad (fun e => c2 e.2)
  · exact Ev_neg (by simpa using c1) (bad (fun e => c1 e.1))
theorem eqNil8 : Ev (fun k => laws_eqByteS.f k [] []) true := by
  simp only [laws_eqByteS.f]
  refine Ev_pos (by first | trivial | rfl | simp) (Ev_shift ?_); simp only [laws_eqByteS.l0]
  exact Ev_neg (by simp) (Ev.now _)
theorem heldNil8 : Ev (fun k => laws_heldByteS.f k [] 1) 1 := by
  simp only [laws_heldByteS.f]
  refine Ev_shift ?_; simp only [laws_heldByteS.l0]
  exact Ev_neg (by simp) (Ev.now _)
theorem heldNilB : Ev (fun k => laws_heldBlockS.f k [] 1) 1 := by
  simp only [laws_heldBlockS.f]
  refine Ev_shift ?_; simp only [laws_heldBlockS.l0]
  exact Ev_neg (by simp) (Ev.now _)
theorem eqRes (c u s : Int) : Ev (fun k => laws_eqCacheResult.f k c [] u s [] c [] u s []) true := by
  simp only [laws_eqCacheResult.f]
  refine Ev_pos (by first | trivial | rfl | simp) (Ev.bind eqNil8 (Ev_pos (by first | trivial | rfl | simp) (Ev.bind (eqCache_ev u s [] (by simp) (by simp)) (Ev_pos (by first | trivial | rfl | simp) (Ev.now _)))))
theorem heldRes (c u s : Int) : Ev (fun k => laws_heldCacheResult.f k c [] u s [] 1) 1 := by
  simp only [laws_heldCacheResult.f, laws_heldCache.f]
  exact Ev.bind heldNil8 (Ev_neg (by omega) (Ev.bind (Ev.bind heldNilB (Ev_neg (by omega) (Ev.now _))) (Ev_neg (by omega) (Ev.now _))))
def newR (u s : Int) : Int × List Int × Int × Int × List (S80) := if (1 ≤ u ∧ u ≤ 64) ∧ (1 ≤ s ∧ s ≤ 6) then (0, [], u, s, []) else (3, [], 0, 0, [])
theorem spec_NewCache_f (u s : Int) : spec_NewCache.f u s = some (newR u s) := by
  simp only [spec_NewCache.f, f_in, spec_l3Bad.f, Option.bind_some, decide_eq_true_eq, newR]
  by_cases h : 1 ≤ u ∧ u ≤ 64
  · rw [if_pos h]
    by_cases h' : 1 ≤ s ∧ s ≤ 6
    · rw [if_pos h', if_pos ⟨h, h'⟩]
    · rw [if_neg h', if_neg (fun e => h' e.2)]
  · rw [if_neg h, if_neg (fun e => h e.1)]
theorem impl_NewCache_ev (u s : Int) : Ev (fun k => impl_NewCache.f k u s) (newR u s) := by
  simp only [impl_NewCache.f]
  refine Ev.bind (iCacheFault_ev u s [] (by simp)) ?_
  by_cases h : (1 ≤ u ∧ u ≤ 64) ∧ (1 ≤ s ∧ s ≤ 6)
  · have e : cacheF u s [] = 0 := by unfold cacheF; rw [if_neg (fun e => e h), if_neg (by simp; omega)]; rfl
    rw [e]; exact Ev_r (if_pos h) (Ev_pos (by first | trivial | rfl | simp) (Ev.now _))
  · have e : cacheF u s [] = 3 := by unfold cacheF; rw [if_pos h]
    rw [e]; exact Ev_r (if_neg h) (Ev_neg (by omega) (Ev.now _))
theorem FnExactNewCache : laws_FnExactNewCache.Pure := by
  intro u s _ _
  obtain ⟨c, a, b, hr⟩ : ∃ c a b, newR u s = (c, [], a, b, []) := by unfold newR; split <;> exact ⟨_, _, _, rfl⟩
  have h1 := spec_NewCache_f u s
  have h2 := impl_NewCache_ev u s
  rw [hr] at h1 h2
  have hc : Ev (fun k => (impl_NewCache.f k u s).bind fun y => (laws_eqCacheResult.f k c [] a b [] c [] a b []).bind fun q => (laws_heldCacheResult.f k c [] a b [] 1).bind fun h => some (y, q, h)) ((c, [], a, b, []), true, 1) :=
    Ev.bind h2 (Ev.bind (eqRes c a b) (Ev.bind (heldRes c a b) (Ev.now _)))
  obtain ⟨k, hk⟩ := Ev.rounds hc
  simp only [Option.bind_eq_some_iff, Option.some.injEq, Prod.mk.injEq] at hk
  obtain ⟨y, e1, q, e2, h, e3, rfl, rfl, rfl⟩ := hk
  exact ⟨k, c, a, b, h1, e1, e2, e3⟩

end Go.Proofs.Ytkocconggohdgaa.Pure
