/- the program's CellsText tells what the reference's tells, for all cells. Under no condition. -/
import Derived.Test.YtfeoofbiimijcaaPFnExactCellsTextx3
set_option linter.unusedVariables false
set_option linter.unusedSimpArgs false
namespace Go.Proofs.Ytfeoofbiimijcaa.Pure
open Go.RowKit Go.Proofs.Ytfeoofbiimijcaa.PFnExactCellsText Go.Proofs.YtfeoofbiimijcaaW.PrintWords Go.Proofs.YtfeoofbiimijcaaW.PrintLast

theorem w64 {x : Int} (h0 : -9223372036854775808 ≤ x) (h1 : x ≤ 9223372036854775807) : wrap64 x = x := by unfold wrap64; omega
theorem Ev_shift {α : Type} {g : Nat → Option α} {r : α} (h : Ev (fun k => g (k + 1)) r) : Ev g r := Ev.step (f := fun k => g (k + 1)) (fun _ => rfl) h
theorem Ev_pos {α : Type} {c : Prop} [Decidable c] (hc : c) {a b : Nat → Option α} {r : α} (h : Ev a r) : Ev (fun k => if c then a k else b k) r := by
  simpa only [if_pos hc] using h
theorem Ev_neg {α : Type} {c : Prop} [Decidable c] (hc : ¬ c) {a b : Nat → Option α} {r : α} (h : Ev b r) : Ev (fun k => if c then a k else b k) r := by
  simpa only [if_neg hc] using h
theorem Ev_pre {α β : Type} {g : Option α} {a : α} {f : Nat → α → Option β} {r : β} (h : g = some a) (k : Ev (fun n => f n a) r) : Ev (fun n => g.bind (f n)) r := by
  subst h; exact k
theorem Ev_eq {α : Type} {g : Option α} {r : α} (h : g = some r) : Ev (fun _ => g) r := by subst h; exact Ev.now r
theorem maxLen_le : maxLen ≤ 9223372036854775807 := by unfold maxLen; omega
theorem rd_nat (l : List Int) (i : Nat) (h : i < l.length) : rd l (i : Int) = l[i] := by simp [rd, h]
/-- A loop that fills a row with what it makes of another one's elements. -/
theorem fill_loop {α β : Type} (l : List α) (c : α → β) (G : Nat → List β → Int → Option (List β))
    (hend : ∀ x, Ev (fun k => G k x (l.length : Int)) x)
    (hstep : ∀ (i : Nat) (h : i < l.length) (x : List β) (r : List β), x.length = l.length → Ev (fun k => G k (x.set i (c l[i])) ((i : Int) + 1)) r → Ev (fun k => G k x (i : Int)) r)
    (x : List β) (hx : x.length = l.length) : Ev (fun k => G k x 0) (l.map c) := by
  have main : ∀ (d i : Nat) (x : List β), x.length = l.length → i + d = l.length → (∀ (j : Nat) (hj : j < i) (hl : j < l.length) (hx : j < x.length), x[j] = c l[j]) → Ev (fun k => G k x (i : Int)) (l.map c) := by
    intro d
    induction d with
    | zero =>
      intro i x hx hi hp
      obtain rfl : i = l.length := by omega
      have : x = l.map c := by
        apply List.ext_getElem (by simp [hx])
        intro j h1 h2
        rw [List.getElem_map]
        exact hp j (by omega) (by omega) h1
      rw [← this]
      exact hend x
    | succ d ih =>
      intro i x hx hi hp
      refine hstep i (by omega) x _ hx ?_
      have := ih (i + 1) (x.set i (c (l[i]'(by omega)))) (by simp [hx]) (by omega) (fun j hj hl hx' => by
        rw [List.getElem_set]
        split
        · rename_i e; subst e; rfl
        · exact hp j (by omega) hl (by simpa using hx'))
      simpa using this
  have := main l.length 0 x hx (by omega) (fun j hj => absurd hj (by omega))
  simpa using this
/-- A loop that goes through all places and finds nothing amiss. -/
theorem same_loop (n : Nat) (G : Nat → Int → Option Bool) (hend : Ev (fun k => G k (n : Int)) true)
    (hstep : ∀ i : Nat, i < n → Ev (fun k => G k ((i : Int) + 1)) true → Ev (fun k => G k (i : Int)) true) : Ev (fun k => G k 0) true := by
  have main : ∀ (d i : Nat), i + d = n → Ev (fun k => G k (i : Int)) true := by
    intro d
    induction d with
    | zero => intro i hi; obtain rfl : i = n := by omega
              exact hend
    | succ d ih =>
      intro i hi
      refine hstep i (by omega) ?_
      have := ih (i + 1) (by omega)
      simpa using this
  have := main n 0 (by omega)
  simpa using this

theorem and63 (x : Int) (h0 : 0 ≤ x) (h1 : x < 4611686018427387904) : Go.bits .and .i64 x 63 = x % 64 :=
  Go.bits_mask .i64 62 (by decide) (fun n a b => by rw [Go.IntKind.wrap_i64]; omega) 6 (by decide) x h0 h1
theorem dec_eq {p q : Prop} [Decidable p] [Decidable q] (h : p ↔ q) : decide p = decide q := decide_eq_decide.mpr h
theorem dec_false {p : Prop} [Decidable p] (h : ¬ p) : false = decide p := (decide_eq_false h).symm
theorem spec_l1In_f (a b c : Int) : spec_l1In.f a b c = some (decide (b ≤ a ∧ a ≤ c)) := by
  simp only [spec_l1In.f]
  by_cases h : a ≥ b
  · rw [if_pos h]; exact congrArg some (dec_eq (by first | omega | (unfold isCh; omega)))
  · rw [if_neg h]; exact congrArg some (dec_false (by omega))
theorem impl_within_f (a b c : Int) : impl_within.f a b c = some (decide (b ≤ a ∧ a ≤ c)) := by
  simp only [impl_within.f]
  by_cases h : b ≤ a
  · rw [if_pos h]; exact congrArg some (dec_eq (by first | omega | (unfold isCh; omega)))
  · rw [if_neg h]; exact congrArg some (dec_false (by omega))
def isCh (a : Int) : Prop := (0 ≤ a ∧ a ≤ 55295) ∨ (57344 ≤ a ∧ a ≤ 65535)
instance (a : Int) : Decidable (isCh a) := by unfold isCh; exact inferInstance
theorem spec_l1Char_f (a : Int) : spec_l1Char.f a = some (decide (isCh a)) := by
  simp only [spec_l1Char.f, spec_l1In_f, Option.bind_some, decide_eq_true_eq]
  by_cases h : 0 ≤ a ∧ a ≤ 55295
  · rw [if_pos h, decide_eq_true (show isCh a by unfold isCh; omega)]
  · rw [if_neg h]; exact congrArg some (dec_eq (by first | omega | (unfold isCh; omega)))
theorem impl_isChar_f (a : Int) : impl_isChar.f a = some (decide (isCh a)) := by
  simp only [impl_isChar.f, impl_within_f, Option.bind_some, decide_eq_true_eq]
  by_cases h : 0 ≤ a ∧ a ≤ 65535
  · rw [if_pos h]; rw [← decide_not]; exact congrArg some (dec_eq (by unfold isCh; omega))
  · rw [if_neg h]; exact congrArg some (dec_false (by unfold isCh; omega))
/-- The bytes of a character. -/
def enc (a : Int) : List Int := if a < 128 then [a] else if a < 2048 then [192 + a / 64, 128 + a % 64] else [224 + a / 4096, 128 + a / 64 % 64, 128 + a % 64]
theorem enc_len (a : Int) : 1 ≤ (enc a).length ∧ (enc a).length ≤ 3 := by unfold enc; split <;> (try split) <;> simp
theorem spec_l1Encode_f (a : Int) (h0 : 0 ≤ a) (h1 : a ≤ 65535) : spec_l1Encode.f a = some (enc a) := by
  simp only [spec_l1Encode.f, enc]
  rw [Int.tdiv_eq_ediv_of_nonneg h0, Int.tdiv_eq_ediv_of_nonneg h0, Int.tmod_eq_emod_of_nonneg h0]
  by_cases h : a < 128
  · rw [if_pos h, if_pos h]; congr 2; omega
  · rw [if_neg h, if_neg h]
    rw [w64 (x := a / 64) (by omega) (by omega), w64 (x := a / 4096) (by omega) (by omega)]
    rw [Int.tmod_eq_emod_of_nonneg (by omega : 0 ≤ a / 64)]
    rw [w64 (x := 192 + a / 64) (by omega) (by omega), w64 (x := 128 + a % 64) (by omega) (by omega), w64 (x := 224 + a / 4096) (by omega) (by omega), w64 (x := 128 + a / 64 % 64) (by omega) (by omega)]
    by_cases h2 : a < 2048
    · rw [if_pos h2, if_pos h2]; congr 2
      · omega
      · congr 1; omega
    · rw [if_neg h2, if_neg h2]; congr 2
      · omega
      · congr 1
        · omega
        · congr 1; omega
theorem impl_encoded_f (a : Int) (h0 : 0 ≤ a) (h1 : a ≤ 65535) : impl_encoded.f a = some (enc a) := by
  simp only [impl_encoded.f, enc]
  rw [and63 a h0 (by omega), and63 (a / 64) (by omega) (by omega)]
  by_cases h : a < 128
  · rw [if_pos h, if_pos h]; congr 2; omega
  · rw [if_neg h, if_neg h]
    rw [w64 (x := 192 + a / 64) (by omega) (by omega), w64 (x := 128 + a % 64) (by omega) (by omega), w64 (x := 224 + a / 4096) (by omega) (by omega), w64 (x := 128 + a / 64 % 64) (by omega) (by omega)]
    by_cases h2 : a < 2048
    · rw [if_pos h2, if_pos h2]; congr 2
      · omega
      · congr 1; omega
    · rw [if_neg h2, if_neg h2]; congr 2
      · omega
      · congr 1
        · omega
        · congr 1; omega

def cv (x : S91) : S89 := ⟨x.f0, x.f1, x.f2⟩
theorem szCellS_f (l : List (S91)) (n : Int) (hl : l.length ≤ maxLen) (h0 : 0 ≤ n) (h1 : n ≤ 1048576) : (l.length ≤ n ∧ laws_szCellS.f l n = some (n - l.length)) ∨ laws_szCellS.f l n = some (-1) := by
  have := maxLen_le
  simp only [laws_szCellS.f, w64 (show -9223372036854775808 ≤ n - (l.length : Int) by omega) (by omega)]
  by_cases h : n - (l.length : Int) < 0
  · exact .inr (if_pos h)
  · exact .inl ⟨by omega, if_neg h⟩
theorem rdC (l : List (S89)) (i : Nat) (h : i < l.length) : rd_T89 l (i : Int) = l[i] := by simp [rd_T89, h]
theorem rdC' (l : List (S91)) (i : Nat) (h : i < l.length) : rd_T91 l (i : Int) = l[i] := by simp [rd_T91, h]
theorem toCellS_ev (l : List (S91)) (h : l.length ≤ 1048576) : Ev (fun k => laws_toCellS.f k l) (l.map cv) := by
  have main := fill_loop l cv (fun k x i => laws_toCellS.l0 k l x i) (fun x => by
      refine Ev_shift ?_; simp only [laws_toCellS.l0]
      exact Ev_neg (by omega) (Ev.now _))
    (fun i hi x r hx hr => by
      refine Ev_shift ?_; simp only [laws_toCellS.l0]
      refine Ev_pos (by omega) (Ev_pos (by omega) (Ev.bind (Ev_eq (by simp only [laws_toCell.f]; rfl)) (Ev_pos (by omega) ?_)))
      rw [w64 (by omega) (by omega), rdC' l i hi, Int.toNat_natCast]
      exact hr)
    (List.replicate l.length z89) (by simp)
  simp only [laws_toCellS.f]
  refine Ev_pos (by omega) (Ev_pos (by omega) ?_)
  rw [Int.toNat_natCast]
  exact main
theorem eqCellS_ev (l : List (S89)) (h : l.length ≤ 9223372036854775807) : Ev (fun k => laws_eqCellS.f k l l) true := by
  simp only [laws_eqCellS.f]
  refine Ev_pos (by first | trivial | rfl | simp) ?_
  refine same_loop l.length (fun k i => laws_eqCellS.l0 k l l i) ?_ ?_
  · refine Ev_shift ?_; simp only [laws_eqCellS.l0]
    exact Ev_neg (by omega) (Ev.now _)
  · intro i hi hr
    refine Ev_shift ?_; simp only [laws_eqCellS.l0]
    refine Ev_pos (by omega) (Ev_pos (by omega) (Ev_pos (by omega) (Ev.bind (Ev_eq (r := true) (by simp [laws_eqCell.f])) (Ev_pos (by first | trivial | rfl | simp) ?_))))
    rw [w64 (by omega) (by omega)]
    exact hr
/-- A loop that asks each element, and ends at the first one that answers. -/
def firstOf {α : Type} (p : α → Bool) (bad good : Int) : List α → Int
  | [] => good
  | x :: xs => if p x then firstOf p bad good xs else bad
theorem ask_loop {α : Type} (l : List α) (p : α → Bool) (bad good : Int) (G : Nat → Int → Option Int)
    (hend : Ev (fun k => G k (l.length : Int)) good)
    (hstep : ∀ (i : Nat) (h : i < l.length) (r : Int), p l[i] = true → Ev (fun k => G k ((i : Int) + 1)) r → Ev (fun k => G k (i : Int)) r)
    (hbad : ∀ (i : Nat) (h : i < l.length), p l[i] = false → Ev (fun k => G k (i : Int)) bad) : Ev (fun k => G k 0) (firstOf p bad good l) := by
  have main : ∀ (d i : Nat), i + d = l.length → Ev (fun k => G k (i : Int)) (firstOf p bad good (l.drop i)) := by
    intro d
    induction d with
    | zero =>
      intro i hi
      obtain rfl : i = l.length := by omega
      rw [List.drop_length]
      exact hend
    | succ d ih =>
      intro i hi
      have hlt : i < l.length := by omega
      rw [List.drop_eq_getElem_cons hlt]
      show Ev _ (if p l[i] then firstOf p bad good (l.drop (i + 1)) else bad)
      by_cases hp : p l[i] = true
      · rw [if_pos hp]
        refine hstep i hlt _ hp ?_
        have := ih (i + 1) (by omega)
        simpa using this
      · rw [if_neg hp]
        exact hbad i hlt (by simpa using hp)
  have := main l.length 0 (by omega)
  simpa using this
def okCell (x : S89) : Bool := decide (isCh x.f0 ∧ 32 ≤ x.f0 ∧ x.f0 ≠ 127 ∧ (0 ≤ x.f1 ∧ x.f1 ≤ 400) ∧ (1 ≤ x.f2 ∧ x.f2 ≤ 3))
theorem spec_l1Fault_ev (l : List (S89)) (h : l.length ≤ 1048576) : Ev (fun k => spec_l1Fault.f k l) (if (l.length : Int) > 2000 then 2 else firstOf okCell 3 0 l) := by
  simp only [spec_l1Fault.f]
  by_cases h2 : (l.length : Int) > 2000
  · rw [if_pos h2]; exact Ev_pos h2 (Ev.now _)
  · rw [if_neg h2]
    refine Ev_neg h2 (ask_loop l okCell 3 0 (fun k i => spec_l1Fault.l0 k l i) ?_ ?_ ?_)
    · refine Ev_shift ?_; simp only [spec_l1Fault.l0]
      exact Ev_neg (by omega) (Ev.now _)
    · intro i hi r hp hr
      refine Ev_shift ?_; simp only [spec_l1Fault.l0]
      simp only [okCell, decide_eq_true_eq] at hp
      obtain ⟨c1, c2, c3, c4, c5⟩ := hp
      refine Ev_pos (by omega) (Ev_pos (by omega) ?_)
      rw [rdC l i hi]
      refine Ev.bind (Ev_eq (spec_l1Char_f _)) (Ev_pos (by simpa using c1) (Ev_neg (by omega) (Ev_neg (by omega) (Ev.bind (Ev_eq (spec_l1In_f _ _ _)) (Ev_pos (by simpa using c4) (Ev.bind (Ev_eq (spec_l1In_f _ _ _)) (Ev_pos (by simpa using c5) ?_)))))))
      rw [w64 (by omega) (by omega)]
      exact hr
    · intro i hi hp
      refine Ev_shift ?_; simp only [spec_l1Fault.l0]
      simp only [okCell, decide_eq_false_iff_not] at hp
      refine Ev_pos (by omega) (Ev_pos (by omega) ?_)
      rw [rdC l i hi]
      refine Ev.bind (Ev_eq (spec_l1Char_f _)) ?_
      by_cases c1 : isCh l[i].f0
      · refine Ev_pos (by simpa using c1) ?_
        by_cases c2 : l[i].f0 < 32
        · exact Ev_pos c2 (Ev.now _)
        · refine Ev_neg c2 ?_
          by_cases c3 : l[i].f0 = 127
          · exact Ev_pos c3 (Ev.now _)
          · refine Ev_neg c3 (Ev.bind (Ev_eq (spec_l1In_f _ _ _)) ?_)
            by_cases c4 : 0 ≤ l[i].f1 ∧ l[i].f1 ≤ 400
            · refine Ev_pos (by simpa using c4) (Ev.bind (Ev_eq (spec_l1In_f _ _ _)) ?_)
              by_cases c5 : 1 ≤ l[i].f2 ∧ l[i].f2 ≤ 3
              · exact absurd ⟨c1, by omega, c3, c4, c5⟩ hp
              · exact Ev_neg (by simpa using c5) (Ev.now _)
            · exact Ev_neg (by simpa using c4) (Ev.now _)
      · exact Ev_neg (by simpa using c1) (Ev.now _)
theorem impl_isSeen_f (a : Int) : impl_isSeen.f a = some (decide (isCh a ∧ 32 ≤ a ∧ a ≠ 127)) := by
  simp only [impl_isSeen.f, impl_isChar_f, Option.bind_some, decide_eq_true_eq]
  by_cases h : isCh a
  · rw [if_pos h]
    by_cases h2 : a ≥ 32
    · rw [if_pos h2]
      by_cases h3 : a = 127
      · simp [h3]
      · rw [decide_eq_true (show isCh a ∧ 32 ≤ a ∧ a ≠ 127 from ⟨h, h2, h3⟩)]; simp [h3]
    · rw [if_neg h2, decide_eq_false (by omega)]
  · rw [if_neg h, decide_eq_false (fun z => h z.1)]
theorem impl_CellsFault_ev (l : List (S89)) (h : l.length ≤ 1048576) : Ev (fun k => impl_CellsFault.f k l) (if (l.length : Int) > 2000 then 2 else firstOf okCell 3 0 l) := by
  simp only [impl_CellsFault.f]
  by_cases h2 : (l.length : Int) > 2000
  · rw [if_pos h2]; exact Ev_pos h2 (Ev.now _)
  · rw [if_neg h2]
    refine Ev_neg h2 (ask_loop l okCell 3 0 (fun k i => impl_CellsFault.l0 k l l.length i) ?_ ?_ ?_)
    · refine Ev_shift ?_; simp only [impl_CellsFault.l0]
      exact Ev_neg (by omega) (Ev.now _)
    · intro i hi r hp hr
      refine Ev_shift ?_; simp only [impl_CellsFault.l0]
      simp only [okCell, decide_eq_true_eq] at hp
      obtain ⟨c1, c2, c3, c4, c5⟩ := hp
      refine Ev_pos (by omega) (Ev_pos (by omega) (Ev_pos (by omega) ?_))
      rw [rdC l i hi]
      refine Ev.bind (Ev_eq (impl_isSeen_f _)) (Ev_pos (by simpa using ⟨c1, c2, c3⟩) (Ev.bind (Ev_eq (impl_within_f _ _ _)) (Ev_pos (by simpa using c4) (Ev.bind (Ev_eq (impl_within_f _ _ _)) (Ev_pos (by simpa using c5) ?_)))))
      rw [w64 (by omega) (by omega)]
      exact hr
    · intro i hi hp
      refine Ev_shift ?_; simp only [impl_CellsFault.l0]
      simp only [okCell, decide_eq_false_iff_not] at hp
      refine Ev_pos (by omega) (Ev_pos (by omega) (Ev_pos (by omega) ?_))
      rw [rdC l i hi]
      refine Ev.bind (Ev_eq (impl_isSeen_f _)) ?_
      by_cases c1 : isCh l[i].f0 ∧ 32 ≤ l[i].f0 ∧ l[i].f0 ≠ 127
      · refine Ev_pos (by simpa using c1) (Ev.bind (Ev_eq (impl_within_f _ _ _)) ?_)
        by_cases c4 : 0 ≤ l[i].f1 ∧ l[i].f1 ≤ 400
        · refine Ev_pos (by simpa using c4) (Ev.bind (Ev_eq (impl_within_f _ _ _)) ?_)
          by_cases c5 : 1 ≤ l[i].f2 ∧ l[i].f2 ≤ 3
          · exact absurd ⟨c1.1, c1.2.1, c1.2.2, c4, c5⟩ hp
          · exact Ev_neg (by simpa using c5) (Ev.now _)
        · exact Ev_neg (by simpa using c4) (Ev.now _)
      · exact Ev_neg (by simpa using c1) (Ev.now _)

def encR (a : Int) : Int × List Int := if isCh a then (0, enc a) else (3, [])
theorem isCh_bounds {a : Int} (h : isCh a) : 0 ≤ a ∧ a ≤ 65535 := by unfold isCh at h; omega
theorem encR_len (a : Int) : (encR a).2.length ≤ 3 := by
  unfold encR; split
  · exact (enc_len a).2
  · simp

theorem firstOf_good {α : Type} {p : α → Bool} : ∀ {l : List α}, firstOf p 3 0 l = 0 → ∀ x ∈ l, p x = true
  | [], _, _, hx => by cases hx
  | y :: ys, h, x, hx => by
    by_cases hp : p y = true
    · rcases List.mem_cons.1 hx with rfl | hx
      · exact hp
      · exact firstOf_good (l := ys) (by simpa [firstOf, hp] using h) x hx
    · simp [firstOf, hp] at h
def encAll (l : List (S89)) : List Int := l.flatMap fun x => enc x.f0
theorem encAll_len : ∀ l : List (S89), (encAll l).length ≤ 3 * l.length
  | [] => by simp [encAll]
  | x :: xs => by
    have := encAll_len xs
    have := (enc_len x.f0).2
    simp only [encAll, List.flatMap_cons, List.length_append, List.length_cons] at *
    omega
theorem encAll_succ (l : List (S89)) (i : Nat) (h : i < l.length) : encAll (l.take (i + 1)) = encAll (l.take i) ++ enc l[i].f0 := by
  unfold encAll
  rw [List.take_succ_eq_append_getElem h, List.flatMap_append]
  simp
theorem spec_text_l0 (l : List (S89)) (hl : l.length ≤ 1048576) (hg : ∀ x ∈ l, okCell x = true) : ∀ (d i : Nat), i + d = l.length → Ev (fun k => spec_CellsText.l0 k l (encAll (l.take i)) (i : Int)) (0, strOfNums (encAll l)) := by
  intro d
  induction d with
  | zero =>
    intro i hi
    obtain rfl : i = l.length := by omega
    refine Ev_shift ?_; simp only [spec_CellsText.l0]
    rw [List.take_length]
    exact Ev_neg (by omega) (Ev.now _)
  | succ d ih =>
    intro i hi
    have hlt : i < l.length := by omega
    have ho := hg l[i] (List.getElem_mem hlt)
    simp only [okCell, decide_eq_true_eq] at ho
    have hb := isCh_bounds ho.1
    have h1 := encAll_len (l.take i)
    have h2 := (enc_len l[i].f0).2
    simp only [List.length_take] at h1
    refine Ev_shift ?_; simp only [spec_CellsText.l0]
    refine Ev_pos (by omega) (Ev_pos (by omega) ?_)
    rw [rdC l i hlt]
    refine Ev.bind (Ev_eq (spec_l1Encode_f _ hb.1 hb.2)) (Ev_pos (by omega) ?_)
    rw [w64 (by omega) (by omega)]
    have := ih (i + 1) (by omega)
    rw [encAll_succ l i hlt] at this
    simpa only [Int.natCast_add, Int.natCast_one] using this
theorem impl_text_l0 (l : List (S89)) (hl : l.length ≤ 1048576) (hg : ∀ x ∈ l, okCell x = true) : ∀ (d i : Nat), i + d = l.length → Ev (fun k => impl_CellsText.l0 k (encAll (l.take i)) l (l.length : Int) (i : Int)) (0, strOfNums (encAll l)) := by
  intro d
  induction d with
  | zero =>
    intro i hi
    obtain rfl : i = l.length := by omega
    refine Ev_shift ?_; simp only [impl_CellsText.l0]
    rw [List.take_length]
    exact Ev_neg (by omega) (Ev.now _)
  | succ d ih =>
    intro i hi
    have hlt : i < l.length := by omega
    have ho := hg l[i] (List.getElem_mem hlt)
    simp only [okCell, decide_eq_true_eq] at ho
    have hb := isCh_bounds ho.1
    have h1 := encAll_len (l.take i)
    have h2 := (enc_len l[i].f0).2
    simp only [List.length_take] at h1
    refine Ev_shift ?_; simp only [impl_CellsText.l0]
    refine Ev_pos (by omega) (Ev_pos (by omega) (Ev_pos (by omega) ?_))
    rw [rdC l i hlt]
    refine Ev.bind (Ev_eq (impl_encoded_f _ hb.1 hb.2)) (Ev_pos (by omega) ?_)
    rw [w64 (by omega) (by omega)]
    have := ih (i + 1) (by omega)
    rw [encAll_succ l i hlt] at this
    simpa only [Int.natCast_add, Int.natCast_one] using this
def cellsR (l : List (S89)) : Int × ByteArray := if (if (l.length : Int) > 2000 then 2 else firstOf okCell 3 0 l) = 0 then (0, strOfNums (encAll l)) else ((if (l.length : Int) > 2000 then 2 else firstOf okCell 3 0 l), ⟨#[]⟩)
theorem fault_good (l : List (S89)) (h : (if (l.length : Int) > 2000 then 2 else firstOf okCell 3 0 l) = 0) : ∀ x ∈ l, okCell x = true := by
  by_cases h2 : (l.length : Int) > 2000
  · rw [if_pos h2] at h; omega
  · rw [if_neg h2] at h; exact firstOf_good h
theorem spec_CellsText_ev (l : List (S89)) (h : l.length ≤ 1048576) : Ev (fun k => spec_CellsText.f k l) (cellsR l) := by
  simp only [spec_CellsText.f]
  refine Ev.bind (spec_l1Fault_ev l h) ?_
  unfold cellsR
  by_cases h0 : (if (l.length : Int) > 2000 then 2 else firstOf okCell 3 0 l) = 0
  · rw [if_pos h0]
    exact Ev_pos h0 (spec_text_l0 l h (fault_good l h0) l.length 0 (by omega))
  · rw [if_neg h0]
    exact Ev_neg h0 (Ev.now _)
theorem impl_CellsText_ev (l : List (S89)) (h : l.length ≤ 1048576) : Ev (fun k => impl_CellsText.f k l) (cellsR l) := by
  simp only [impl_CellsText.f]
  refine Ev.bind (impl_CellsFault_ev l h) ?_
  unfold cellsR
  by_cases h0 : (if (l.length : Int) > 2000 then 2 else firstOf okCell 3 0 l) = 0
  · rw [if_pos h0]
    exact Ev_pos h0 (impl_text_l0 l h (fault_good l h0) l.length 0 (by omega))
  · rw [if_neg h0]
    exact Ev_neg h0 (Ev.now _)
theorem FnExactCellsText : laws_FnExactCellsText.Pure := by
  intro l hl _
  refine Ev.rounds ?_
  simp only [laws_FnExactCellsText.f]
  rcases szCellS_f l 1048576 hl (by omega) (by omega) with ⟨h, e⟩ | e
  · have h0 := Ev_eq e
    have hs : l.length ≤ 1048576 := by omega
    have h1 := toCellS_ev l hs
    have h2 := spec_CellsText_ev (l.map cv) (by simpa using hs)
    have h3 := impl_CellsText_ev (l.map cv) (by simpa using hs)
    have h4 := eqCellS_ev (l.map cv) (by simp; omega)
    have h5 : Ev (fun _ => laws_eqTextResult.f (cellsR (l.map cv)).1 (cellsR (l.map cv)).2 (cellsR (l.map cv)).1 (cellsR (l.map cv)).2) true := Ev_eq (by simp [laws_eqTextResult.f])
    generalize cellsR (l.map cv) = r at *
    repeat' first | with_reducible exact Ev.now _ | (with_reducible refine Ev.bind (by with_reducible assumption) ?_; try dsimp only) | (with_reducible refine Ev_pos (by first | omega | (simp; done)) ?_) | (with_reducible refine Ev_neg (by first | omega | (simp; done)) ?_)
  · exact Ev_pre e (Ev_pos (by omega) (Ev.now _))

end Go.Proofs.Ytfeoofbiimijcaa.Pure
