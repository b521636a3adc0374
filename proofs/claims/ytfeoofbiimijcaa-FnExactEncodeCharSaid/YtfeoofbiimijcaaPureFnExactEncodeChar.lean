/- the program's EncodeChar tells what the reference's tells, for every number. Under no condition. -/
import Derived.Test.YtfeoofbiimijcaaPFnExactEncodeCharx2
set_option linter.unusedVariables false
set_option linter.unusedSimpArgs false
namespace Go.Proofs.Ytfeoofbiimijcaa.Pure
open Go.RowKit Go.Proofs.Ytfeoofbiimijcaa.PFnExactEncodeChar Go.Proofs.YtfeoofbiimijcaaW.PrintWords Go.Proofs.YtfeoofbiimijcaaW.PrintLast

theorem w64 {x : Int} (h0 : -9223372036854775808 ≤ x) (h1 : x ≤ 9223372036854775807) : wrap64 x = x := by unfold wrap64; omega
theorem Ev_shift {α : Type} {g : Nat → Option α} {r : α} (h : Ev (fun k => g (k + 1)) r) : Ev g r := Ev.step (f := fun k => g (k + 1)) (fun _ => rfl) h
theorem Ev_pos {α : Type} {c : Prop} [Decidable c] (hc : c) {a b : Nat → Option α} {r : α} (h : Ev a r) : Ev (fun k => if c then a k else b k) r := by
  simpa only [if_pos hc] using h
theorem Ev_neg {α : Type} {c : Prop} [Decidable c] (hc : ¬ c) {a b : Nat → Option α} {r : α} (h : Ev b r) : Ev (fun k => if c then a k else b k) r := by
  simpa only [if_neg hc] using h
theorem Ev_pre {α β : Type} {g : Option α} {a : α} {f : Nat → α → Option β} {r : β} (h : g = some a) (k : Ev (fun n => f n a) r) : Ev (fun n => g.bind (f n)) r := by
  subst h; exact k
theorem Ev_eq {α : Type} {g : Option α} {r : α} (h : g = some r) : Ev (fun _ => g) r := by subst h; exact Ev.now r
theorem maxLen_le : maxLen ≤ 9223372036854775807 := by unfold maxLen; omega
theorem rd_nat (l : List Int) (i : Nat) (h : i < l.length) : rd l (i : Int) = l[i] := by simp [rd, h]
/-- A loop that fills a row with what it makes of another one's elements. -/
theorem fill_loop {α β : Type} (l : List α) (c : α → β) (G : Nat → List β → Int → Option (List β))
    (hend : ∀ x, Ev (fun k => G k x (l.length : Int)) x)
    (hstep : ∀ (i : Nat) (h : i < l.length) (x : List β) (r : List β), x.length = l.length → Ev (fun k => G k (x.set i (c l[i])) ((i : Int) + 1)) r → Ev (fun k => G k x (i : Int)) r)
    (x : List β) (hx : x.length = l.length) : Ev (fun k => G k x 0) (l.map c) := by
  have main : ∀ (d i : Nat) (x : List β), x.length = l.length → i + d = l.length → (∀ (j : Nat) (hj : j < i) (hl : j < l.length) (hx : j < x.length), x[j] = c l[j]) → Ev (fun k => G k x (i : Int)) (l.map c) := by
    intro d
    induction d with
    | zero =>
      intro i x hx hi hp
      obtain rfl : i = l.length := by omega
      have : x = l.map c := by
        apply List.ext_getElem (by simp [hx])
        intro j h1 h2
        rw [List.getElem_map]
        exact hp j (by omega) (by omega) h1
      rw [← this]
      exact hend x
    | succ d ih =>
      intro i x hx hi hp
      refine hstep i (by omega) x _ hx ?_
      have := ih (i + 1) (x.set i (c (l[i]'(by omega)))) (by simp [hx]) (by omega) (fun j hj hl hx' => by
        rw [List.getElem_set]
        split
        · rename_i e; subst e; rfl
        · exact hp j (by omega) hl (by simpa using hx'))
      simpa using this
  have := main l.length 0 x hx (by omega) (fun j hj => absurd hj (by omega))
  simpa using this
/-- A loop that goes through all places and finds nothing amiss. -/
theorem same_loop (n : Nat) (G : Nat → Int → Option Bool) (hend : Ev (fun k => G k (n : Int)) true)
    (hstep : ∀ i : Nat, i < n → Ev (fun k => G k ((i : Int) + 1)) true → Ev (fun k => G k (i : Int)) true) : Ev (fun k => G k 0) true := by
  have main : ∀ (d i : Nat), i + d = n → Ev (fun k => G k (i : Int)) true := by
    intro d
    induction d with
    | zero => intro i hi; obtain rfl : i = n := by omega
              exact hend
    | succ d ih =>
      intro i hi
      refine hstep i (by omega) ?_
      have := ih (i + 1) (by omega)
      simpa using this
  have := main n 0 (by omega)
  simpa using this

/-- A loop that writes a running count into a row, s to an element. -/
theorem mark_loop {β : Type} (s : Nat) (V : Int → β) (n : Nat) (G : Nat → List β → Int → Int → Option (Int × List β)) (m0 : Int)
    (hend : ∀ x m, x.length = n → Ev (fun k => G k x m (n : Int)) (m, x))
    (hstep : ∀ (i : Nat) (x : List β) (r : Int × List β), i < n → x.length = n → Ev (fun k => G k (x.set i (V (m0 + s * i))) (m0 + s * (i + 1 : Nat)) ((i : Int) + 1)) r → Ev (fun k => G k x (m0 + s * i) (i : Int)) r)
    (x : List β) (hx : x.length = n) : Ev (fun k => G k x m0 0) (m0 + s * n, (List.range n).map fun j : Nat => V (m0 + s * j)) := by
  have main : ∀ (d i : Nat) (x : List β), x.length = n → i + d = n → (∀ (j : Nat) (hj : j < i) (hx : j < x.length), x[j] = V (m0 + s * j)) → Ev (fun k => G k x (m0 + s * i) (i : Int)) (m0 + s * n, (List.range n).map fun j : Nat => V (m0 + s * j)) := by
    intro d
    induction d with
    | zero =>
      intro i x hx hi hp
      obtain rfl : i = n := by omega
      have : x = (List.range i).map fun j : Nat => V (m0 + s * j) := by
        apply List.ext_getElem (by simp [hx])
        intro j h1 h2
        rw [List.getElem_map, List.getElem_range]
        exact hp j (by omega) h1
      rw [← this]
      exact hend x _ hx
    | succ d ih =>
      intro i x hx hi hp
      refine hstep i x _ (by omega) hx ?_
      have := ih (i + 1) (x.set i (V (m0 + s * i))) (by simp [hx]) (by omega) (fun j hj hx' => by
        rw [List.getElem_set]
        split
        · rename_i e; subst e; rfl
        · exact hp j (by omega) (by simpa using hx'))
      simpa using this
  have := main n 0 x hx (by omega) (fun j hj => absurd hj (by omega))
  simpa using this
/-- A loop that holds a row against a running count. -/
theorem held_loop (s n : Nat) (G : Nat → Int → Int → Option Int) (m0 : Int)
    (hend : ∀ m, Ev (fun k => G k m (n : Int)) m)
    (hstep : ∀ (i : Nat) (r : Int), i < n → Ev (fun k => G k (m0 + s * (i + 1 : Nat)) ((i : Int) + 1)) r → Ev (fun k => G k (m0 + s * i) (i : Int)) r) :
    Ev (fun k => G k m0 0) (m0 + s * n) := by
  have main : ∀ (d i : Nat), i + d = n → Ev (fun k => G k (m0 + s * i) (i : Int)) (m0 + s * n) := by
    intro d
    induction d with
    | zero => intro i hi; obtain rfl : i = n := by omega
              exact hend _
    | succ d ih =>
      intro i hi
      refine hstep i _ (by omega) ?_
      have := ih (i + 1) (by omega)
      simpa using this
  have := main n 0 (by omega)
  simpa using this

theorem eqByteS_ev (l : List Int) (h : l.length ≤ 9223372036854775807) : Ev (fun k => laws_eqByteS.f k l l) true := by
  simp only [laws_eqByteS.f]
  refine Ev_pos (by first | trivial | rfl | simp) ?_
  refine same_loop l.length (fun k i => laws_eqByteS.l0 k l l i) ?_ ?_
  · refine Ev_shift ?_; simp only [laws_eqByteS.l0]
    exact Ev_neg (by omega) (Ev.now _)
  · intro i hi hr
    refine Ev_shift ?_; simp only [laws_eqByteS.l0]
    refine Ev_pos (by omega) (Ev_pos (by omega) (Ev_pos (by omega) (Ev_pos (by first | trivial | rfl | simp) ?_)))
    rw [w64 (by omega) (by omega)]
    exact hr

def mkB (n : Nat) (m : Int) : List Int := (List.range n).map fun j : Nat => (m + (1 : Nat) * j) % 256
theorem mkB_len (n : Nat) (m : Int) : (mkB n m).length = n := by simp [mkB]
theorem markByteS_ev (l : List Int) (m : Int) (h : l.length ≤ 1099511627776) (h0 : 0 ≤ m) (h1 : m ≤ 1099511627776) : Ev (fun k => laws_markByteS.f k l m) (m + l.length, mkB l.length m) := by
  simp only [laws_markByteS.f]
  have main := mark_loop 1 (fun m => m % 256) l.length (fun k x m i => laws_markByteS.l0 k x m i) m (fun x m hx => by
      refine Ev_shift ?_; simp only [laws_markByteS.l0]
      exact Ev_neg (by omega) (Ev.now _))
    (fun i x r hi hx hr => by
      refine Ev_shift ?_; simp only [laws_markByteS.l0]
      refine Ev_pos (by omega) (Ev_pos (by omega) ?_)
      rw [w64 (x := _ + 1) (by omega) (by omega), w64 (x := (i : Int) + 1) (by omega) (by omega), Int.toNat_natCast]
      have e : m + ((1 : Nat) : Int) * (i : Int) + 1 = m + ((1 : Nat) : Int) * ((i + 1 : Nat) : Int) := by omega
      rw [e]
      exact hr) l rfl
  simpa [mkB] using main
theorem heldByteS_ev (n : Nat) (m : Int) (h : n ≤ 1099511627776) (h0 : 0 ≤ m) (h1 : m ≤ 1099511627776) : Ev (fun k => laws_heldByteS.f k (mkB n m) m) (m + n) := by
  simp only [laws_heldByteS.f]
  have main := held_loop 1 n (fun k q i => laws_heldByteS.l0 k (mkB n m) q i) m (fun q => by
      refine Ev_shift ?_; simp only [laws_heldByteS.l0, mkB_len]
      exact Ev_neg (by omega) (Ev.now _))
    (fun i r hi hr => by
      refine Ev_shift ?_; simp only [laws_heldByteS.l0, mkB_len]
      have e0 : rd (mkB n m) (i : Int) = (m + ((1 : Nat) : Int) * (i : Int)) % 256 := by
        rw [rd_nat _ _ (by rw [mkB_len]; exact hi)]
        simp [mkB]
      refine Ev_pos (by omega) (Ev_pos (by omega) (Ev_pos e0 ?_))
      rw [w64 (x := _ + 1) (by omega) (by omega), w64 (x := (i : Int) + 1) (by omega) (by omega)]
      have e : m + ((1 : Nat) : Int) * (i : Int) + 1 = m + ((1 : Nat) : Int) * ((i + 1 : Nat) : Int) := by omega
      rw [e]
      exact hr)
  simpa using main

theorem eqBytesResult_ev (c : Int) (l : List Int) (h : l.length ≤ 1048576) : Ev (fun k => laws_eqBytesResult.f k c l c l) true := by
  simp only [laws_eqBytesResult.f]
  exact Ev_pos (by first | trivial | rfl | simp) (Ev.bind (eqByteS_ev l (by omega)) (Ev_pos (by first | trivial | rfl | simp) (Ev.now _)))
theorem markBytesResult_ev (c : Int) (l : List Int) (h : l.length ≤ 1048576) : Ev (fun k => laws_markBytesResult.f k c l 1) (1 + l.length, mkB l.length 1) := by
  simp only [laws_markBytesResult.f]
  exact Ev.bind (markByteS_ev l 1 (by omega) (by omega) (by omega)) (Ev.now _)
theorem heldBytesResult_ev (c : Int) (n : Nat) (h : n ≤ 1048576) : Ev (fun k => laws_heldBytesResult.f k c (mkB n 1) 1) (1 + n) := by
  simp only [laws_heldBytesResult.f]
  exact Ev.bind (heldByteS_ev n 1 (by omega) (by omega) (by omega)) (Ev_neg (by omega) (Ev.now _))

theorem and63 (x : Int) (h0 : 0 ≤ x) (h1 : x < 4611686018427387904) : Go.bits .and .i64 x 63 = x % 64 :=
  Go.bits_mask .i64 62 (by decide) (fun n a b => by rw [Go.IntKind.wrap_i64]; omega) 6 (by decide) x h0 h1
theorem dec_eq {p q : Prop} [Decidable p] [Decidable q] (h : p ↔ q) : decide p = decide q := decide_eq_decide.mpr h
theorem dec_false {p : Prop} [Decidable p] (h : ¬ p) : false = decide p := (decide_eq_false h).symm
theorem spec_l1In_f (a b c : Int) : spec_l1In.f a b c = some (decide (b ≤ a ∧ a ≤ c)) := by
  simp only [spec_l1In.f]
  by_cases h : a ≥ b
  · rw [if_pos h]; exact congrArg some (dec_eq (by first | omega | (unfold isCh; omega)))
  · rw [if_neg h]; exact congrArg some (dec_false (by omega))
theorem impl_within_f (a b c : Int) : impl_within.f a b c = some (decide (b ≤ a ∧ a ≤ c)) := by
  simp only [impl_within.f]
  by_cases h : b ≤ a
  · rw [if_pos h]; exact congrArg some (dec_eq (by first | omega | (unfold isCh; omega)))
  · rw [if_neg h]; exact congrArg some (dec_false (by omega))
def isCh (a : Int) : Prop := (0 ≤ a ∧ a ≤ 55295) ∨ (57344 ≤ a ∧ a ≤ 65535)
instance (a : Int) : Decidable (isCh a) := by unfold isCh; exact inferInstance
theorem spec_l1Char_f (a : Int) : spec_l1Char.f a = some (decide (isCh a)) := by
  simp only [spec_l1Char.f, spec_l1In_f, Option.bind_some, decide_eq_true_eq]
  by_cases h : 0 ≤ a ∧ a ≤ 55295
  · rw [if_pos h, decide_eq_true (show isCh a by unfold isCh; omega)]
  · rw [if_neg h]; exact congrArg some (dec_eq (by first | omega | (unfold isCh; omega)))
theorem impl_isChar_f (a : Int) : impl_isChar.f a = some (decide (isCh a)) := by
  simp only [impl_isChar.f, impl_within_f, Option.bind_some, decide_eq_true_eq]
  by_cases h : 0 ≤ a ∧ a ≤ 65535
  · rw [if_pos h]; rw [← decide_not]; exact congrArg some (dec_eq (by unfold isCh; omega))
  · rw [if_neg h]; exact congrArg some (dec_false (by unfold isCh; omega))
/-- The bytes of a character. -/
def enc (a : Int) : List Int := if a < 128 then [a] else if a < 2048 then [192 + a / 64, 128 + a % 64] else [224 + a / 4096, 128 + a / 64 % 64, 128 + a % 64]
theorem enc_len (a : Int) : 1 ≤ (enc a).length ∧ (enc a).length ≤ 3 := by unfold enc; split <;> (try split) <;> simp
theorem spec_l1Encode_f (a : Int) (h0 : 0 ≤ a) (h1 : a ≤ 65535) : spec_l1Encode.f a = some (enc a) := by
  simp only [spec_l1Encode.f, enc]
  rw [Int.tdiv_eq_ediv_of_nonneg h0, Int.tdiv_eq_ediv_of_nonneg h0, Int.tmod_eq_emod_of_nonneg h0]
  by_cases h : a < 128
  · rw [if_pos h, if_pos h]; congr 2; omega
  · rw [if_neg h, if_neg h]
    rw [w64 (x := a / 64) (by omega) (by omega), w64 (x := a / 4096) (by omega) (by omega)]
    rw [Int.tmod_eq_emod_of_nonneg (by omega : 0 ≤ a / 64)]
    rw [w64 (x := 192 + a / 64) (by omega) (by omega), w64 (x := 128 + a % 64) (by omega) (by omega), w64 (x := 224 + a / 4096) (by omega) (by omega), w64 (x := 128 + a / 64 % 64) (by omega) (by omega)]
    by_cases h2 : a < 2048
    · rw [if_pos h2, if_pos h2]; congr 2
      · omega
      · congr 1; omega
    · rw [if_neg h2, if_neg h2]; congr 2
      · omega
      · congr 1
        · omega
        · congr 1; omega
theorem impl_encoded_f (a : Int) (h0 : 0 ≤ a) (h1 : a ≤ 65535) : impl_encoded.f a = some (enc a) := by
  simp only [impl_encoded.f, enc]
  rw [and63 a h0 (by omega), and63 (a / 64) (by omega) (by omega)]
  by_cases h : a < 128
  · rw [if_pos h, if_pos h]; congr 2; omega
  · rw [if_neg h, if_neg h]
    rw [w64 (x := 192 + a / 64) (by omega) (by omega), w64 (x := 128 + a % 64) (by omega) (by omega), w64 (x := 224 + a / 4096) (by omega) (by omega), w64 (x := 128 + a / 64 % 64) (by omega) (by omega)]
    by_cases h2 : a < 2048
    · rw [if_pos h2, if_pos h2]; congr 2
      · omega
      · congr 1; omega
    · rw [if_neg h2, if_neg h2]; congr 2
      · omega
      · congr 1
        · omega
        · congr 1; omega

def encR (a : Int) : Int × List Int := if isCh a then (0, enc a) else (3, [])
theorem isCh_bounds {a : Int} (h : isCh a) : 0 ≤ a ∧ a ≤ 65535 := by unfold isCh at h; omega
theorem spec_EncodeChar_f (a : Int) : spec_EncodeChar.f a = some (encR a) := by
  simp only [spec_EncodeChar.f, spec_l1Char_f, Option.bind_some, decide_eq_true_eq, encR]
  by_cases h : isCh a
  · have := isCh_bounds h
    rw [if_pos h, if_pos h, spec_l1Encode_f a this.1 this.2]; rfl
  · rw [if_neg h, if_neg h]
theorem impl_EncodeChar_f (a : Int) : impl_EncodeChar.f a = some (encR a) := by
  simp only [impl_EncodeChar.f, impl_isChar_f, Option.bind_some, decide_eq_true_eq, encR]
  by_cases h : isCh a
  · have := isCh_bounds h
    rw [if_pos h, if_pos h, impl_encoded_f a this.1 this.2]; rfl
  · rw [if_neg h, if_neg h]
theorem encR_len (a : Int) : (encR a).2.length ≤ 3 := by
  unfold encR; split
  · exact (enc_len a).2
  · simp

theorem FnExactEncodeChar : laws_FnExactEncodeChar.Pure := by
  intro a _
  refine Ev.rounds ?_
  simp only [laws_FnExactEncodeChar.f]
  have hl := encR_len a
  have h1 := Ev_eq (spec_EncodeChar_f a)
  have h2 := Ev_eq (impl_EncodeChar_f a)
  generalize encR a = r at *
  obtain ⟨c, l⟩ := r
  dsimp only at hl
  have h3 := eqBytesResult_ev c l (by omega)
  have h4 := markBytesResult_ev c l (by omega)
  have h5 := heldBytesResult_ev c l.length (by omega)
  repeat' first | with_reducible exact Ev.now _ | (with_reducible refine Ev.bind (by with_reducible assumption) ?_; try dsimp only) | (with_reducible refine Ev_pos (by first | trivial | rfl | omega | simp) ?_) | (with_reducible refine Ev_neg (by first | omega | simp) ?_)

end Go.Proofs.Ytfeoofbiimijcaa.Pure
