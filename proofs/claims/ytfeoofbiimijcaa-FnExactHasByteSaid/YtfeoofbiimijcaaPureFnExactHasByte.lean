/- the program's HasByte tells what the reference's tells, for every node and byte. Under no condition. -/
import Derived.Test.YtfeoofbiimijcaaPFnExactHasBytex1
set_option linter.unusedVariables false
set_option linter.unusedSimpArgs false
namespace Go.Proofs.Ytfeoofbiimijcaa.Pure
open Go.RowKit Go.Proofs.Ytfeoofbiimijcaa.PFnExactHasByte Go.Proofs.YtfeoofbiimijcaaW.PrintWords Go.Proofs.YtfeoofbiimijcaaW.PrintLast

theorem w64 {x : Int} (h0 : -9223372036854775808 ≤ x) (h1 : x ≤ 9223372036854775807) : wrap64 x = x := by unfold wrap64; omega
theorem Ev_shift {α : Type} {g : Nat → Option α} {r : α} (h : Ev (fun k => g (k + 1)) r) : Ev g r := Ev.step (f := fun k => g (k + 1)) (fun _ => rfl) h
theorem Ev_pos {α : Type} {c : Prop} [Decidable c] (hc : c) {a b : Nat → Option α} {r : α} (h : Ev a r) : Ev (fun k => if c then a k else b k) r := by
  simpa only [if_pos hc] using h
theorem Ev_neg {α : Type} {c : Prop} [Decidable c] (hc : ¬ c) {a b : Nat → Option α} {r : α} (h : Ev b r) : Ev (fun k => if c then a k else b k) r := by
  simpa only [if_neg hc] using h
theorem Ev_pre {α β : Type} {g : Option α} {a : α} {f : Nat → α → Option β} {r : β} (h : g = some a) (k : Ev (fun n => f n a) r) : Ev (fun n => g.bind (f n)) r := by
  subst h; exact k
theorem Ev_eq {α : Type} {g : Option α} {r : α} (h : g = some r) : Ev (fun _ => g) r := by subst h; exact Ev.now r
theorem Ev_r {α : Type} {g : Nat → Option α} {r r' : α} (e : r = r') (h : Ev g r') : Ev g r := e ▸ h
theorem maxLen_le : maxLen ≤ 9223372036854775807 := by unfold maxLen; omega
theorem rd_nat (l : List Int) (i : Nat) (h : i < l.length) : rd l (i : Int) = l[i] := by simp [rd, h]
/-- A loop that fills a row with what it makes of another one's elements. -/
theorem fill_loop {α β : Type} (l : List α) (c : α → β) (G : Nat → List β → Int → Option (List β))
    (hend : ∀ x, Ev (fun k => G k x (l.length : Int)) x)
    (hstep : ∀ (i : Nat) (h : i < l.length) (x : List β) (r : List β), x.length = l.length → Ev (fun k => G k (x.set i (c l[i])) ((i : Int) + 1)) r → Ev (fun k => G k x (i : Int)) r)
    (x : List β) (hx : x.length = l.length) : Ev (fun k => G k x 0) (l.map c) := by
  have main : ∀ (d i : Nat) (x : List β), x.length = l.length → i + d = l.length → (∀ (j : Nat) (hj : j < i) (hl : j < l.length) (hx : j < x.length), x[j] = c l[j]) → Ev (fun k => G k x (i : Int)) (l.map c) := by
    intro d
    induction d with
    | zero =>
      intro i x hx hi hp
      obtain rfl : i = l.length := by omega
      have : x = l.map c := by
        apply List.ext_getElem (by simp [hx])
        intro j h1 h2
        rw [List.getElem_map]
        exact hp j (by omega) (by omega) h1
      rw [← this]
      exact hend x
    | succ d ih =>
      intro i x hx hi hp
      refine hstep i (by omega) x _ hx ?_
      have := ih (i + 1) (x.set i (c (l[i]'(by omega)))) (by simp [hx]) (by omega) (fun j hj hl hx' => by
        rw [List.getElem_set]
        split
        · rename_i e; subst e; rfl
        · exact hp j (by omega) hl (by simpa using hx'))
      simpa using this
  have := main l.length 0 x hx (by omega) (fun j hj => absurd hj (by omega))
  simpa using this
/-- A loop that goes through all places and finds nothing amiss. -/
theorem same_loop (n : Nat) (G : Nat → Int → Option Bool) (hend : Ev (fun k => G k (n : Int)) true)
    (hstep : ∀ i : Nat, i < n → Ev (fun k => G k ((i : Int) + 1)) true → Ev (fun k => G k (i : Int)) true) : Ev (fun k => G k 0) true := by
  have main : ∀ (d i : Nat), i + d = n → Ev (fun k => G k (i : Int)) true := by
    intro d
    induction d with
    | zero => intro i hi; obtain rfl : i = n := by omega
              exact hend
    | succ d ih =>
      intro i hi
      refine hstep i (by omega) ?_
      have := ih (i + 1) (by omega)
      simpa using this
  have := main n 0 (by omega)
  simpa using this

/-- A loop that asks each place, and ends at the first one that answers. -/
def askTo {β : Type} (p : Nat → Bool) (bad good : β) : Nat → Nat → β
  | 0, _ => good
  | d + 1, i => if p i then askTo p bad good d (i + 1) else bad
theorem askTo_loop {β : Type} (n : Nat) (p : Nat → Bool) (bad good : β) (G : Nat → Int → Option β)
    (hend : Ev (fun k => G k (n : Int)) good)
    (hstep : ∀ (i : Nat) (h : i < n) (r : β), p i = true → Ev (fun k => G k ((i : Int) + 1)) r → Ev (fun k => G k (i : Int)) r)
    (hbad : ∀ (i : Nat) (h : i < n), p i = false → Ev (fun k => G k (i : Int)) bad) : Ev (fun k => G k 0) (askTo p bad good n 0) := by
  have main : ∀ (d i : Nat), i + d = n → Ev (fun k => G k (i : Int)) (askTo p bad good d i) := by
    intro d
    induction d with
    | zero =>
      intro i hi
      obtain rfl : i = n := by omega
      exact hend
    | succ d ih =>
      intro i hi
      have hlt : i < n := by omega
      show Ev _ (if p i then askTo p bad good d (i + 1) else bad)
      by_cases hp : p i = true
      · rw [if_pos hp]
        refine hstep i hlt _ hp ?_
        have := ih (i + 1) (by omega)
        simpa only [Int.natCast_add, Int.natCast_one] using this
      · rw [if_neg hp]
        exact hbad i hlt (by simpa using hp)
  exact main n 0 (by omega)

theorem indexByte_cons (b : UInt8) (l : List UInt8) (c : UInt8) : decide (0 ≤ Go.Lib.indexByte (b :: l) c) = if b = c then true else decide (0 ≤ Go.Lib.indexByte l c) := by
  have h := Go.Lib.indexByte_ge l c
  by_cases e : b = c
  · subst e; simp [Go.Lib.indexByte]
  · rw [if_neg e]
    have e' : (b == c) = false := by simpa using e
    simp only [Go.Lib.indexByte, e']
    by_cases h2 : Go.Lib.indexByte l c = -1
    · simp [h2]
    · have h2' : (Go.Lib.indexByte l c == -1) = false := by simpa using h2
      simp only [h2', Bool.false_eq_true, if_false]
      exact decide_eq_decide.mpr (by omega)
theorem bt_u8 (s : ByteArray) (i : Nat) (h : i < s.data.toList.length) (c : Int) (hc : 0 ≤ c ∧ c ≤ 255) : bt s (i : Int) = c ↔ s.data.toList[i] = c.toNat.toUInt8 := by
  have hs : i < s.size := by rw [← ByteArray.size_data, ← Array.length_toList]; exact h
  have e : bt s (i : Int) = ((s[i]'hs).toNat : Int) := by unfold bt; simp [hs]
  have e2 : s.data.toList[i] = s[i]'hs := by rw [Array.getElem_toList]; rfl
  rw [e, e2]
  constructor
  · intro hh
    apply UInt8.toNat_inj.1
    rw [show c.toNat.toUInt8 = UInt8.ofNat c.toNat from rfl, UInt8.toNat_ofNat']
    omega
  · intro hh
    rw [hh, show c.toNat.toUInt8 = UInt8.ofNat c.toNat from rfl, UInt8.toNat_ofNat']
    omega
theorem askTo_in (s : ByteArray) (c : Int) (hc : 0 ≤ c ∧ c ≤ 255) : ∀ (d i : Nat), i + d = s.data.toList.length → askTo (fun i => !decide (bt s (i : Int) = c)) true false d i = decide (0 ≤ Go.Lib.indexByte (s.data.toList.drop i) c.toNat.toUInt8) := by
  intro d
  induction d with
  | zero =>
    intro i hi
    rw [List.drop_of_length_le (by omega)]
    simp [askTo, Go.Lib.indexByte]
  | succ d ih =>
    intro i hi
    have hlt : i < s.data.toList.length := by omega
    rw [List.drop_eq_getElem_cons hlt, indexByte_cons, ← ih (i + 1) (by omega)]
    show (if (!decide (bt s (i : Int) = c)) = true then _ else _) = _
    by_cases hb : bt s (i : Int) = c
    · rw [if_pos ((bt_u8 s i hlt c hc).1 hb), if_neg (by simp [hb])]
    · rw [if_neg (fun e => hb ((bt_u8 s i hlt c hc).2 e)), if_pos (by simp [hb])]
def inN (s : ByteArray) (c : Int) : Bool := decide (0 ≤ Go.Lib.indexByte s.data.toList c.toNat.toUInt8)
theorem spec_l5In_ev (s : ByteArray) (c : Int) (hc : 0 ≤ c ∧ c ≤ 255) (h : s.size ≤ 1048576) : Ev (fun k => spec_l5In.f k s c) (inN s c) := by
  have hl : s.data.toList.length = s.size := by rw [Array.length_toList]; rfl
  have e := askTo_in s c hc s.size 0 (by omega)
  rw [List.drop_zero] at e
  unfold inN
  rw [← e]
  simp only [spec_l5In.f]
  refine askTo_loop s.size _ true false (fun k i => spec_l5In.l0 k s c i) ?_ ?_ ?_
  · refine Ev_shift ?_; simp only [spec_l5In.l0]
    exact Ev_neg (by omega) (Ev.now _)
  · intro i hi r hp hr
    refine Ev_shift ?_; simp only [spec_l5In.l0]
    refine Ev_pos (by omega) (Ev_pos (by omega) (Ev_neg (by simpa using hp) ?_))
    rw [w64 (by omega) (by omega)]; exact hr
  · intro i hi hp
    refine Ev_shift ?_; simp only [spec_l5In.l0]
    exact Ev_pos (by omega) (Ev_pos (by omega) (Ev_pos (by simpa using hp) (Ev.now _)))
theorem indexByte_f (s : ByteArray) (c : Int) : strings_IndexByte.f s c = some (Go.Lib.indexByte s.data.toList c.toNat.toUInt8) := rfl

theorem FnExactHasByte : laws_FnExactHasByte.Pure := by
  intro a b s c d x _ _ hs _ _ hw
  have hx : 0 ≤ x ∧ x ≤ 255 := by
    simp [Lit.wf, IntKind.min, IntKind.max, IntKind.signed, IntKind.bits] at hw
    omega
  have := maxLen_le
  refine Ev.rounds ?_
  simp only [laws_FnExactHasByte.f, laws_szNode.f, laws_toNode.f]
  rw [w64 (x := 1048576 - (s.size : Int)) (by omega) (by omega)]
  by_cases h : 1048576 - (s.size : Int) < 0
  · rw [if_pos h]
    exact Ev.bind (Ev_eq rfl) (Ev_pos (by omega) (Ev.now _))
  rw [if_neg h]
  refine Ev.bind (Ev_eq rfl) (Ev_neg (by omega) ?_)
  refine Ev.bind (Ev_eq rfl) ?_
  have hin := spec_l5In_ev s x hx (by omega)
  have both : ∃ q, Ev (fun k => spec_HasByte.f k a b s c d x) q ∧ impl_HasByte.f a b s c d x = some q := by
    have hr : rd_T27 [(⟨a, b, s, c, d⟩ : S27)] 0 = ⟨a, b, s, c, d⟩ := rfl
    simp only [spec_HasByte.f, spec_l5Byte.f, impl_HasByte.f, hr, indexByte_f, Option.bind_some]
    by_cases c2 : a = 2
    · exact ⟨_, Ev.bind (Ev_pos (by simp) (Ev_pos c2 (Ev.now _))) (Ev.now _), if_pos c2⟩
    rw [if_neg c2]
    by_cases c3 : a = 3
    · exact ⟨_, Ev.bind (Ev_pos (by simp) (Ev_neg c2 (Ev_pos c3 (Ev.now _)))) (Ev.now _), if_pos c3⟩
    rw [if_neg c3]
    by_cases c4 : a = 4
    · exact ⟨inN s x, Ev.bind (Ev_pos (by simp) (Ev_neg c2 (Ev_neg c3 (Ev_pos c4 (Ev.bind hin (Ev.now _)))))) (Ev.now _), if_pos c4⟩
    rw [if_neg c4]
    by_cases c5 : a = 5
    · rw [if_pos c5]
      by_cases c10 : x = 10
      · exact ⟨false, Ev.bind (Ev_pos (by simp) (Ev_neg c2 (Ev_neg c3 (Ev_neg c4 (Ev_pos c5 (Ev_pos c10 (Ev.now _))))))) (Ev.now _), if_pos c10⟩
      · refine ⟨!inN s x, Ev.bind (Ev_pos (by simp) (Ev_neg c2 (Ev_neg c3 (Ev_neg c4 (Ev_pos c5 (Ev_neg c10 (Ev.bind hin (Ev.now _)))))))) (Ev.now _), ?_⟩
        rw [if_neg c10]
        unfold inN
        rw [← decide_not]
        exact congrArg some (decide_eq_decide.mpr (by omega))
    · exact ⟨false, Ev.bind (Ev_pos (by simp) (Ev_neg c2 (Ev_neg c3 (Ev_neg c4 (Ev_neg c5 (Ev.now _)))))) (Ev.now _), if_neg c5⟩
  obtain ⟨q, h1, h2⟩ := both
  refine Ev.bind h1 ?_
  refine Ev.bind (Ev_eq rfl) ?_
  refine Ev.bind (Ev_eq h2) ?_
  exact Ev_neg (by simp) (Ev.now _)

end Go.Proofs.Ytfeoofbiimijcaa.Pure
