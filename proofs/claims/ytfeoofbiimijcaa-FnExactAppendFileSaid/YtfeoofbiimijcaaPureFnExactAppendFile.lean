/- the program's AppendFile tells what the reference's tells, for every file and all bytes. Under no condition. -/
import Derived.Test.YtfeoofbiimijcaaPFnExactAppendFilex3
set_option linter.unusedVariables false
set_option linter.unusedSimpArgs false
namespace Go.Proofs.Ytfeoofbiimijcaa.Pure
open Go.RowKit Go.Proofs.Ytfeoofbiimijcaa.PFnExactAppendFile Go.Proofs.YtfeoofbiimijcaaW.PrintWords Go.Proofs.YtfeoofbiimijcaaW.PrintLast

theorem w64 {x : Int} (h0 : -9223372036854775808 ≤ x) (h1 : x ≤ 9223372036854775807) : wrap64 x = x := by unfold wrap64; omega
theorem Ev_shift {α : Type} {g : Nat → Option α} {r : α} (h : Ev (fun k => g (k + 1)) r) : Ev g r := Ev.step (f := fun k => g (k + 1)) (fun _ => rfl) h
theorem Ev_pos {α : Type} {c : Prop} [Decidable c] (hc : c) {a b : Nat → Option α} {r : α} (h : Ev a r) : Ev (fun k => if c then a k else b k) r := by
  simpa only [if_pos hc] using h
theorem Ev_neg {α : Type} {c : Prop} [Decidable c] (hc : ¬ c) {a b : Nat → Option α} {r : α} (h : Ev b r) : Ev (fun k => if c then a k else b k) r := by
  simpa only [if_neg hc] using h
theorem Ev_pre {α β : Type} {g : Option α} {a : α} {f : Nat → α → Option β} {r : β} (h : g = some a) (k : Ev (fun n => f n a) r) : Ev (fun n => g.bind (f n)) r := by
  subst h; exact k
theorem Ev_eq {α : Type} {g : Option α} {r : α} (h : g = some r) : Ev (fun _ => g) r := by subst h; exact Ev.now r
theorem Ev_r {α : Type} {g : Nat → Option α} {r r' : α} (e : r = r') (h : Ev g r') : Ev g r := e ▸ h
theorem maxLen_le : maxLen ≤ 9223372036854775807 := by unfold maxLen; omega
theorem rd_nat (l : List Int) (i : Nat) (h : i < l.length) : rd l (i : Int) = l[i] := by simp [rd, h]
/-- A loop that fills a row with what it makes of another one's elements. -/
theorem fill_loop {α β : Type} (l : List α) (c : α → β) (G : Nat → List β → Int → Option (List β))
    (hend : ∀ x, Ev (fun k => G k x (l.length : Int)) x)
    (hstep : ∀ (i : Nat) (h : i < l.length) (x : List β) (r : List β), x.length = l.length → Ev (fun k => G k (x.set i (c l[i])) ((i : Int) + 1)) r → Ev (fun k => G k x (i : Int)) r)
    (x : List β) (hx : x.length = l.length) : Ev (fun k => G k x 0) (l.map c) := by
  have main : ∀ (d i : Nat) (x : List β), x.length = l.length → i + d = l.length → (∀ (j : Nat) (hj : j < i) (hl : j < l.length) (hx : j < x.length), x[j] = c l[j]) → Ev (fun k => G k x (i : Int)) (l.map c) := by
    intro d
    induction d with
    | zero =>
      intro i x hx hi hp
      obtain rfl : i = l.length := by omega
      have : x = l.map c := by
        apply List.ext_getElem (by simp [hx])
        intro j h1 h2
        rw [List.getElem_map]
        exact hp j (by omega) (by omega) h1
      rw [← this]
      exact hend x
    | succ d ih =>
      intro i x hx hi hp
      refine hstep i (by omega) x _ hx ?_
      have := ih (i + 1) (x.set i (c (l[i]'(by omega)))) (by simp [hx]) (by omega) (fun j hj hl hx' => by
        rw [List.getElem_set]
        split
        · rename_i e; subst e; rfl
        · exact hp j (by omega) hl (by simpa using hx'))
      simpa using this
  have := main l.length 0 x hx (by omega) (fun j hj => absurd hj (by omega))
  simpa using this
/-- A loop that goes through all places and finds nothing amiss. -/
theorem same_loop (n : Nat) (G : Nat → Int → Option Bool) (hend : Ev (fun k => G k (n : Int)) true)
    (hstep : ∀ i : Nat, i < n → Ev (fun k => G k ((i : Int) + 1)) true → Ev (fun k => G k (i : Int)) true) : Ev (fun k => G k 0) true := by
  have main : ∀ (d i : Nat), i + d = n → Ev (fun k => G k (i : Int)) true := by
    intro d
    induction d with
    | zero => intro i hi; obtain rfl : i = n := by omega
              exact hend
    | succ d ih =>
      intro i hi
      refine hstep i (by omega) ?_
      have := ih (i + 1) (by omega)
      simpa using this
  have := main n 0 (by omega)
  simpa using this

theorem toByteS_ev (l : List Int) (h : l.length ≤ 1048576) : Ev (fun k => laws_toByteS.f k l) l := by
  have main := fill_loop l (fun x => x) (fun k x i => laws_toByteS.l0 k l x i) (fun x => by
      refine Ev_shift ?_; simp only [laws_toByteS.l0]
      exact Ev_neg (by omega) (Ev.now _))
    (fun i hi x r hx hr => by
      refine Ev_shift ?_; simp only [laws_toByteS.l0]
      refine Ev_pos (by omega) (Ev_pos (by omega) (Ev_pos (by omega) ?_))
      rw [w64 (by omega) (by omega), rd_nat l i hi]
      simpa using hr)
    (List.replicate l.length 0) (by simp)
  simp only [laws_toByteS.f]
  refine Ev_pos (by omega) (Ev_pos (by omega) ?_)
  simpa using main
theorem eqByteS_ev (l : List Int) (h : l.length ≤ 9223372036854775807) : Ev (fun k => laws_eqByteS.f k l l) true := by
  simp only [laws_eqByteS.f]
  refine Ev_pos (by first | trivial | rfl | simp) ?_
  refine same_loop l.length (fun k i => laws_eqByteS.l0 k l l i) ?_ ?_
  · refine Ev_shift ?_; simp only [laws_eqByteS.l0]
    exact Ev_neg (by omega) (Ev.now _)
  · intro i hi hr
    refine Ev_shift ?_; simp only [laws_eqByteS.l0]
    refine Ev_pos (by omega) (Ev_pos (by omega) (Ev_pos (by omega) (Ev_pos (by first | trivial | rfl | simp) ?_)))
    rw [w64 (by omega) (by omega)]
    exact hr

theorem szByteS_f (l : List Int) (n : Int) (hl : l.length ≤ maxLen) (h0 : 0 ≤ n) (h1 : n ≤ 1048576) : (l.length ≤ n ∧ laws_szByteS.f l n = some (n - l.length)) ∨ laws_szByteS.f l n = some (-1) := by
  have := maxLen_le
  simp only [laws_szByteS.f, w64 (show -9223372036854775808 ≤ n - (l.length : Int) by omega) (by omega)]
  by_cases h : n - (l.length : Int) < 0
  · exact .inr (if_pos h)
  · exact .inl ⟨by omega, if_neg h⟩
theorem szFile_f (l : List Int) (n : Int) (hl : l.length ≤ maxLen) (h0 : 0 ≤ n) (h1 : n ≤ 1048576) : (l.length ≤ n ∧ laws_szFile.f l n = some (n - l.length)) ∨ laws_szFile.f l n = some (-1) := by
  simp only [laws_szFile.f]
  rcases szByteS_f l n hl h0 h1 with ⟨h, e⟩ | e
  · exact .inl ⟨h, by rw [e, Option.bind_some, if_neg (by omega)]⟩
  · exact .inr (by rw [e]; rfl)
theorem toFile_ev (l : List Int) (h : l.length ≤ 1048576) : Ev (fun k => laws_toFile.f k l) l := by
  simp only [laws_toFile.f]
  exact Ev.bind (toByteS_ev l h) (Ev.now _)
theorem eqFile_ev (l : List Int) (h : l.length ≤ 1048576) : Ev (fun k => laws_eqFile.f k l l) true := by
  simp only [laws_eqFile.f]
  exact Ev.bind (eqByteS_ev l (by omega)) (Ev_pos (by first | trivial | rfl | simp) (Ev.now _))

/-- A loop that writes a running count into a row, s to an element. -/
theorem mark_loop {β : Type} (s : Nat) (V : Int → β) (n : Nat) (G : Nat → List β → Int → Int → Option (Int × List β)) (m0 : Int)
    (hend : ∀ x m, x.length = n → Ev (fun k => G k x m (n : Int)) (m, x))
    (hstep : ∀ (i : Nat) (x : List β) (r : Int × List β), i < n → x.length = n → Ev (fun k => G k (x.set i (V (m0 + s * i))) (m0 + s * (i + 1 : Nat)) ((i : Int) + 1)) r → Ev (fun k => G k x (m0 + s * i) (i : Int)) r)
    (x : List β) (hx : x.length = n) : Ev (fun k => G k x m0 0) (m0 + s * n, (List.range n).map fun j : Nat => V (m0 + s * j)) := by
  have main : ∀ (d i : Nat) (x : List β), x.length = n → i + d = n → (∀ (j : Nat) (hj : j < i) (hx : j < x.length), x[j] = V (m0 + s * j)) → Ev (fun k => G k x (m0 + s * i) (i : Int)) (m0 + s * n, (List.range n).map fun j : Nat => V (m0 + s * j)) := by
    intro d
    induction d with
    | zero =>
      intro i x hx hi hp
      obtain rfl : i = n := by omega
      have : x = (List.range i).map fun j : Nat => V (m0 + s * j) := by
        apply List.ext_getElem (by simp [hx])
        intro j h1 h2
        rw [List.getElem_map, List.getElem_range]
        exact hp j (by omega) h1
      rw [← this]
      exact hend x _ hx
    | succ d ih =>
      intro i x hx hi hp
      refine hstep i x _ (by omega) hx ?_
      have := ih (i + 1) (x.set i (V (m0 + s * i))) (by simp [hx]) (by omega) (fun j hj hx' => by
        rw [List.getElem_set]
        split
        · rename_i e; subst e; rfl
        · exact hp j (by omega) (by simpa using hx'))
      simpa using this
  have := main n 0 x hx (by omega) (fun j hj => absurd hj (by omega))
  simpa using this
/-- A loop that holds a row against a running count. -/
theorem held_loop (s n : Nat) (G : Nat → Int → Int → Option Int) (m0 : Int)
    (hend : ∀ m, Ev (fun k => G k m (n : Int)) m)
    (hstep : ∀ (i : Nat) (r : Int), i < n → Ev (fun k => G k (m0 + s * (i + 1 : Nat)) ((i : Int) + 1)) r → Ev (fun k => G k (m0 + s * i) (i : Int)) r) :
    Ev (fun k => G k m0 0) (m0 + s * n) := by
  have main : ∀ (d i : Nat), i + d = n → Ev (fun k => G k (m0 + s * i) (i : Int)) (m0 + s * n) := by
    intro d
    induction d with
    | zero => intro i hi; obtain rfl : i = n := by omega
              exact hend _
    | succ d ih =>
      intro i hi
      refine hstep i _ (by omega) ?_
      have := ih (i + 1) (by omega)
      simpa using this
  have := main n 0 (by omega)
  simpa using this

def mkB (n : Nat) (m : Int) : List Int := (List.range n).map fun j : Nat => (m + (1 : Nat) * j) % 256
theorem mkB_len (n : Nat) (m : Int) : (mkB n m).length = n := by simp [mkB]
theorem markByteS_ev (l : List Int) (m : Int) (h : l.length ≤ 1099511627776) (h0 : 0 ≤ m) (h1 : m ≤ 1099511627776) : Ev (fun k => laws_markByteS.f k l m) (m + l.length, mkB l.length m) := by
  simp only [laws_markByteS.f]
  have main := mark_loop 1 (fun m => m % 256) l.length (fun k x m i => laws_markByteS.l0 k x m i) m (fun x m hx => by
      refine Ev_shift ?_; simp only [laws_markByteS.l0]
      exact Ev_neg (by omega) (Ev.now _))
    (fun i x r hi hx hr => by
      refine Ev_shift ?_; simp only [laws_markByteS.l0]
      refine Ev_pos (by omega) (Ev_pos (by omega) ?_)
      rw [w64 (x := _ + 1) (by omega) (by omega), w64 (x := (i : Int) + 1) (by omega) (by omega), Int.toNat_natCast]
      have e : m + ((1 : Nat) : Int) * (i : Int) + 1 = m + ((1 : Nat) : Int) * ((i + 1 : Nat) : Int) := by omega
      rw [e]
      exact hr) l rfl
  simpa [mkB] using main
theorem heldByteS_ev (n : Nat) (m : Int) (h : n ≤ 1099511627776) (h0 : 0 ≤ m) (h1 : m ≤ 1099511627776) : Ev (fun k => laws_heldByteS.f k (mkB n m) m) (m + n) := by
  simp only [laws_heldByteS.f]
  have main := held_loop 1 n (fun k q i => laws_heldByteS.l0 k (mkB n m) q i) m (fun q => by
      refine Ev_shift ?_; simp only [laws_heldByteS.l0, mkB_len]
      exact Ev_neg (by omega) (Ev.now _))
    (fun i r hi hr => by
      refine Ev_shift ?_; simp only [laws_heldByteS.l0, mkB_len]
      have e0 : rd (mkB n m) (i : Int) = (m + ((1 : Nat) : Int) * (i : Int)) % 256 := by
        rw [rd_nat _ _ (by rw [mkB_len]; exact hi)]
        simp [mkB]
      refine Ev_pos (by omega) (Ev_pos (by omega) (Ev_pos e0 ?_))
      rw [w64 (x := _ + 1) (by omega) (by omega), w64 (x := (i : Int) + 1) (by omega) (by omega)]
      have e : m + ((1 : Nat) : Int) * (i : Int) + 1 = m + ((1 : Nat) : Int) * ((i + 1 : Nat) : Int) := by omega
      rw [e]
      exact hr)
  simpa using main

theorem markFile_ev (l : List Int) (m : Int) (h : l.length ≤ 1048576) (h0 : 0 ≤ m) (h1 : m ≤ 1099511627776) : Ev (fun k => laws_markFile.f k l m) (m + l.length, mkB l.length m) := by
  simp only [laws_markFile.f]
  exact Ev.bind (markByteS_ev l m (by omega) h0 h1) (Ev.now _)
theorem heldFile_ev (n : Nat) (m : Int) (h : n ≤ 1048576) (h0 : 0 ≤ m) (h1 : m ≤ 1099511627776) : Ev (fun k => laws_heldFile.f k (mkB n m) m) (m + n) := by
  simp only [laws_heldFile.f]
  exact Ev.bind (heldByteS_ev n m (by omega) h0 h1) (Ev_neg (by omega) (Ev.now _))
theorem eqFileResult_ev (c : Int) (l : List Int) (h : l.length ≤ 1048576) : Ev (fun k => laws_eqFileResult.f k c l c l) true := by
  simp only [laws_eqFileResult.f]
  exact Ev_pos (by first | trivial | rfl | simp) (Ev.bind (eqFile_ev l h) (Ev_pos (by first | trivial | rfl | simp) (Ev.now _)))
theorem markFileResult_ev (c : Int) (l : List Int) (h : l.length ≤ 1048576) : Ev (fun k => laws_markFileResult.f k c l 1) (1 + l.length, mkB l.length 1) := by
  simp only [laws_markFileResult.f]
  exact Ev.bind (markFile_ev l 1 h (by omega) (by omega)) (Ev.now _)
theorem heldFileResult_ev (c : Int) (n : Nat) (h : n ≤ 1048576) : Ev (fun k => laws_heldFileResult.f k c (mkB n 1) 1) (1 + n) := by
  simp only [laws_heldFileResult.f]
  exact Ev.bind (heldFile_ev n 1 h (by omega) (by omega)) (Ev_neg (by omega) (Ev.now _))

theorem f_dec_eq {p q : Prop} [Decidable p] [Decidable q] (h : p ↔ q) : decide p = decide q := decide_eq_decide.mpr h
theorem l2Fault_f (l : List Int) : spec_l2Fault.f [(⟨l⟩ : S35)] = some (if (l.length : Int) > 400 then 2 else 0) := by
  simp only [spec_l2Fault.f, rd_T35, List.length_singleton]
  by_cases h : (l.length : Int) > 400 <;> simp [h]
theorem isLong_f (l : List Int) : impl_isLong.f l = some (decide ((l.length : Int) > 400)) := rfl
theorem l1Copy_f (l : List Int) (h : l.length ≤ 1048576) : spec_l1Copy.f l = some l := by
  simp only [spec_l1Copy.f, Option.bind_some, List.length_nil, List.nil_append]
  rw [if_pos (by omega)]
def appR (l d : List Int) : Int × List Int := if (l.length : Int) + (d.length : Int) > 400 then (2, []) else (0, l ++ d)
theorem appR_len (l d : List Int) : (appR l d).2.length ≤ 400 := by
  unfold appR
  split
  · simp
  · simp; omega
theorem spec_AppendFile_ev (l d : List Int) (hl : l.length ≤ 1048576) (hd : d.length ≤ 1048576) : Ev (fun k => spec_AppendFile.f k l d) (appR l d) := by
  simp only [spec_AppendFile.f]
  refine Ev.bind (Ev_eq (l2Fault_f l)) ?_
  unfold appR
  by_cases h : (l.length : Int) > 400
  · refine Ev_r (if_pos (by omega)) (Ev_neg (by rw [if_pos h]; omega) ?_)
    refine Ev_shift ?_; simp only [spec_AppendFile.j0, spec_l2Bad.f]
    exact Ev_pos (by first | trivial | rfl | simp) (Ev.bind (Ev_eq rfl) (Ev.now _))
  · refine Ev_pos (by rw [if_neg h]) ?_
    rw [w64 (by omega) (by omega)]
    refine Ev_shift ?_; simp only [spec_AppendFile.j0, spec_l2Bad.f]
    by_cases h2 : (l.length : Int) + (d.length : Int) > 400
    · exact Ev_r (if_pos h2) (Ev_pos (by simpa using h2) (Ev.bind (Ev_eq rfl) (Ev.now _)))
    · refine Ev_r (if_neg h2) (Ev_neg (by simpa using h2) (Ev.bind (Ev_eq (l1Copy_f l (by omega))) (Ev_pos (by omega) (Ev.now _))))
theorem impl_AppendFile_f (l d : List Int) (hl : l.length ≤ 1048576) (hd : d.length ≤ 1048576) : impl_AppendFile.f l d = some (appR l d) := by
  simp only [impl_AppendFile.f, isLong_f, Option.bind_some, decide_eq_true_eq]
  unfold appR
  by_cases h : (l.length : Int) > 400
  · rw [if_pos h, if_pos (by omega)]
  · rw [if_neg h, w64 (by omega) (by omega)]
    by_cases h2 : (l.length : Int) + (d.length : Int) > 400
    · rw [if_pos h2, if_pos (by omega)]
    · rw [if_neg h2, if_neg (by omega)]
      simp only [slices_Concat_byte_byte.f]
      rw [if_pos (by simp; omega)]
      simp

theorem FnExactAppendFile : laws_FnExactAppendFile.Pure := by
  intro l d hl _ hd _
  refine Ev.rounds ?_
  simp only [laws_FnExactAppendFile.f]
  by_cases hb : (d.length : Int) > 1048576
  · exact Ev_pos hb (Ev.now _)
  refine Ev_neg hb ?_
  rcases szFile_f l 1048576 hl (by omega) (by omega) with ⟨h, e⟩ | e
  · have h0 := Ev_eq e
    have hs : l.length ≤ 1048576 := by omega
    have hds : d.length ≤ 1048576 := by omega
    have h1 := toFile_ev l hs
    have h1' := toByteS_ev d hds
    have h2 := spec_AppendFile_ev l d hs hds
    have h3 := Ev_eq (impl_AppendFile_f l d hs hds)
    have h4 := eqFile_ev l hs
    have h4' := eqByteS_ev d (by omega)
    have h5 := markFile_ev l 1 hs (by omega) (by omega)
    have h5' := markByteS_ev d (1 + l.length) (by omega) (by omega) (by omega)
    have hr := appR_len l d
    generalize appR l d = r at *
    obtain ⟨c, q⟩ := r
    dsimp only at hr
    have h6 := eqFileResult_ev c q (by omega)
    have h7 := markFileResult_ev c q (by omega)
    have h8 := heldFileResult_ev c q.length (by omega)
    repeat' first | with_reducible exact Ev.now _ | (with_reducible refine Ev.bind (by with_reducible assumption) ?_; try dsimp only) | (with_reducible refine Ev_pos ?hc_ ?_; (case hc_ => first | omega | (simp; done))) | (with_reducible refine Ev_neg ?hc_ ?_; (case hc_ => first | omega | (simp; done))) | (refine Ev_shift ?_; simp only [laws_FnExactAppendFile.j0])
  · exact Ev_pre e (Ev_pos (by omega) (Ev.now _))

end Go.Proofs.Ytfeoofbiimijcaa.Pure
