/- a character is read back from its bytes. Under no condition. -/
import Derived.Test.YtljpfppkpjodiaaPFnCharsx4
set_option linter.unusedVariables false
set_option linter.unusedSimpArgs false
namespace Go.Proofs.Ytljpfppkpjodiaa.Pure
open Go.RowKit Go.Proofs.Ytljpfppkpjodiaa.PFnChars Go.Proofs.YtljpfppkpjodiaaW.PrintWords Go.Proofs.YtljpfppkpjodiaaW.PrintLast

theorem w64 {x : Int} (h0 : -9223372036854775808 ≤ x) (h1 : x ≤ 9223372036854775807) : wrap64 x = x := by unfold wrap64; omega
theorem Ev_shift {α : Type} {g : Nat → Option α} {r : α} (h : Ev (fun k => g (k + 1)) r) : Ev g r := Ev.step (f := fun k => g (k + 1)) (fun _ => rfl) h
theorem Ev_pos {α : Type} {c : Prop} [Decidable c] (hc : c) {a b : Nat → Option α} {r : α} (h : Ev a r) : Ev (fun k => if c then a k else b k) r := by
  simpa only [if_pos hc] using h
theorem Ev_neg {α : Type} {c : Prop} [Decidable c] (hc : ¬ c) {a b : Nat → Option α} {r : α} (h : Ev b r) : Ev (fun k => if c then a k else b k) r := by
  simpa only [if_neg hc] using h
theorem Ev_pre {α β : Type} {g : Option α} {a : α} {f : Nat → α → Option β} {r : β} (h : g = some a) (k : Ev (fun n => f n a) r) : Ev (fun n => g.bind (f n)) r := by
  subst h; exact k
theorem Ev_eq {α : Type} {g : Option α} {r : α} (h : g = some r) : Ev (fun _ => g) r := by subst h; exact Ev.now r
theorem Ev_r {α : Type} {g : Nat → Option α} {r r' : α} (e : r = r') (h : Ev g r') : Ev g r := e ▸ h
theorem maxLen_le : maxLen ≤ 9223372036854775807 := by unfold maxLen; omega
theorem rd_nat (l : List Int) (i : Nat) (h : i < l.length) : rd l (i : Int) = l[i] := by simp [rd, h]
/-- A loop that fills a row with what it makes of another one's elements. -/
theorem fill_loop {α β : Type} (l : List α) (c : α → β) (G : Nat → List β → Int → Option (List β))
    (hend : ∀ x, Ev (fun k => G k x (l.length : Int)) x)
    (hstep : ∀ (i : Nat) (h : i < l.length) (x : List β) (r : List β), x.length = l.length → Ev (fun k => G k (x.set i (c l[i])) ((i : Int) + 1)) r → Ev (fun k => G k x (i : Int)) r)
    (x : List β) (hx : x.length = l.length) : Ev (fun k => G k x 0) (l.map c) := by
  have main : ∀ (d i : Nat) (x : List β), x.length = l.length → i + d = l.length → (∀ (j : Nat) (hj : j < i) (hl : j < l.length) (hx : j < x.length), x[j] = c l[j]) → Ev (fun k => G k x (i : Int)) (l.map c) := by
    intro d
    induction d with
    | zero =>
      intro i x hx hi hp
      obtain rfl : i = l.length := by omega
      have : x = l.map c := by
        apply List.ext_getElem (by simp [hx])
        intro j h1 h2
        rw [List.getElem_map]
        exact hp j (by omega) (by omega) h1
      rw [← this]
      exact hend x
    | succ d ih =>
      intro i x hx hi hp
      refine hstep i (by omega) x _ hx ?_
      have := ih (i + 1) (x.set i (c (l[i]'(by omega)))) (by simp [hx]) (by omega) (fun j hj hl hx' => by
        rw [List.getElem_set]
        split
        · rename_i e; subst e; rfl
        · exact hp j (by omega) hl (by simpa using hx'))
      simpa using this
  have := main l.length 0 x hx (by omega) (fun j hj => absurd hj (by omega))
  simpa using this
/-- A loop that goes through all places and finds nothing amiss. -/
theorem same_loop (n : Nat) (G : Nat → Int → Option Bool) (hend : Ev (fun k => G k (n : Int)) true)
    (hstep : ∀ i : Nat, i < n → Ev (fun k => G k ((i : Int) + 1)) true → Ev (fun k => G k (i : Int)) true) : Ev (fun k => G k 0) true := by
  have main : ∀ (d i : Nat), i + d = n → Ev (fun k => G k (i : Int)) true := by
    intro d
    induction d with
    | zero => intro i hi; obtain rfl : i = n := by omega
              exact hend
    | succ d ih =>
      intro i hi
      refine hstep i (by omega) ?_
      have := ih (i + 1) (by omega)
      simpa using this
  have := main n 0 (by omega)
  simpa using this

theorem and63 (x : Int) (h0 : 0 ≤ x) (h1 : x < 4611686018427387904) : Go.bits .and .i64 x 63 = x % 64 :=
  Go.bits_mask .i64 62 (by decide) (fun n a b => by rw [Go.IntKind.wrap_i64]; omega) 6 (by decide) x h0 h1
theorem dec_eq {p q : Prop} [Decidable p] [Decidable q] (h : p ↔ q) : decide p = decide q := decide_eq_decide.mpr h
theorem dec_false {p : Prop} [Decidable p] (h : ¬ p) : false = decide p := (decide_eq_false h).symm
theorem spec_l1In_f (a b c : Int) : spec_l1In.f a b c = some (decide (b ≤ a ∧ a ≤ c)) := by
  simp only [spec_l1In.f]
  by_cases h : a ≥ b
  · rw [if_pos h]; exact congrArg some (dec_eq (by first | omega | (unfold isCh; omega)))
  · rw [if_neg h]; exact congrArg some (dec_false (by omega))
theorem impl_within_f (a b c : Int) : impl_within.f a b c = some (decide (b ≤ a ∧ a ≤ c)) := by
  simp only [impl_within.f]
  by_cases h : b ≤ a
  · rw [if_pos h]; exact congrArg some (dec_eq (by first | omega | (unfold isCh; omega)))
  · rw [if_neg h]; exact congrArg some (dec_false (by omega))
def isCh (a : Int) : Prop := (0 ≤ a ∧ a ≤ 55295) ∨ (57344 ≤ a ∧ a ≤ 65535)
instance (a : Int) : Decidable (isCh a) := by unfold isCh; exact inferInstance
theorem spec_l1Char_f (a : Int) : spec_l1Char.f a = some (decide (isCh a)) := by
  simp only [spec_l1Char.f, spec_l1In_f, Option.bind_some, decide_eq_true_eq]
  by_cases h : 0 ≤ a ∧ a ≤ 55295
  · rw [if_pos h, decide_eq_true (show isCh a by unfold isCh; omega)]
  · rw [if_neg h]; exact congrArg some (dec_eq (by first | omega | (unfold isCh; omega)))
theorem impl_isChar_f (a : Int) : impl_isChar.f a = some (decide (isCh a)) := by
  simp only [impl_isChar.f, impl_within_f, Option.bind_some, decide_eq_true_eq]
  by_cases h : 0 ≤ a ∧ a ≤ 65535
  · rw [if_pos h]; rw [← decide_not]; exact congrArg some (dec_eq (by unfold isCh; omega))
  · rw [if_neg h]; exact congrArg some (dec_false (by unfold isCh; omega))
/-- The bytes of a character. -/
def enc (a : Int) : List Int := if a < 128 then [a] else if a < 2048 then [192 + a / 64, 128 + a % 64] else [224 + a / 4096, 128 + a / 64 % 64, 128 + a % 64]
theorem enc_len (a : Int) : 1 ≤ (enc a).length ∧ (enc a).length ≤ 3 := by unfold enc; split <;> (try split) <;> simp
theorem spec_l1Encode_f (a : Int) (h0 : 0 ≤ a) (h1 : a ≤ 65535) : spec_l1Encode.f a = some (enc a) := by
  simp only [spec_l1Encode.f, enc]
  rw [Int.tdiv_eq_ediv_of_nonneg h0, Int.tdiv_eq_ediv_of_nonneg h0, Int.tmod_eq_emod_of_nonneg h0]
  by_cases h : a < 128
  · rw [if_pos h, if_pos h]; congr 2; omega
  · rw [if_neg h, if_neg h]
    rw [w64 (x := a / 64) (by omega) (by omega), w64 (x := a / 4096) (by omega) (by omega)]
    rw [Int.tmod_eq_emod_of_nonneg (by omega : 0 ≤ a / 64)]
    rw [w64 (x := 192 + a / 64) (by omega) (by omega), w64 (x := 128 + a % 64) (by omega) (by omega), w64 (x := 224 + a / 4096) (by omega) (by omega), w64 (x := 128 + a / 64 % 64) (by omega) (by omega)]
    by_cases h2 : a < 2048
    · rw [if_pos h2, if_pos h2]; congr 2
      · omega
      · congr 1; omega
    · rw [if_neg h2, if_neg h2]; congr 2
      · omega
      · congr 1
        · omega
        · congr 1; omega
theorem impl_encoded_f (a : Int) (h0 : 0 ≤ a) (h1 : a ≤ 65535) : impl_encoded.f a = some (enc a) := by
  simp only [impl_encoded.f, enc]
  rw [and63 a h0 (by omega), and63 (a / 64) (by omega) (by omega)]
  by_cases h : a < 128
  · rw [if_pos h, if_pos h]; congr 2; omega
  · rw [if_neg h, if_neg h]
    rw [w64 (x := 192 + a / 64) (by omega) (by omega), w64 (x := 128 + a % 64) (by omega) (by omega), w64 (x := 224 + a / 4096) (by omega) (by omega), w64 (x := 128 + a / 64 % 64) (by omega) (by omega)]
    by_cases h2 : a < 2048
    · rw [if_pos h2, if_pos h2]; congr 2
      · omega
      · congr 1; omega
    · rw [if_neg h2, if_neg h2]; congr 2
      · omega
      · congr 1
        · omega
        · congr 1; omega

def Bytes (l : List Int) : Prop := ∀ x ∈ l, 0 ≤ x ∧ x ≤ 255
theorem Bytes.take {l : List Int} (h : Bytes l) (n : Nat) : Bytes (l.take n) := fun x hx => h x (List.mem_of_mem_take hx)
theorem Bytes.drop {l : List Int} (h : Bytes l) (n : Nat) : Bytes (l.drop n) := fun x hx => h x (List.mem_of_mem_drop hx)
theorem Bytes.append {l m : List Int} (h : Bytes l) (k : Bytes m) : Bytes (l ++ m) := fun x hx => (List.mem_append.1 hx).elim (h x) (k x)
theorem Bytes.nil : Bytes [] := fun _ h => by cases h
theorem bytes_of_wf {l : List Int} (h : ∀ x ∈ l, (Lit.int .u8 x).wf = true) : Bytes l := fun x hx => by
  have := h x hx
  simp [Lit.wf, IntKind.min, IntKind.max, IntKind.signed, IntKind.bits] at this
  omega
theorem u8_inj {a b : Int} (ha : 0 ≤ a ∧ a ≤ 255) (hb : 0 ≤ b ∧ b ≤ 255) (h : UInt8.ofNat a.toNat = UInt8.ofNat b.toNat) : a = b := by
  have := congrArg UInt8.toNat h
  simp only [UInt8.toNat_ofNat'] at this
  omega
theorem so_list (xs : List Int) : (strOfNums xs).toList = xs.map fun n => UInt8.ofNat n.toNat := by
  rw [Go.ByteArray.toList_eq]; rfl
theorem map_u8_inj : ∀ {xs ys : List Int}, Bytes xs → Bytes ys → (xs.map fun n => UInt8.ofNat n.toNat) = (ys.map fun n => UInt8.ofNat n.toNat) → xs = ys
  | [], [], _, _, _ => rfl
  | [], _ :: _, _, _, h => by simp at h
  | _ :: _, [], _, _, h => by simp at h
  | x :: xs, y :: ys, hx, hy, h => by
    simp only [List.map_cons, List.cons.injEq] at h
    rw [u8_inj (hx x (by simp)) (hy y (by simp)) h.1, map_u8_inj (fun z hz => hx z (by simp [hz])) (fun z hz => hy z (by simp [hz])) h.2]
theorem so_inj {xs ys : List Int} (hx : Bytes xs) (hy : Bytes ys) : (strOfNums xs).toList = (strOfNums ys).toList ↔ xs = ys := by
  rw [so_list, so_list]
  exact ⟨map_u8_inj hx hy, fun h => by rw [h]⟩

/-- What a byte that goes on a character tells; -1: it is none. -/
def contOf (l : List Int) (i : Nat) : Int := if h : i < l.length then (if l[i] < 128 then -1 else if l[i] > 191 then -1 else l[i] - 128) else -1
/-- The character that begins at a place, and its bytes; 0: there is none. -/
def decAt (l : List Int) (i : Nat) (b : Int) : Int × Int :=
  if b < 128 then (b, 1)
  else if 194 ≤ b ∧ b < 224 ∧ 0 ≤ contOf l (i + 1) then ((b - 192) * 64 + contOf l (i + 1), 2)
  else if 224 ≤ b ∧ b < 240 ∧ 0 ≤ contOf l (i + 1) ∧ 0 ≤ contOf l (i + 2) ∧ 2048 ≤ (b - 224) * 4096 + contOf l (i + 1) * 64 + contOf l (i + 2) ∧ isCh ((b - 224) * 4096 + contOf l (i + 1) * 64 + contOf l (i + 2)) then ((b - 224) * 4096 + contOf l (i + 1) * 64 + contOf l (i + 2), 3)
  else (0, 0)
theorem contOf_le (l : List Int) (i : Nat) : -1 ≤ contOf l i ∧ contOf l i ≤ 63 := by
  unfold contOf; split
  · split
    · omega
    · split <;> omega
  · omega
theorem spec_l1More_f (l : List Int) (hb : Bytes l) (i : Nat) : spec_l1More.f l (i : Int) = some (contOf l i) := by
  simp only [spec_l1More.f, contOf]
  by_cases h : i < l.length
  · have hx := hb l[i] (List.getElem_mem h)
    rw [if_neg (by omega), if_pos (by omega), if_pos (by omega), dif_pos h, rd_nat l i h, w64 (x := l[i]) (by omega) (by omega), w64 (x := l[i] - 128) (by omega) (by omega)]
    by_cases h1 : l[i] < 128
    · rw [if_pos h1, if_pos h1]
    · rw [if_neg h1, if_neg h1]
      by_cases h2 : l[i] > 191
      · rw [if_pos h2, if_pos h2]
      · rw [if_neg h2, if_neg h2]
  · rw [if_pos (by omega), dif_neg h]
theorem spec_l1Decode_ev (l : List Int) (hb : Bytes l) (i : Nat) (h : i < l.length) (hl : l.length ≤ 1048576) : Ev (fun k => spec_l1Decode.f k l (i : Int)) (decAt l i l[i]) := by
  have hx := hb l[i] (List.getElem_mem h)
  have c1 := contOf_le l (i + 1)
  have c2 := contOf_le l (i + 2)
  simp only [spec_l1Decode.f, decAt]
  rw [rd_nat l i h, w64 (x := l[i]) (by omega) (by omega), w64 (x := (i : Int) + 1) (by omega) (by omega)]
  refine Ev_pos (by omega) (Ev_pos (by omega) ?_)
  by_cases h1 : l[i] < 128
  · refine Ev_r (if_pos h1) ?_; exact Ev_pos h1 (Ev.now _)
  refine Ev_r (if_neg h1) ?_
  refine Ev_neg h1 (Ev.bind (Ev_eq (spec_l1More_f l hb (i + 1))) ?_)
  have rest : ∀ g : Bool, (g = true ↔ 194 ≤ l[i] ∧ l[i] < 224 ∧ 0 ≤ contOf l (i + 1)) → Ev (fun k => spec_l1Decode.j0 k l (i : Int) l[i] (contOf l (i + 1)) g) (if 194 ≤ l[i] ∧ l[i] < 224 ∧ 0 ≤ contOf l (i + 1) then ((l[i] - 192) * 64 + contOf l (i + 1), 2)
  else if 224 ≤ l[i] ∧ l[i] < 240 ∧ 0 ≤ contOf l (i + 1) ∧ 0 ≤ contOf l (i + 2) ∧ 2048 ≤ (l[i] - 224) * 4096 + contOf l (i + 1) * 64 + contOf l (i + 2) ∧ isCh ((l[i] - 224) * 4096 + contOf l (i + 1) * 64 + contOf l (i + 2)) then ((l[i] - 224) * 4096 + contOf l (i + 1) * 64 + contOf l (i + 2), 3)
  else (0, 0)) := by
    intro g hg
    refine Ev_shift ?_; simp only [spec_l1Decode.j0]
    by_cases h2 : 194 ≤ l[i] ∧ l[i] < 224 ∧ 0 ≤ contOf l (i + 1)
    · refine Ev_r (if_pos h2) ?_
      refine Ev_pos (hg.2 h2) ?_
      rw [w64 (x := l[i] - 192) (by omega) (by omega), w64 (x := (l[i] - 192) * 64) (by omega) (by omega), w64 (by omega) (by omega)]
      exact Ev.now _
    · refine Ev_r (if_neg h2) ?_
      refine Ev_neg (fun z => h2 (hg.1 z)) ?_
      rw [w64 (x := (i : Int) + 2) (by omega) (by omega)]
      refine Ev.bind (Ev_eq (spec_l1More_f l hb (i + 2))) ?_
      have rest3 : ∀ g : Bool, (g = true ↔ 224 ≤ l[i] ∧ l[i] < 240 ∧ 0 ≤ contOf l (i + 1) ∧ 0 ≤ contOf l (i + 2)) → Ev (fun k => spec_l1Decode.j1 k l[i] (contOf l (i + 1)) (contOf l (i + 2)) g) (if 224 ≤ l[i] ∧ l[i] < 240 ∧ 0 ≤ contOf l (i + 1) ∧ 0 ≤ contOf l (i + 2) ∧ 2048 ≤ (l[i] - 224) * 4096 + contOf l (i + 1) * 64 + contOf l (i + 2) ∧ isCh ((l[i] - 224) * 4096 + contOf l (i + 1) * 64 + contOf l (i + 2)) then ((l[i] - 224) * 4096 + contOf l (i + 1) * 64 + contOf l (i + 2), 3)
  else (0, 0)) := by
        intro g hg
        refine Ev_shift ?_; simp only [spec_l1Decode.j1]
        by_cases h3 : 224 ≤ l[i] ∧ l[i] < 240 ∧ 0 ≤ contOf l (i + 1) ∧ 0 ≤ contOf l (i + 2)
        · refine Ev_pos (hg.2 h3) ?_
          rw [w64 (x := l[i] - 224) (by omega) (by omega), w64 (x := (l[i] - 224) * 4096) (by omega) (by omega), w64 (x := contOf l (i + 1) * 64) (by omega) (by omega), w64 (x := (l[i] - 224) * 4096 + contOf l (i + 1) * 64) (by omega) (by omega), w64 (x := (l[i] - 224) * 4096 + contOf l (i + 1) * 64 + contOf l (i + 2)) (by omega) (by omega)]
          by_cases h4 : 2048 ≤ (l[i] - 224) * 4096 + contOf l (i + 1) * 64 + contOf l (i + 2)
          · refine Ev_pos h4 (Ev.bind (Ev_eq (spec_l1Char_f _)) ?_)
            by_cases h5 : isCh ((l[i] - 224) * 4096 + contOf l (i + 1) * 64 + contOf l (i + 2))
            · refine Ev_r (if_pos ⟨h3.1, h3.2.1, h3.2.2.1, h3.2.2.2, h4, h5⟩) ?_
              exact Ev_pos (by simpa using h5) (Ev.now _)
            · refine Ev_r (if_neg (fun z => h5 z.2.2.2.2.2)) ?_
              exact Ev_neg (by simpa using h5) (Ev.now _)
          · refine Ev_r (if_neg (fun z => h4 z.2.2.2.2.1)) ?_
            exact Ev_neg h4 (Ev.now _)
        · refine Ev_r (if_neg (fun z => h3 ⟨z.1, z.2.1, z.2.2.1, z.2.2.2.1⟩)) ?_
          exact Ev_neg (fun z => h3 (hg.1 z)) (Ev.now _)
      by_cases a1 : l[i] ≥ 224
      · refine Ev_pos a1 ?_
        by_cases a2 : l[i] < 240
        · refine Ev_pos a2 ?_
          by_cases a3 : contOf l (i + 1) ≥ 0
          · exact Ev_pos a3 (rest3 _ (by rw [decide_eq_true_eq]; omega))
          · exact Ev_neg a3 (rest3 _ (by simp; omega))
        · exact Ev_neg a2 (rest3 _ (by simp; omega))
      · exact Ev_neg a1 (rest3 _ (by simp; omega))
  by_cases a1 : l[i] ≥ 194
  · refine Ev_pos a1 ?_
    by_cases a2 : l[i] < 224
    · exact Ev_pos a2 (rest _ (by rw [decide_eq_true_eq]; omega))
    · exact Ev_neg a2 (rest _ (by simp; omega))
  · exact Ev_neg a1 (rest _ (by simp; omega))
def decR (l : List Int) (a : Int) : Int × Int × Int :=
  if h : 0 ≤ a ∧ a.toNat < l.length then (if (decAt l a.toNat l[a.toNat]).2 = 0 then (5, 0, 0) else (0, (decAt l a.toNat l[a.toNat]).1, (decAt l a.toNat l[a.toNat]).2)) else (3, 0, 0)
theorem spec_DecodeAt_ev (l : List Int) (hb : Bytes l) (hl : l.length ≤ 1048576) (a : Int) : Ev (fun k => spec_DecodeAt.f k l a) (decR l a) := by
  simp only [spec_DecodeAt.f]
  rw [w64 (x := (l.length : Int) - 1) (by omega) (by omega)]
  refine Ev.bind (Ev_eq (spec_l1In_f _ _ _)) ?_
  unfold decR
  by_cases h : 0 ≤ a ∧ a ≤ (l.length : Int) - 1
  · refine Ev_r (dif_pos (show 0 ≤ a ∧ a.toNat < l.length by omega)) ?_
    obtain ⟨i, rfl⟩ := Int.eq_ofNat_of_zero_le h.1
    refine Ev_pos (by simpa using h) (Ev.bind (spec_l1Decode_ev l hb i (by omega) hl) ?_)
    simp only [Int.toNat_natCast]
    by_cases h0 : (decAt l i (l[i]'(by omega))).2 = 0
    · refine Ev_r (if_pos h0) ?_; exact Ev_pos h0 (Ev.now _)
    · refine Ev_r (if_neg h0) ?_; exact Ev_neg h0 (Ev.now _)
  · refine Ev_r (dif_neg (by omega)) ?_
    exact Ev_neg (by simpa using h) (Ev.now _)
-- the program's own way
def c2 (c b : Int) : Int := c * 64 + b % 64
def fin3 (p : Int × Int) : Int × Int × Int := if p.2 = 0 then (5, 0, 0) else (0, p.1, p.2)
theorem fin3_none : fin3 (0, 0) = (5, 0, 0) := rfl
theorem fin3_1 (c : Int) : fin3 (c, 1) = (0, c, 1) := rfl
theorem fin3_2 (c : Int) : fin3 (c, 2) = (0, c, 2) := rfl
theorem fin3_3 (c : Int) : fin3 (c, 3) = (0, c, 3) := rfl
theorem enc_bytes {c : Int} (h : isCh c) : Bytes (enc c) := by
  unfold isCh at h
  unfold enc
  intro x hx
  split at hx
  · simp at hx; omega
  · split at hx
    · simp at hx; omega
    · simp at hx; omega
theorem impl_end (y : List Int) (hb : Bytes y) (c n : Int) (x41 : List Int) (x42 x43 : Int) (h : ¬ x43 < x42) (h0 : 1 ≤ n) (h1 : n ≤ y.length) :
    Ev (fun k => impl_DecodeAt.l0 k y c n x41 x42 x43) (if isCh c ∧ enc c = y.take n.toNat then (0, c, n) else (5, 0, 0)) := by
  refine Ev_shift ?_; simp only [impl_DecodeAt.l0]
  refine Ev_neg h (Ev.bind (Ev_eq (impl_isChar_f c)) ?_)
  by_cases hc : isCh c
  · have hcb : 0 ≤ c ∧ c ≤ 65535 := by unfold isCh at hc; omega
    refine Ev_pos (by simpa using hc) (Ev.bind (Ev_eq (impl_encoded_f c hcb.1 hcb.2)) (Ev_pos (by omega) (Ev_pos h1 ?_)))
    by_cases he : enc c = y.take n.toNat
    · refine Ev_r (if_pos ⟨hc, he⟩) ?_
      exact Ev_pos ((so_inj (enc_bytes hc) (hb.take _)).2 he) (Ev.now _)
    · refine Ev_r (if_neg (fun z => he z.2)) ?_
      exact Ev_neg (fun z => he ((so_inj (enc_bytes hc) (hb.take _)).1 z)) (Ev.now _)
  · refine Ev_r (if_neg (fun z => hc z.1)) ?_
    exact Ev_neg (by simpa using hc) (Ev.now _)
theorem u8_63 (x : Int) (h : 0 ≤ x ∧ x ≤ 255) : wrap64 (Go.bits .and .u8 x 63) = x % 64 := by
  rw [Go.u8_and63 x h.1 (by omega), w64 (by omega) (by omega)]
theorem c2_w {c x : Int} (hc : 0 ≤ c ∧ c ≤ 1000000) (hx : 0 ≤ x ∧ x ≤ 255) : wrap64 (wrap64 (c * 64) + wrap64 (Go.bits .and .u8 x 63)) = c2 c x := by
  rw [u8_63 x hx, w64 (x := c * 64) (by omega) (by omega), w64 (by omega) (by omega)]; rfl
theorem c2_le {c x : Int} (hc : 0 ≤ c ∧ c ≤ 255) : 0 ≤ c2 c x ∧ c2 c x ≤ 1000000 := by unfold c2; omega
theorem impl_j1 (y : List Int) (hb : Bytes y) (c : Int) (h : 1 ≤ y.length) (hl : y.length ≤ 1048576) : Ev (fun k => impl_DecodeAt.j0 k y c 1) (if isCh c ∧ enc c = y.take 1 then (0, c, 1) else (5, 0, 0)) := by
  refine Ev_shift ?_; simp only [impl_DecodeAt.j0]
  refine Ev_neg (by omega) (Ev_pos (by omega) (Ev_pos (by omega) (Ev.bind (Ev.now _) ?_)))
  have := impl_end y hb c 1 ((y.take 1).drop 1) (((y.take 1).drop 1).length : Int) 0 (by simp) (by omega) (by omega)
  exact this
theorem impl_j2 (y : List Int) (hb : Bytes y) (c : Int) (hc : 0 ≤ c ∧ c ≤ 255) (hl : y.length ≤ 1048576) : Ev (fun k => impl_DecodeAt.j0 k y c 2) (if h : 1 < y.length then (if isCh (c2 c y[1]) ∧ enc (c2 c y[1]) = y.take 2 then (0, c2 c y[1], 2) else (5, 0, 0)) else (5, 0, 0)) := by
  refine Ev_shift ?_; simp only [impl_DecodeAt.j0]
  by_cases h : 1 < y.length
  · refine Ev_r (dif_pos h) ?_
    refine Ev_neg (by omega) (Ev_pos (by omega) (Ev_pos (by omega) (Ev.bind (Ev.now _) ?_)))
    have e : (y.take 2).drop 1 = [y[1]] := by
      match y, h with
      | _ :: b :: _, _ => rfl
    have hy := hb y[1] (List.getElem_mem h)
    show Ev (fun k => impl_DecodeAt.l0 k y c 2 ((y.take 2).drop 1) (((y.take 2).drop 1).length : Int) 0) _
    rw [e]
    refine Ev_shift ?_; simp only [impl_DecodeAt.l0]
    refine Ev_pos (by simp) (Ev_pos (by omega) (Ev_pos (by simp) ?_))
    have er : rd [y[1]] 0 = y[1] := by simp [rd]
    rw [er, c2_w (by omega) hy, w64 (x := 0 + 1) (by omega) (by omega)]
    show Ev (fun k => impl_DecodeAt.l0 k y (c2 c y[1]) 2 _ _ _) _
    exact impl_end y hb _ 2 _ _ _ (by simp) (by omega) (by omega)
  · refine Ev_r (dif_neg h) ?_
    exact Ev_pos (by omega) (Ev.now _)
theorem impl_j3 (y : List Int) (hb : Bytes y) (c : Int) (hc : 0 ≤ c ∧ c ≤ 255) (hl : y.length ≤ 1048576) : Ev (fun k => impl_DecodeAt.j0 k y c 3) (if h : 2 < y.length then (if isCh (c2 (c2 c y[1]) y[2]) ∧ enc (c2 (c2 c y[1]) y[2]) = y.take 3 then (0, c2 (c2 c y[1]) y[2], 3) else (5, 0, 0)) else (5, 0, 0)) := by
  refine Ev_shift ?_; simp only [impl_DecodeAt.j0]
  by_cases h : 2 < y.length
  · refine Ev_r (dif_pos h) ?_
    refine Ev_neg (by omega) (Ev_pos (by omega) (Ev_pos (by omega) (Ev.bind (Ev.now _) ?_)))
    have e : (y.take 3).drop 1 = [y[1], y[2]] := by
      match y, h with
      | _ :: b :: d :: _, _ => rfl
    have hy := hb y[1] (List.getElem_mem (by omega))
    have hy2 := hb y[2] (List.getElem_mem h)
    show Ev (fun k => impl_DecodeAt.l0 k y c 3 ((y.take 3).drop 1) (((y.take 3).drop 1).length : Int) 0) _
    rw [e]
    refine Ev_shift ?_; simp only [impl_DecodeAt.l0]
    refine Ev_pos (by simp) (Ev_pos (by omega) (Ev_pos (by simp) ?_))
    have er : rd [y[1], y[2]] 0 = y[1] := by simp [rd]
    rw [er, c2_w (by omega) hy, w64 (x := 0 + 1) (by omega) (by omega)]
    refine Ev_shift ?_; simp only [impl_DecodeAt.l0]
    refine Ev_pos (by simp) (Ev_pos (by omega) (Ev_pos (by simp) ?_))
    have er : rd [y[1], y[2]] (0 + 1) = y[2] := by simp [rd]
    rw [er, c2_w (c2_le hc) hy2, w64 (x := 0 + 1 + 1) (by omega) (by omega)]
    show Ev (fun k => impl_DecodeAt.l0 k y (c2 (c2 c y[1]) y[2]) 3 _ _ _) _
    exact impl_end y hb _ 3 _ _ _ (by simp) (by omega) (by omega)
  · refine Ev_r (dif_neg h) ?_
    exact Ev_pos (by omega) (Ev.now _)
/-- Both ways of reading a character agree. -/
theorem decAt_cases (l : List Int) (hb : Bytes l) (i : Nat) (h : i < l.length) : fin3 (decAt l i l[i]) = ((if l[i] ≥ 224 then (if h2 : 2 < (l.drop i).length then (if isCh (c2 (c2 (l[i] - 224) (l.drop i)[1]) (l.drop i)[2]) ∧ enc (c2 (c2 (l[i] - 224) (l.drop i)[1]) (l.drop i)[2]) = (l.drop i).take 3 then (0, c2 (c2 (l[i] - 224) (l.drop i)[1]) (l.drop i)[2], 3) else (5, 0, 0)) else (5, 0, 0))
     else if l[i] ≥ 192 then (if h2 : 1 < (l.drop i).length then (if isCh (c2 (l[i] - 192) (l.drop i)[1]) ∧ enc (c2 (l[i] - 192) (l.drop i)[1]) = (l.drop i).take 2 then (0, c2 (l[i] - 192) (l.drop i)[1], 2) else (5, 0, 0)) else (5, 0, 0))
     else (if isCh l[i] ∧ enc l[i] = (l.drop i).take 1 then (0, l[i], 1) else (5, 0, 0))) : Int × Int × Int) := by
  have hx := hb l[i] (List.getElem_mem h)
  have e0 : l.drop i = l[i] :: l.drop (i + 1) := List.drop_eq_getElem_cons h
  by_cases h1 : l[i] < 128
  · rw [if_neg (by omega), if_neg (by omega), e0]
    have ha : decAt l i l[i] = (l[i], 1) := by unfold decAt; rw [if_pos h1]
    rw [ha, fin3_1, if_pos ⟨by unfold isCh; omega, by unfold enc; rw [if_pos h1]; rfl⟩]
  by_cases h2 : l[i] < 192
  · rw [if_neg (by omega), if_neg (by omega), e0]
    have ha : decAt l i l[i] = (0, 0) := by unfold decAt; rw [if_neg h1, if_neg (by omega), if_neg (by omega)]
    rw [ha, fin3_none, if_neg]
    rintro ⟨_, he⟩
    have := congrArg List.length he
    unfold enc at this
    rw [if_neg h1, if_pos (by omega)] at this
    simp only [List.length_cons, List.length_nil, List.length_take, List.length_drop] at this
    omega
  by_cases h3 : l[i] < 224
  · rw [if_neg (by omega), if_pos (by omega)]
    by_cases hl : i + 1 < l.length
    · have e1 : l.drop (i + 1) = l[i + 1] :: l.drop (i + 2) := List.drop_eq_getElem_cons hl
      have hy := hb l[i + 1] (List.getElem_mem hl)
      rw [dif_pos (by simp; omega)]
      have g1 : (l.drop i)[1]'(by simp; omega) = l[i + 1] := by simp
      rw [g1, e0, e1]
      have hc1 : contOf l (i + 1) = if l[i + 1] < 128 then -1 else if l[i + 1] > 191 then -1 else l[i + 1] - 128 := by unfold contOf; rw [dif_pos hl]
      by_cases good : 194 ≤ l[i] ∧ 128 ≤ l[i + 1] ∧ l[i + 1] ≤ 191
      · have hcv : contOf l (i + 1) = l[i + 1] - 128 := by rw [hc1, if_neg (by omega), if_neg (by omega)]
        have ha : decAt l i l[i] = ((l[i] - 192) * 64 + (l[i + 1] - 128), 2) := by unfold decAt; rw [if_neg h1, hcv, if_pos (by omega)]
        have hm : c2 (l[i] - 192) l[i + 1] = (l[i] - 192) * 64 + (l[i + 1] - 128) := by unfold c2; omega
        rw [ha, fin3_2, hm, if_pos]
        refine ⟨by unfold isCh; omega, ?_⟩
        unfold enc
        rw [if_neg (by omega), if_pos (by omega)]
        simp only [List.take_succ_cons, List.take_zero, List.cons.injEq, and_true]
        omega
      · have ha : decAt l i l[i] = (0, 0) := by
          unfold decAt; rw [if_neg h1, if_neg, if_neg (by omega)]
          rintro ⟨z1, _, z3⟩
          rw [hc1] at z3
          split at z3
          · omega
          · split at z3
            · omega
            · omega
        rw [ha, fin3_none, if_neg]
        rintro ⟨_, he⟩
        generalize hv : c2 (l[i] - 192) l[i + 1] = v at he
        simp only [c2] at hv
        unfold enc at he
        split at he
        · exact absurd (congrArg List.length he) (by simp only [List.length_cons, List.length_nil, List.length_take, List.length_drop]; omega)
        · split at he
          · simp only [List.take_succ_cons, List.take_zero, List.cons.injEq, and_true] at he
            omega
          · exact absurd (congrArg List.length he) (by simp only [List.length_cons, List.length_nil, List.length_take, List.length_drop]; omega)
    · rw [dif_neg (by simp; omega)]
      have hc1 : contOf l (i + 1) = -1 := by unfold contOf; rw [dif_neg hl]
      have ha : decAt l i l[i] = (0, 0) := by unfold decAt; rw [if_neg h1, hc1, if_neg (by omega), if_neg (by omega)]
      rw [ha, fin3_none]
  · rw [if_pos (by omega)]
    by_cases hl : i + 2 < l.length
    · have e1 : l.drop (i + 1) = l[i + 1] :: l.drop (i + 2) := List.drop_eq_getElem_cons (by omega)
      have e2 : l.drop (i + 2) = l[i + 2] :: l.drop (i + 3) := List.drop_eq_getElem_cons hl
      have hy := hb l[i + 1] (List.getElem_mem (by omega))
      have hz := hb l[i + 2] (List.getElem_mem hl)
      rw [dif_pos (by simp; omega)]
      have g1 : (l.drop i)[1]'(by simp; omega) = l[i + 1] := by simp
      have g2 : (l.drop i)[2]'(by simp; omega) = l[i + 2] := by simp
      rw [g1, g2, e0, e1, e2]
      have hc1 : contOf l (i + 1) = if l[i + 1] < 128 then -1 else if l[i + 1] > 191 then -1 else l[i + 1] - 128 := by unfold contOf; rw [dif_pos (by omega)]
      have hc2 : contOf l (i + 2) = if l[i + 2] < 128 then -1 else if l[i + 2] > 191 then -1 else l[i + 2] - 128 := by unfold contOf; rw [dif_pos hl]
      by_cases good : l[i] < 240 ∧ (128 ≤ l[i + 1] ∧ l[i + 1] ≤ 191) ∧ (128 ≤ l[i + 2] ∧ l[i + 2] ≤ 191) ∧ 2048 ≤ (l[i] - 224) * 4096 + (l[i + 1] - 128) * 64 + (l[i + 2] - 128) ∧ isCh ((l[i] - 224) * 4096 + (l[i + 1] - 128) * 64 + (l[i + 2] - 128))
      · obtain ⟨b1, b2, b3, b4, b5⟩ := good
        have hcv : contOf l (i + 1) = l[i + 1] - 128 := by rw [hc1, if_neg (by omega), if_neg (by omega)]
        have hcw : contOf l (i + 2) = l[i + 2] - 128 := by rw [hc2, if_neg (by omega), if_neg (by omega)]
        have ha : decAt l i l[i] = ((l[i] - 224) * 4096 + (l[i + 1] - 128) * 64 + (l[i + 2] - 128), 3) := by
          unfold decAt; rw [if_neg h1, hcv, hcw, if_neg (by omega), if_pos ⟨by omega, b1, by omega, by omega, b4, b5⟩]
        have hm : c2 (c2 (l[i] - 224) l[i + 1]) l[i + 2] = (l[i] - 224) * 4096 + (l[i + 1] - 128) * 64 + (l[i + 2] - 128) := by simp only [c2]; omega
        rw [ha, fin3_3, hm, if_pos]
        refine ⟨b5, ?_⟩
        unfold enc
        rw [if_neg (by omega), if_neg (by omega)]
        simp only [List.take_succ_cons, List.take_zero, List.cons.injEq, and_true]
        omega
      · have ha : decAt l i l[i] = (0, 0) := by
          unfold decAt; rw [if_neg h1, if_neg (by omega), if_neg]
          rintro ⟨_, z2, z3, z4, z5, z6⟩
          by_cases k1 : l[i + 1] < 128
          · rw [hc1, if_pos k1] at z3; omega
          by_cases k2 : l[i + 1] > 191
          · rw [hc1, if_neg k1, if_pos k2] at z3; omega
          by_cases k3 : l[i + 2] < 128
          · rw [hc2, if_pos k3] at z4; omega
          by_cases k4 : l[i + 2] > 191
          · rw [hc2, if_neg k3, if_pos k4] at z4; omega
          rw [hc1, hc2, if_neg k1, if_neg k2, if_neg k3, if_neg k4] at z5 z6
          exact good ⟨z2, by omega, by omega, z5, z6⟩
        rw [ha, fin3_none, if_neg]
        rintro ⟨hch, he⟩
        have hm := hch
        generalize hv : c2 (c2 (l[i] - 224) l[i + 1]) l[i + 2] = v at he hm
        simp only [c2] at hv
        unfold isCh at hm
        unfold enc at he
        split at he
        · exact absurd (congrArg List.length he) (by simp only [List.length_cons, List.length_nil, List.length_take, List.length_drop]; omega)
        · split at he
          · exact absurd (congrArg List.length he) (by simp only [List.length_cons, List.length_nil, List.length_take, List.length_drop]; omega)
          · simp only [List.take_succ_cons, List.take_zero, List.cons.injEq, and_true] at he
            have hq : c2 (c2 (l[i] - 224) l[i + 1]) l[i + 2] = (l[i] - 224) * 4096 + (l[i + 1] - 128) * 64 + (l[i + 2] - 128) := by simp only [c2]; omega
            rw [hq] at hch
            exact good ⟨by omega, by omega, by omega, by omega, hch⟩
    · rw [dif_neg (by simp; omega)]
      have hc2 : contOf l (i + 2) = -1 := by unfold contOf; rw [dif_neg hl]
      have ha : decAt l i l[i] = (0, 0) := by unfold decAt; rw [if_neg h1, if_neg (by omega), hc2, if_neg (by omega)]
      rw [ha, fin3_none]
theorem impl_DecodeAt_ev (l : List Int) (hb : Bytes l) (hl : l.length ≤ 1048576) (a : Int) : Ev (fun k => impl_DecodeAt.f k l a) (decR l a) := by
  simp only [impl_DecodeAt.f]
  rw [w64 (x := (l.length : Int) - 1) (by omega) (by omega)]
  refine Ev.bind (Ev_eq (impl_within_f _ _ _)) ?_
  unfold decR
  by_cases h : 0 ≤ a ∧ a ≤ (l.length : Int) - 1
  · refine Ev_r (dif_pos (show 0 ≤ a ∧ a.toNat < l.length by omega)) ?_
    obtain ⟨i, rfl⟩ := Int.eq_ofNat_of_zero_le h.1
    have hi : i < l.length := by omega
    simp only [Int.toNat_natCast]
    refine Ev_r (decAt_cases l hb i hi) ?_
    have hx := hb l[i] (List.getElem_mem hi)
    have er : rd (l.drop i) 0 = l[i] := by
      rw [List.drop_eq_getElem_cons hi]; rfl
    have hdl : (l.drop i).length ≤ 1048576 := by simp; omega
    refine Ev_pos (by simpa using h) (Ev_pos (by omega) (Ev_pos (by omega) (Ev.bind (Ev.now _) (Ev_pos (by simp; omega) ?_))))
    show Ev (fun k => if wrap64 (rd (l.drop i) 0) ≥ 224 then _ else _) _
    rw [er, w64 (x := l[i]) (by omega) (by omega), w64 (x := l[i] - 224) (by omega) (by omega), w64 (x := l[i] - 192) (by omega) (by omega)]
    by_cases a1 : l[i] ≥ 224
    · refine Ev_r (if_pos a1) ?_
      exact Ev_pos a1 (impl_j3 _ (hb.drop i) _ (by omega) hdl)
    · refine Ev_r (if_neg a1) ?_
      refine Ev_neg a1 ?_
      by_cases a2 : l[i] ≥ 192
      · refine Ev_r (if_pos a2) ?_
        exact Ev_pos a2 (impl_j2 _ (hb.drop i) _ (by omega) hdl)
      · refine Ev_r (if_neg a2) ?_
        exact Ev_neg a2 (impl_j1 _ (hb.drop i) _ (by simp; omega) hdl)
  · refine Ev_r (dif_neg (by omega)) ?_
    exact Ev_neg (by simpa using h) (Ev.now _)

theorem rd_bytes {l : List Int} (h : Bytes l) (i : Int) : 0 ≤ rd l i ∧ rd l i ≤ 255 := by
  unfold rd
  rw [List.getD_eq_getElem?_getD]
  by_cases hi : i.toNat < l.length
  · rw [List.getElem?_eq_getElem hi]; exact h _ (List.getElem_mem hi)
  · rw [List.getElem?_eq_none (by omega)]; simp
theorem rd_mem {l : List Int} {i : Int} (h0 : 0 ≤ i) (h : i < l.length) : rd l i ∈ l := by
  unfold rd
  rw [List.getD_eq_getElem?_getD, List.getElem?_eq_getElem (by omega : i.toNat < l.length)]
  exact List.getElem_mem _
theorem tmod_in {a b : Int} (h0 : 0 ≤ a) (h1 : 1 ≤ b) : 0 ≤ Int.tmod a b ∧ Int.tmod a b < b := ⟨Int.tmod_nonneg b h0, Int.tmod_lt_of_pos a (by omega)⟩
theorem tdiv_in {a b : Int} (h0 : 0 ≤ a) (h1 : 1 ≤ b) : 0 ≤ Int.tdiv a b ∧ Int.tdiv a b ≤ a := by
  rw [Int.tdiv_eq_ediv_of_nonneg h0]
  exact ⟨Int.ediv_nonneg h0 (by omega), Int.ediv_le_self b h0⟩
theorem next_f (s : List Int) (hb : Bytes s) (hs : s.length ≤ 1048576) (i m : Int) (h0 : 0 ≤ i) (h1 : i ≤ 1000000) (hm : m ≤ 1000000) :
    ∃ r, spec_l1Next.f s i m = some (r, i + 1) ∧ 0 ≤ r ∧ (1 ≤ m → r < m) ∧ (m < 1 → r = 0) := by
  simp only [spec_l1Next.f]
  rw [w64 (x := i + 1) (by omega) (by omega), show i + 1 - 1 = i by omega, w64 (x := i) (by omega) (by omega)]
  by_cases c1 : m < 1
  · exact ⟨0, if_pos c1, by omega, fun e => by omega, fun _ => rfl⟩
  rw [if_neg c1]
  by_cases c2 : (s.length : Int) = 0
  · rw [if_pos c2, if_neg (by omega), w64 (x := i * 7) (by omega) (by omega)]
    have := tmod_in (a := i * 7) (b := m) (by omega) (by omega)
    exact ⟨_, rfl, this.1, fun _ => this.2, fun e => absurd e c1⟩
  rw [if_neg c2]
  have hp := tmod_in (a := i) (b := (s.length : Int)) h0 (by omega)
  have hd := tdiv_in (a := i) (b := (s.length : Int)) h0 (by omega)
  have hr := rd_bytes hb (Int.tmod i (s.length : Int))
  rw [if_pos hp.1, if_pos hp.2]
  generalize rd s (Int.tmod i (s.length : Int)) = x at *
  generalize Int.tdiv i (s.length : Int) = q at *
  rw [w64 (x := x) (by omega) (by omega), w64 (x := q) (by omega) (by omega), w64 (x := q * 37) (by omega) (by omega), w64 (x := x + q * 37) (by omega) (by omega)]
  by_cases c3 : m > 200
  · rw [if_pos c3, w64 (x := i + 1) (by omega) (by omega)]
    have hp' := tmod_in (a := i + 1) (b := (s.length : Int)) (by omega) (by omega)
    have hr' := rd_bytes hb (Int.tmod (i + 1) (s.length : Int))
    rw [if_pos hp'.1, if_pos hp'.2, if_neg (by omega)]
    generalize rd s (Int.tmod (i + 1) (s.length : Int)) = y at *
    rw [w64 (x := y) (by omega) (by omega), w64 (x := y * 13) (by omega) (by omega), w64 (x := (x + q * 37) * 251) (by omega) (by omega), w64 (x := (x + q * 37) * 251 + y * 13) (by omega) (by omega), w64 (x := (x + q * 37) * 251 + y * 13 + i) (by omega) (by omega)]
    have := tmod_in (a := (x + q * 37) * 251 + y * 13 + i) (b := m) (by omega) (by omega)
    exact ⟨_, rfl, this.1, fun _ => this.2, fun e => absurd e c1⟩
  · rw [if_neg c3, if_neg (by omega)]
    have := tmod_in (a := x + q * 37) (b := m) (by omega) (by omega)
    exact ⟨_, rfl, this.1, fun _ => this.2, fun e => absurd e c1⟩
theorem pick_f (s : List Int) (hb : Bytes s) (hs : s.length ≤ 1048576) (i : Int) (l : List Int) (h0 : 0 ≤ i) (h1 : i ≤ 1000000) (hl : 1 ≤ l.length ∧ l.length ≤ 1000) :
    ∃ v, spec_l1Pick.f s i l = some (v, i + 1) ∧ v ∈ l := by
  obtain ⟨r, hr, hr0, hr1, _⟩ := next_f s hb hs i (l.length : Int) h0 h1 (by omega)
  have := hr1 (by omega)
  refine ⟨rd l r, ?_, rd_mem hr0 this⟩
  simp only [spec_l1Pick.f, hr, Option.bind_some]
  rw [if_pos hr0, if_pos this]
theorem mod_bytes (x : Int) : Bytes [x % 256] := by
  intro y hy
  simp only [List.mem_singleton] at hy
  subst hy
  omega
theorem byte_f (s : List Int) (hb : Bytes s) (hs : s.length ≤ 1048576) (i : Int) (h0 : 0 ≤ i) (h1 : i ≤ 900000) :
    ∃ b j, spec_l1Byte.f s i = some (b, j) ∧ Bytes b ∧ b.length ≤ 3 ∧ i ≤ j ∧ j ≤ i + 3 := by
  obtain ⟨r, hr, hr0, hr1, _⟩ := next_f s hb hs i 12 h0 (by omega) (by omega)
  simp only [spec_l1Byte.f, hr, Option.bind_some]
  by_cases c0 : r = 0
  · rw [if_pos c0]; exact ⟨_, _, rfl, by intro y hy; simp at hy; omega, by simp, by omega, by omega⟩
  rw [if_neg c0]
  by_cases c1 : r = 1
  · rw [if_pos c1]
    obtain ⟨v, hv, _⟩ := pick_f s hb hs (i + 1) [1, 27, 127, 13] (by omega) (by omega) (by simp)
    simp only [hv, Option.bind_some]
    exact ⟨_, _, rfl, mod_bytes _, by simp, by omega, by omega⟩
  rw [if_neg c1]
  by_cases c2 : r = 2
  · rw [if_pos c2]
    obtain ⟨v, hv, _⟩ := next_f s hb hs (i + 1) 128 (by omega) (by omega) (by omega)
    simp only [hv, Option.bind_some]
    exact ⟨_, _, rfl, mod_bytes _, by simp, by omega, by omega⟩
  rw [if_neg c2]
  by_cases c3 : r = 3
  · rw [if_pos c3]
    obtain ⟨v, hv, hm⟩ := pick_f s hb hs (i + 1) [228, 8364, 2047, 2048, 65535] (by omega) (by omega) (by simp)
    have hv' : isCh v := by
      simp only [List.mem_cons, List.not_mem_nil, or_false] at hm
      unfold isCh; omega
    simp only [hv, Option.bind_some]
    rw [spec_l1Encode_f v (by unfold isCh at hv'; omega) (by unfold isCh at hv'; omega)]
    exact ⟨_, _, rfl, enc_bytes hv', (enc_len v).2, by omega, by omega⟩
  rw [if_neg c3]
  obtain ⟨v, hv, _⟩ := next_f s hb hs (i + 1) 4 (by omega) (by omega) (by omega)
  simp only [hv, Option.bind_some]
  obtain ⟨u, hu, _⟩ := pick_f s hb hs (i + 1 + 1) [97, 98, 99, 32, wrap64 (97 + v)] (by omega) (by omega) (by simp)
  simp only [hu, Option.bind_some]
  exact ⟨_, _, rfl, mod_bytes _, by simp, by omega, by omega⟩
theorem line_l0 (s : List Int) (hb : Bytes s) (hs : s.length ≤ 1048576) : ∀ (d : Nat) (acc : List Int) (i : Int), d ≤ 10000 → acc.length + 3 * d ≤ 100000 → Bytes acc → 0 ≤ i → i + 3 * d ≤ 800000 →
    ∃ b j, Ev (fun k => spec_l1Line.l0 k acc (d : Int) s i) (b, j) ∧ Bytes b ∧ b.length ≤ acc.length + 3 * d ∧ i ≤ j ∧ j ≤ i + 3 * d := by
  intro d
  induction d with
  | zero =>
    intro acc i _ _ ha h0 h1
    refine ⟨acc, i, ?_, ha, by omega, by omega, by omega⟩
    refine Ev_shift ?_; simp only [spec_l1Line.l0]
    exact Ev_neg (by omega) (Ev.now _)
  | succ d ih =>
    intro acc i hd hl ha h0 h1
    obtain ⟨b, j, e, eb, el, j0, j1⟩ := byte_f s hb hs i h0 (by omega)
    obtain ⟨b', j', e', eb', el', j0', j1'⟩ := ih (acc ++ b) j (by omega) (by simp; omega) (ha.append eb) (by omega) (by omega)
    refine ⟨b', j', ?_, eb', by simp at el'; omega, by omega, by omega⟩
    refine Ev_shift ?_; simp only [spec_l1Line.l0]
    refine Ev_pos (by omega) (Ev.bind (Ev_eq e) (Ev_pos (by show acc.length + b.length < _; omega) ?_))
    rw [w64 (by omega) (by omega), show ((d + 1 : Nat) : Int) - 1 = (d : Int) by omega]
    exact e'
theorem line_ev (s : List Int) (hb : Bytes s) (hs : s.length ≤ 1048576) (i m : Int) (h0 : 0 ≤ i) (h1 : i ≤ 100000) (hm : 1 ≤ m ∧ m ≤ 10000) :
    ∃ b j, Ev (fun k => spec_l1Line.f k s i m) (b, j) ∧ Bytes b ∧ (b.length : Int) ≤ 3 * m ∧ i ≤ j ∧ j ≤ i + 1 + 3 * m := by
  obtain ⟨r, hr, hr0, hr1, _⟩ := next_f s hb hs i m h0 (by omega) (by omega)
  have := hr1 (by omega)
  obtain ⟨d, rfl⟩ := Int.eq_ofNat_of_zero_le hr0
  obtain ⟨b, j, e, eb, el, j0, j1⟩ := line_l0 s hb hs d [] (i + 1) (by omega) (by simp; omega) Bytes.nil (by omega) (by omega)
  refine ⟨b, j, ?_, eb, by simp at el; omega, by omega, by omega⟩
  simp only [spec_l1Line.f]
  exact Ev.bind (Ev_eq hr) e

def encR (a : Int) : Int × List Int := if isCh a then (0, enc a) else (3, [])
theorem isCh_bounds {a : Int} (h : isCh a) : 0 ≤ a ∧ a ≤ 65535 := by unfold isCh at h; omega
theorem spec_EncodeChar_f (a : Int) : spec_EncodeChar.f a = some (encR a) := by
  simp only [spec_EncodeChar.f, spec_l1Char_f, Option.bind_some, decide_eq_true_eq, encR]
  by_cases h : isCh a
  · have := isCh_bounds h
    rw [if_pos h, if_pos h, spec_l1Encode_f a this.1 this.2]; rfl
  · rw [if_neg h, if_neg h]
theorem impl_EncodeChar_f (a : Int) : impl_EncodeChar.f a = some (encR a) := by
  simp only [impl_EncodeChar.f, impl_isChar_f, Option.bind_some, decide_eq_true_eq, encR]
  by_cases h : isCh a
  · have := isCh_bounds h
    rw [if_pos h, if_pos h, impl_encoded_f a this.1 this.2]; rfl
  · rw [if_neg h, if_neg h]
theorem encR_len (a : Int) : (encR a).2.length ≤ 3 := by
  unfold encR; split
  · exact (enc_len a).2
  · simp

theorem drawDecode_ev (s : List Int) (hb : Bytes s) (hs : s.length ≤ 1048576) : ∃ b n, Ev (fun k => spec_DrawDecodeAt.f k s) (b, n) ∧ Bytes b ∧ b.length ≤ 16 ∧ -1 ≤ n ∧ n ≤ b.length := by
  obtain ⟨b, j, e, eb, el, j0, j1⟩ := line_ev s hb hs 0 5 (by omega) (by omega) (by omega)
  obtain ⟨r, hr, _⟩ := next_f s hb hs j 256 (by omega) (by omega) (by omega)
  obtain ⟨t, ht, ht0, ht1, _⟩ := next_f s hb hs (j + 1) (((b ++ [r % 256]).length : Int) + 2) (by omega) (by omega) (by simp; omega)
  have := ht1 (by simp; omega)
  refine ⟨b ++ [r % 256], t - 1, ?_, eb.append (mod_bytes _), by simp; omega, by omega, by omega⟩
  simp only [spec_DrawDecodeAt.f, spec_l1Source.f]
  refine Ev.bind (Ev_eq rfl) ?_
  refine Ev.bind e ?_
  refine Ev.bind (Ev_eq hr) (Ev_pos (by show b.length < _; omega) ?_)
  refine Ev.bind (Ev_eq rfl) ?_
  rw [w64 (by simp; omega) (by simp; omega)]
  refine Ev.bind (Ev_eq ht) ?_
  show Ev (fun _ => some (b ++ [r % 256], wrap64 (t - 1))) _
  simp only [List.length_append, List.length_singleton] at this
  rw [w64 (by omega) (by omega)]
  exact Ev.now _
theorem drawEncode_f (s : List Int) (hb : Bytes s) (hs : s.length ≤ 1048576) : ∃ c, spec_DrawEncodeChar.f s = some c := by
  obtain ⟨r, hr, _⟩ := next_f s hb hs 0 300 (by omega) (by omega) (by omega)
  obtain ⟨v, hv, _⟩ := pick_f s hb hs (0 + 1) [r, 127, 128, 2047, 2048, 55295, 55296, 57343, 57344, 65535, 65536, (-1)] (by omega) (by omega) (by simp)
  simp only [spec_DrawEncodeChar.f, spec_l1Source.f, Option.bind_some, hr, hv]
  exact ⟨_, rfl⟩
theorem decR_fin (l : List Int) (n : Int) (h : 0 ≤ n ∧ n.toNat < l.length) : decR l n = fin3 (decAt l n.toNat l[n.toNat]) := by
  unfold decR; rw [dif_pos h]; rfl
theorem decR_good (l : List Int) (hb : Bytes l) (n c z : Int) (h : decR l n = (0, c, z)) : 0 ≤ n ∧ 1 ≤ z ∧ z ≤ 3 ∧ n + z ≤ l.length ∧ isCh c ∧ enc c = (l.drop n.toNat).take z.toNat := by
  by_cases hn : 0 ≤ n ∧ n.toNat < l.length
  · rw [decR_fin l n hn, decAt_cases l hb n.toNat hn.2] at h
    have hd : (l.drop n.toNat).length = l.length - n.toNat := List.length_drop ..
    split at h
    · split at h
      · rename_i h2
        split at h
        · rename_i h3
          simp only [Prod.mk.injEq, true_and] at h
          obtain ⟨rfl, rfl⟩ := h
          exact ⟨hn.1, by omega, by omega, by omega, h3.1, h3.2⟩
        · simp at h
      · simp at h
    · split at h
      · split at h
        · rename_i h2
          split at h
          · rename_i h3
            simp only [Prod.mk.injEq, true_and] at h
            obtain ⟨rfl, rfl⟩ := h
            exact ⟨hn.1, by omega, by omega, by omega, h3.1, h3.2⟩
          · simp at h
        · simp at h
      · split at h
        · rename_i h3
          simp only [Prod.mk.injEq, true_and] at h
          obtain ⟨rfl, rfl⟩ := h
          exact ⟨hn.1, by omega, by omega, by omega, h3.1, h3.2⟩
        · simp at h
  · unfold decR at h; rw [dif_neg hn] at h; simp at h
theorem decR_enc (c : Int) (h : isCh c) (b : List Int) : decR (enc c ++ b) 0 = (0, c, ((enc c).length : Int)) := by
  have hc := isCh_bounds h
  by_cases c1 : c < 128
  · have e : enc c = [c] := by unfold enc; rw [if_pos c1]
    rw [e, decR_fin _ _ ⟨by omega, by simp⟩]
    show fin3 (decAt (c :: b) 0 c) = _
    unfold decAt; rw [if_pos c1]; rfl
  by_cases c2 : c < 2048
  · have e : enc c = [192 + c / 64, 128 + c % 64] := by unfold enc; rw [if_neg c1, if_pos c2]
    rw [e, decR_fin _ _ ⟨by omega, by simp⟩]
    show fin3 (decAt ((192 + c / 64) :: (128 + c % 64) :: b) 0 (192 + c / 64)) = _
    have k1 : contOf ((192 + c / 64) :: (128 + c % 64) :: b) (0 + 1) = c % 64 := by
      unfold contOf; rw [dif_pos (by simp)]; simp only [List.getElem_cons_succ, List.getElem_cons_zero]; rw [if_neg (by omega), if_neg (by omega)]; omega
    unfold decAt
    rw [k1, if_neg (by omega), if_pos (by omega), fin3_2]
    simp only [List.length_cons, List.length_nil, Prod.mk.injEq, true_and]
    exact ⟨by omega, rfl⟩
  · have e : enc c = [224 + c / 4096, 128 + c / 64 % 64, 128 + c % 64] := by unfold enc; rw [if_neg c1, if_neg c2]
    rw [e, decR_fin _ _ ⟨by omega, by simp⟩]
    show fin3 (decAt ((224 + c / 4096) :: (128 + c / 64 % 64) :: (128 + c % 64) :: b) 0 (224 + c / 4096)) = _
    have k1 : contOf ((224 + c / 4096) :: (128 + c / 64 % 64) :: (128 + c % 64) :: b) (0 + 1) = c / 64 % 64 := by
      unfold contOf; rw [dif_pos (by simp)]; simp only [List.getElem_cons_succ, List.getElem_cons_zero]; rw [if_neg (by omega), if_neg (by omega)]; omega
    have k2 : contOf ((224 + c / 4096) :: (128 + c / 64 % 64) :: (128 + c % 64) :: b) (0 + 2) = c % 64 := by
      unfold contOf; rw [dif_pos (by simp)]; simp only [List.getElem_cons_succ, List.getElem_cons_zero]; rw [if_neg (by omega), if_neg (by omega)]; omega
    have hv : (224 + c / 4096 - 224) * 4096 + c / 64 % 64 * 64 + c % 64 = c := by omega
    unfold decAt
    rw [k1, k2, hv, if_neg (by omega), if_neg (by omega), if_pos ⟨by omega, by omega, by omega, by omega, by omega, h⟩, fin3_3]
    rfl
theorem FnChars : laws_FnChars.Pure := by
  intro s hl hw
  refine Ev.rounds ?_
  simp only [laws_FnChars.f, laws_lwBig.f]
  refine Ev.bind (Ev_eq rfl) ?_
  by_cases h : (s.length : Int) > 1048576
  · exact Ev_pos (decide_eq_true h) (Ev.now _)
  refine Ev_neg (by simpa using h) ?_
  have hs : s.length ≤ 1048576 := by omega
  have hb := bytes_of_wf hw
  obtain ⟨b, n, e, eb, el, n0, n1⟩ := drawDecode_ev s hb hs
  have d1 := impl_DecodeAt_ev b eb (by omega) n
  have d2 := spec_DecodeAt_ev b eb (by omega) n
  -- the second half
  have half : Ev (fun k => laws_FnChars.j0 k s b false) true := by
    refine Ev_shift ?_; simp only [laws_FnChars.j0]
    obtain ⟨c, hc⟩ := drawEncode_f s hb hs
    refine Ev_neg (by simp) ?_
    refine Ev.bind (Ev_eq hc) ?_
    refine Ev.bind (Ev_eq (impl_EncodeChar_f c)) ?_
    have hel := encR_len c
    by_cases hch : isCh c
    · have hr : encR c = (0, enc c) := by unfold encR; rw [if_pos hch]
      rw [hr]
      rw [hr] at hel
      replace hel : (enc c).length ≤ 3 := hel
      refine Ev_pos (by first | trivial | rfl | simp) ?_
      refine Ev.bind (Ev_eq rfl) ?_
      refine Ev_pos (by simp only [List.length_nil]; omega) ?_
      refine Ev.bind (Ev_eq rfl) ?_
      refine Ev_pos (by simp only [List.nil_append]; omega) ?_
      have d3 := impl_DecodeAt_ev (enc c ++ b) ((enc_bytes hch).append eb) (by simp only [List.length_append]; omega) 0
      rw [decR_enc c hch b] at d3
      refine Ev.bind d3 ?_
      have := (enc_len c)
      exact Ev_pos (by first | trivial | rfl | simp) (Ev_pos (by first | trivial | rfl | simp) (Ev_pos (by first | trivial | rfl | simp) (Ev_pos (by show ((enc c).length : Int) ≥ 1; omega) (Ev_eq (congrArg some (decide_eq_true (by show ((enc c).length : Int) ≤ 3; omega)))))))
    · have hr : encR c = (3, []) := by unfold encR; rw [if_neg hch]
      refine Ev_neg (by rw [hr]; simp) ?_
      refine Ev.bind (Ev_eq (spec_EncodeChar_f c)) ?_
      exact Ev_eq (congrArg some (by simp))
  refine Ev.bind e ?_
  refine Ev.bind d1 ?_
  refine Ev.bind d2 (Ev_pos (by first | trivial | rfl | simp) ?_)
  by_cases h0 : (decR b n).1 = 0
  · refine Ev_pos h0 ?_
    obtain ⟨c, z, hr⟩ : ∃ c z, decR b n = (0, c, z) := ⟨(decR b n).2.1, (decR b n).2.2, by rw [← h0]⟩
    obtain ⟨g0, g1, g2, g3, g4, g5⟩ := decR_good b eb n c z hr
    simp only [hr]
    rw [w64 (x := n + z) (by omega) (by omega)]
    refine Ev_neg (by omega) (Ev_neg (by omega) ?_)
    refine Ev.bind (Ev_eq (impl_EncodeChar_f c)) ?_
    refine Ev_pos (by omega) (Ev_pos (by omega) (Ev_pos (by omega) ?_))
    have hq : (encR c).2 = (b.take (n + z).toNat).drop n.toNat := by
      unfold encR; rw [if_pos g4]
      show enc c = _
      rw [List.drop_take, show (n + z).toNat - n.toNat = z.toNat by omega]
      exact g5
    refine Ev.bind (a := true) (Ev_eq (by simp only [laws_lwSame.f]; rw [hq]; simp)) ?_
    exact half
  · exact Ev_neg h0 half

end Go.Proofs.Ytljpfppkpjodiaa.Pure
