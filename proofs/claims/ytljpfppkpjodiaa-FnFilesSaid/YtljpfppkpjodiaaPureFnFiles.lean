/- a file with more behind it, cut where it ended, is the file, and its parts make the whole. Under no condition. -/
import Derived.Test.YtljpfppkpjodiaaPFnFilesx6
set_option linter.unusedVariables false
set_option linter.unusedSimpArgs false
namespace Go.Proofs.Ytljpfppkpjodiaa.Pure
open Go.RowKit Go.Proofs.Ytljpfppkpjodiaa.PFnFiles Go.Proofs.YtljpfppkpjodiaaW.PrintWords Go.Proofs.YtljpfppkpjodiaaW.PrintLast

theorem w64 {x : Int} (h0 : -9223372036854775808 ≤ x) (h1 : x ≤ 9223372036854775807) : wrap64 x = x := by unfold wrap64; omega
theorem Ev_shift {α : Type} {g : Nat → Option α} {r : α} (h : Ev (fun k => g (k + 1)) r) : Ev g r := Ev.step (f := fun k => g (k + 1)) (fun _ => rfl) h
theorem Ev_pos {α : Type} {c : Prop} [Decidable c] (hc : c) {a b : Nat → Option α} {r : α} (h : Ev a r) : Ev (fun k => if c then a k else b k) r := by
  simpa only [if_pos hc] using h
theorem Ev_neg {α : Type} {c : Prop} [Decidable c] (hc : ¬ c) {a b : Nat → Option α} {r : α} (h : Ev b r) : Ev (fun k => if c then a k else b k) r := by
  simpa only [if_neg hc] using h
theorem Ev_pre {α β : Type} {g : Option α} {a : α} {f : Nat → α → Option β} {r : β} (h : g = some a) (k : Ev (fun n => f n a) r) : Ev (fun n => g.bind (f n)) r := by
  subst h; exact k
theorem Ev_eq {α : Type} {g : Option α} {r : α} (h : g = some r) : Ev (fun _ => g) r := by subst h; exact Ev.now r
theorem Ev_r {α : Type} {g : Nat → Option α} {r r' : α} (e : r = r') (h : Ev g r') : Ev g r := e ▸ h
theorem maxLen_le : maxLen ≤ 9223372036854775807 := by unfold maxLen; omega
theorem rd_nat (l : List Int) (i : Nat) (h : i < l.length) : rd l (i : Int) = l[i] := by simp [rd, h]
/-- A loop that fills a row with what it makes of another one's elements. -/
theorem fill_loop {α β : Type} (l : List α) (c : α → β) (G : Nat → List β → Int → Option (List β))
    (hend : ∀ x, Ev (fun k => G k x (l.length : Int)) x)
    (hstep : ∀ (i : Nat) (h : i < l.length) (x : List β) (r : List β), x.length = l.length → Ev (fun k => G k (x.set i (c l[i])) ((i : Int) + 1)) r → Ev (fun k => G k x (i : Int)) r)
    (x : List β) (hx : x.length = l.length) : Ev (fun k => G k x 0) (l.map c) := by
  have main : ∀ (d i : Nat) (x : List β), x.length = l.length → i + d = l.length → (∀ (j : Nat) (hj : j < i) (hl : j < l.length) (hx : j < x.length), x[j] = c l[j]) → Ev (fun k => G k x (i : Int)) (l.map c) := by
    intro d
    induction d with
    | zero =>
      intro i x hx hi hp
      obtain rfl : i = l.length := by omega
      have : x = l.map c := by
        apply List.ext_getElem (by simp [hx])
        intro j h1 h2
        rw [List.getElem_map]
        exact hp j (by omega) (by omega) h1
      rw [← this]
      exact hend x
    | succ d ih =>
      intro i x hx hi hp
      refine hstep i (by omega) x _ hx ?_
      have := ih (i + 1) (x.set i (c (l[i]'(by omega)))) (by simp [hx]) (by omega) (fun j hj hl hx' => by
        rw [List.getElem_set]
        split
        · rename_i e; subst e; rfl
        · exact hp j (by omega) hl (by simpa using hx'))
      simpa using this
  have := main l.length 0 x hx (by omega) (fun j hj => absurd hj (by omega))
  simpa using this
/-- A loop that goes through all places and finds nothing amiss. -/
theorem same_loop (n : Nat) (G : Nat → Int → Option Bool) (hend : Ev (fun k => G k (n : Int)) true)
    (hstep : ∀ i : Nat, i < n → Ev (fun k => G k ((i : Int) + 1)) true → Ev (fun k => G k (i : Int)) true) : Ev (fun k => G k 0) true := by
  have main : ∀ (d i : Nat), i + d = n → Ev (fun k => G k (i : Int)) true := by
    intro d
    induction d with
    | zero => intro i hi; obtain rfl : i = n := by omega
              exact hend
    | succ d ih =>
      intro i hi
      refine hstep i (by omega) ?_
      have := ih (i + 1) (by omega)
      simpa using this
  have := main n 0 (by omega)
  simpa using this

theorem and63 (x : Int) (h0 : 0 ≤ x) (h1 : x < 4611686018427387904) : Go.bits .and .i64 x 63 = x % 64 :=
  Go.bits_mask .i64 62 (by decide) (fun n a b => by rw [Go.IntKind.wrap_i64]; omega) 6 (by decide) x h0 h1
theorem dec_eq {p q : Prop} [Decidable p] [Decidable q] (h : p ↔ q) : decide p = decide q := decide_eq_decide.mpr h
theorem dec_false {p : Prop} [Decidable p] (h : ¬ p) : false = decide p := (decide_eq_false h).symm
theorem spec_l1In_f (a b c : Int) : spec_l1In.f a b c = some (decide (b ≤ a ∧ a ≤ c)) := by
  simp only [spec_l1In.f]
  by_cases h : a ≥ b
  · rw [if_pos h]; exact congrArg some (dec_eq (by first | omega | (unfold isCh; omega)))
  · rw [if_neg h]; exact congrArg some (dec_false (by omega))
theorem impl_within_f (a b c : Int) : impl_within.f a b c = some (decide (b ≤ a ∧ a ≤ c)) := by
  simp only [impl_within.f]
  by_cases h : b ≤ a
  · rw [if_pos h]; exact congrArg some (dec_eq (by first | omega | (unfold isCh; omega)))
  · rw [if_neg h]; exact congrArg some (dec_false (by omega))
def isCh (a : Int) : Prop := (0 ≤ a ∧ a ≤ 55295) ∨ (57344 ≤ a ∧ a ≤ 65535)
instance (a : Int) : Decidable (isCh a) := by unfold isCh; exact inferInstance
/-- The bytes of a character. -/
def enc (a : Int) : List Int := if a < 128 then [a] else if a < 2048 then [192 + a / 64, 128 + a % 64] else [224 + a / 4096, 128 + a / 64 % 64, 128 + a % 64]
theorem enc_len (a : Int) : 1 ≤ (enc a).length ∧ (enc a).length ≤ 3 := by unfold enc; split <;> (try split) <;> simp
theorem spec_l1Encode_f (a : Int) (h0 : 0 ≤ a) (h1 : a ≤ 65535) : spec_l1Encode.f a = some (enc a) := by
  simp only [spec_l1Encode.f, enc]
  rw [Int.tdiv_eq_ediv_of_nonneg h0, Int.tdiv_eq_ediv_of_nonneg h0, Int.tmod_eq_emod_of_nonneg h0]
  by_cases h : a < 128
  · rw [if_pos h, if_pos h]; congr 2; omega
  · rw [if_neg h, if_neg h]
    rw [w64 (x := a / 64) (by omega) (by omega), w64 (x := a / 4096) (by omega) (by omega)]
    rw [Int.tmod_eq_emod_of_nonneg (by omega : 0 ≤ a / 64)]
    rw [w64 (x := 192 + a / 64) (by omega) (by omega), w64 (x := 128 + a % 64) (by omega) (by omega), w64 (x := 224 + a / 4096) (by omega) (by omega), w64 (x := 128 + a / 64 % 64) (by omega) (by omega)]
    by_cases h2 : a < 2048
    · rw [if_pos h2, if_pos h2]; congr 2
      · omega
      · congr 1; omega
    · rw [if_neg h2, if_neg h2]; congr 2
      · omega
      · congr 1
        · omega
        · congr 1; omega
def Bytes (l : List Int) : Prop := ∀ x ∈ l, 0 ≤ x ∧ x ≤ 255
theorem Bytes.take {l : List Int} (h : Bytes l) (n : Nat) : Bytes (l.take n) := fun x hx => h x (List.mem_of_mem_take hx)
theorem Bytes.drop {l : List Int} (h : Bytes l) (n : Nat) : Bytes (l.drop n) := fun x hx => h x (List.mem_of_mem_drop hx)
theorem Bytes.append {l m : List Int} (h : Bytes l) (k : Bytes m) : Bytes (l ++ m) := fun x hx => (List.mem_append.1 hx).elim (h x) (k x)
theorem Bytes.nil : Bytes [] := fun _ h => by cases h
theorem bytes_of_wf {l : List Int} (h : ∀ x ∈ l, (Lit.int .u8 x).wf = true) : Bytes l := fun x hx => by
  have := h x hx
  simp [Lit.wf, IntKind.min, IntKind.max, IntKind.signed, IntKind.bits] at this
  omega
theorem u8_inj {a b : Int} (ha : 0 ≤ a ∧ a ≤ 255) (hb : 0 ≤ b ∧ b ≤ 255) (h : UInt8.ofNat a.toNat = UInt8.ofNat b.toNat) : a = b := by
  have := congrArg UInt8.toNat h
  simp only [UInt8.toNat_ofNat'] at this
  omega
theorem so_list (xs : List Int) : (strOfNums xs).toList = xs.map fun n => UInt8.ofNat n.toNat := by
  rw [Go.ByteArray.toList_eq]; rfl
theorem map_u8_inj : ∀ {xs ys : List Int}, Bytes xs → Bytes ys → (xs.map fun n => UInt8.ofNat n.toNat) = (ys.map fun n => UInt8.ofNat n.toNat) → xs = ys
  | [], [], _, _, _ => rfl
  | [], _ :: _, _, _, h => by simp at h
  | _ :: _, [], _, _, h => by simp at h
  | x :: xs, y :: ys, hx, hy, h => by
    simp only [List.map_cons, List.cons.injEq] at h
    rw [u8_inj (hx x (by simp)) (hy y (by simp)) h.1, map_u8_inj (fun z hz => hx z (by simp [hz])) (fun z hz => hy z (by simp [hz])) h.2]
theorem so_inj {xs ys : List Int} (hx : Bytes xs) (hy : Bytes ys) : (strOfNums xs).toList = (strOfNums ys).toList ↔ xs = ys := by
  rw [so_list, so_list]
  exact ⟨map_u8_inj hx hy, fun h => by rw [h]⟩

/-- What a byte that goes on a character tells; -1: it is none. -/
def contOf (l : List Int) (i : Nat) : Int := if h : i < l.length then (if l[i] < 128 then -1 else if l[i] > 191 then -1 else l[i] - 128) else -1
/-- The character that begins at a place, and its bytes; 0: there is none. -/
def decAt (l : List Int) (i : Nat) (b : Int) : Int × Int :=
  if b < 128 then (b, 1)
  else if 194 ≤ b ∧ b < 224 ∧ 0 ≤ contOf l (i + 1) then ((b - 192) * 64 + contOf l (i + 1), 2)
  else if 224 ≤ b ∧ b < 240 ∧ 0 ≤ contOf l (i + 1) ∧ 0 ≤ contOf l (i + 2) ∧ 2048 ≤ (b - 224) * 4096 + contOf l (i + 1) * 64 + contOf l (i + 2) ∧ isCh ((b - 224) * 4096 + contOf l (i + 1) * 64 + contOf l (i + 2)) then ((b - 224) * 4096 + contOf l (i + 1) * 64 + contOf l (i + 2), 3)
  else (0, 0)
theorem contOf_le (l : List Int) (i : Nat) : -1 ≤ contOf l i ∧ contOf l i ≤ 63 := by
  unfold contOf; split
  · split
    · omega
    · split <;> omega
  · omega
def decR (l : List Int) (a : Int) : Int × Int × Int :=
  if h : 0 ≤ a ∧ a.toNat < l.length then (if (decAt l a.toNat l[a.toNat]).2 = 0 then (5, 0, 0) else (0, (decAt l a.toNat l[a.toNat]).1, (decAt l a.toNat l[a.toNat]).2)) else (3, 0, 0)
def c2 (c b : Int) : Int := c * 64 + b % 64
def fin3 (p : Int × Int) : Int × Int × Int := if p.2 = 0 then (5, 0, 0) else (0, p.1, p.2)
theorem fin3_none : fin3 (0, 0) = (5, 0, 0) := rfl
theorem fin3_1 (c : Int) : fin3 (c, 1) = (0, c, 1) := rfl
theorem fin3_2 (c : Int) : fin3 (c, 2) = (0, c, 2) := rfl
theorem fin3_3 (c : Int) : fin3 (c, 3) = (0, c, 3) := rfl
theorem enc_bytes {c : Int} (h : isCh c) : Bytes (enc c) := by
  unfold isCh at h
  unfold enc
  intro x hx
  split at hx
  · simp at hx; omega
  · split at hx
    · simp at hx; omega
    · simp at hx; omega
theorem u8_63 (x : Int) (h : 0 ≤ x ∧ x ≤ 255) : wrap64 (Go.bits .and .u8 x 63) = x % 64 := by
  rw [Go.u8_and63 x h.1 (by omega), w64 (by omega) (by omega)]
theorem c2_w {c x : Int} (hc : 0 ≤ c ∧ c ≤ 1000000) (hx : 0 ≤ x ∧ x ≤ 255) : wrap64 (wrap64 (c * 64) + wrap64 (Go.bits .and .u8 x 63)) = c2 c x := by
  rw [u8_63 x hx, w64 (x := c * 64) (by omega) (by omega), w64 (by omega) (by omega)]; rfl
theorem c2_le {c x : Int} (hc : 0 ≤ c ∧ c ≤ 255) : 0 ≤ c2 c x ∧ c2 c x ≤ 1000000 := by unfold c2; omega
/-- Both ways of reading a character agree. -/
theorem decAt_cases (l : List Int) (hb : Bytes l) (i : Nat) (h : i < l.length) : fin3 (decAt l i l[i]) = ((if l[i] ≥ 224 then (if h2 : 2 < (l.drop i).length then (if isCh (c2 (c2 (l[i] - 224) (l.drop i)[1]) (l.drop i)[2]) ∧ enc (c2 (c2 (l[i] - 224) (l.drop i)[1]) (l.drop i)[2]) = (l.drop i).take 3 then (0, c2 (c2 (l[i] - 224) (l.drop i)[1]) (l.drop i)[2], 3) else (5, 0, 0)) else (5, 0, 0))
     else if l[i] ≥ 192 then (if h2 : 1 < (l.drop i).length then (if isCh (c2 (l[i] - 192) (l.drop i)[1]) ∧ enc (c2 (l[i] - 192) (l.drop i)[1]) = (l.drop i).take 2 then (0, c2 (l[i] - 192) (l.drop i)[1], 2) else (5, 0, 0)) else (5, 0, 0))
     else (if isCh l[i] ∧ enc l[i] = (l.drop i).take 1 then (0, l[i], 1) else (5, 0, 0))) : Int × Int × Int) := by
  have hx := hb l[i] (List.getElem_mem h)
  have e0 : l.drop i = l[i] :: l.drop (i + 1) := List.drop_eq_getElem_cons h
  by_cases h1 : l[i] < 128
  · rw [if_neg (by omega), if_neg (by omega), e0]
    have ha : decAt l i l[i] = (l[i], 1) := by unfold decAt; rw [if_pos h1]
    rw [ha, fin3_1, if_pos ⟨by unfold isCh; omega, by unfold enc; rw [if_pos h1]; rfl⟩]
  by_cases h2 : l[i] < 192
  · rw [if_neg (by omega), if_neg (by omega), e0]
    have ha : decAt l i l[i] = (0, 0) := by unfold decAt; rw [if_neg h1, if_neg (by omega), if_neg (by omega)]
    rw [ha, fin3_none, if_neg]
    rintro ⟨_, he⟩
    have := congrArg List.length he
    unfold enc at this
    rw [if_neg h1, if_pos (by omega)] at this
    simp only [List.length_cons, List.length_nil, List.length_take, List.length_drop] at this
    omega
  by_cases h3 : l[i] < 224
  · rw [if_neg (by omega), if_pos (by omega)]
    by_cases hl : i + 1 < l.length
    · have e1 : l.drop (i + 1) = l[i + 1] :: l.drop (i + 2) := List.drop_eq_getElem_cons hl
      have hy := hb l[i + 1] (List.getElem_mem hl)
      rw [dif_pos (by simp; omega)]
      have g1 : (l.drop i)[1]'(by simp; omega) = l[i + 1] := by simp
      rw [g1, e0, e1]
      have hc1 : contOf l (i + 1) = if l[i + 1] < 128 then -1 else if l[i + 1] > 191 then -1 else l[i + 1] - 128 := by unfold contOf; rw [dif_pos hl]
      by_cases good : 194 ≤ l[i] ∧ 128 ≤ l[i + 1] ∧ l[i + 1] ≤ 191
      · have hcv : contOf l (i + 1) = l[i + 1] - 128 := by rw [hc1, if_neg (by omega), if_neg (by omega)]
        have ha : decAt l i l[i] = ((l[i] - 192) * 64 + (l[i + 1] - 128), 2) := by unfold decAt; rw [if_neg h1, hcv, if_pos (by omega)]
        have hm : c2 (l[i] - 192) l[i + 1] = (l[i] - 192) * 64 + (l[i + 1] - 128) := by unfold c2; omega
        rw [ha, fin3_2, hm, if_pos]
        refine ⟨by unfold isCh; omega, ?_⟩
        unfold enc
        rw [if_neg (by omega), if_pos (by omega)]
        simp only [List.take_succ_cons, List.take_zero, List.cons.injEq, and_true]
        omega
      · have ha : decAt l i l[i] = (0, 0) := by
          unfold decAt; rw [if_neg h1, if_neg, if_neg (by omega)]
          rintro ⟨z1, _, z3⟩
          rw [hc1] at z3
          split at z3
          · omega
          · split at z3
            · omega
            · omega
        rw [ha, fin3_none, if_neg]
        rintro ⟨_, he⟩
        generalize hv : c2 (l[i] - 192) l[i + 1] = v at he
        simp only [c2] at hv
        unfold enc at he
        split at he
        · exact absurd (congrArg List.length he) (by simp only [List.length_cons, List.length_nil, List.length_take, List.length_drop]; omega)
        · split at he
          · simp only [List.take_succ_cons, List.take_zero, List.cons.injEq, and_true] at he
            omega
          · exact absurd (congrArg List.length he) (by simp only [List.length_cons, List.length_nil, List.length_take, List.length_drop]; omega)
    · rw [dif_neg (by simp; omega)]
      have hc1 : contOf l (i + 1) = -1 := by unfold contOf; rw [dif_neg hl]
      have ha : decAt l i l[i] = (0, 0) := by unfold decAt; rw [if_neg h1, hc1, if_neg (by omega), if_neg (by omega)]
      rw [ha, fin3_none]
  · rw [if_pos (by omega)]
    by_cases hl : i + 2 < l.length
    · have e1 : l.drop (i + 1) = l[i + 1] :: l.drop (i + 2) := List.drop_eq_getElem_cons (by omega)
      have e2 : l.drop (i + 2) = l[i + 2] :: l.drop (i + 3) := List.drop_eq_getElem_cons hl
      have hy := hb l[i + 1] (List.getElem_mem (by omega))
      have hz := hb l[i + 2] (List.getElem_mem hl)
      rw [dif_pos (by simp; omega)]
      have g1 : (l.drop i)[1]'(by simp; omega) = l[i + 1] := by simp
      have g2 : (l.drop i)[2]'(by simp; omega) = l[i + 2] := by simp
      rw [g1, g2, e0, e1, e2]
      have hc1 : contOf l (i + 1) = if l[i + 1] < 128 then -1 else if l[i + 1] > 191 then -1 else l[i + 1] - 128 := by unfold contOf; rw [dif_pos (by omega)]
      have hc2 : contOf l (i + 2) = if l[i + 2] < 128 then -1 else if l[i + 2] > 191 then -1 else l[i + 2] - 128 := by unfold contOf; rw [dif_pos hl]
      by_cases good : l[i] < 240 ∧ (128 ≤ l[i + 1] ∧ l[i + 1] ≤ 191) ∧ (128 ≤ l[i + 2] ∧ l[i + 2] ≤ 191) ∧ 2048 ≤ (l[i] - 224) * 4096 + (l[i + 1] - 128) * 64 + (l[i + 2] - 128) ∧ isCh ((l[i] - 224) * 4096 + (l[i + 1] - 128) * 64 + (l[i + 2] - 128))
      · obtain ⟨b1, b2, b3, b4, b5⟩ := good
        have hcv : contOf l (i + 1) = l[i + 1] - 128 := by rw [hc1, if_neg (by omega), if_neg (by omega)]
        have hcw : contOf l (i + 2) = l[i + 2] - 128 := by rw [hc2, if_neg (by omega), if_neg (by omega)]
        have ha : decAt l i l[i] = ((l[i] - 224) * 4096 + (l[i + 1] - 128) * 64 + (l[i + 2] - 128), 3) := by
          unfold decAt; rw [if_neg h1, hcv, hcw, if_neg (by omega), if_pos ⟨by omega, b1, by omega, by omega, b4, b5⟩]
        have hm : c2 (c2 (l[i] - 224) l[i + 1]) l[i + 2] = (l[i] - 224) * 4096 + (l[i + 1] - 128) * 64 + (l[i + 2] - 128) := by simp only [c2]; omega
        rw [ha, fin3_3, hm, if_pos]
        refine ⟨b5, ?_⟩
        unfold enc
        rw [if_neg (by omega), if_neg (by omega)]
        simp only [List.take_succ_cons, List.take_zero, List.cons.injEq, and_true]
        omega
      · have ha : decAt l i l[i] = (0, 0) := by
          unfold decAt; rw [if_neg h1, if_neg (by omega), if_neg]
          rintro ⟨_, z2, z3, z4, z5, z6⟩
          by_cases k1 : l[i + 1] < 128
          · rw [hc1, if_pos k1] at z3; omega
          by_cases k2 : l[i + 1] > 191
          · rw [hc1, if_neg k1, if_pos k2] at z3; omega
          by_cases k3 : l[i + 2] < 128
          · rw [hc2, if_pos k3] at z4; omega
          by_cases k4 : l[i + 2] > 191
          · rw [hc2, if_neg k3, if_pos k4] at z4; omega
          rw [hc1, hc2, if_neg k1, if_neg k2, if_neg k3, if_neg k4] at z5 z6
          exact good ⟨z2, by omega, by omega, z5, z6⟩
        rw [ha, fin3_none, if_neg]
        rintro ⟨hch, he⟩
        have hm := hch
        generalize hv : c2 (c2 (l[i] - 224) l[i + 1]) l[i + 2] = v at he hm
        simp only [c2] at hv
        unfold isCh at hm
        unfold enc at he
        split at he
        · exact absurd (congrArg List.length he) (by simp only [List.length_cons, List.length_nil, List.length_take, List.length_drop]; omega)
        · split at he
          · exact absurd (congrArg List.length he) (by simp only [List.length_cons, List.length_nil, List.length_take, List.length_drop]; omega)
          · simp only [List.take_succ_cons, List.take_zero, List.cons.injEq, and_true] at he
            have hq : c2 (c2 (l[i] - 224) l[i + 1]) l[i + 2] = (l[i] - 224) * 4096 + (l[i + 1] - 128) * 64 + (l[i + 2] - 128) := by simp only [c2]; omega
            rw [hq] at hch
            exact good ⟨by omega, by omega, by omega, by omega, hch⟩
    · rw [dif_neg (by simp; omega)]
      have hc2 : contOf l (i + 2) = -1 := by unfold contOf; rw [dif_neg hl]
      have ha : decAt l i l[i] = (0, 0) := by unfold decAt; rw [if_neg h1, if_neg (by omega), hc2, if_neg (by omega)]
      rw [ha, fin3_none]
theorem rd_bytes {l : List Int} (h : Bytes l) (i : Int) : 0 ≤ rd l i ∧ rd l i ≤ 255 := by
  unfold rd
  rw [List.getD_eq_getElem?_getD]
  by_cases hi : i.toNat < l.length
  · rw [List.getElem?_eq_getElem hi]; exact h _ (List.getElem_mem hi)
  · rw [List.getElem?_eq_none (by omega)]; simp
theorem rd_mem {l : List Int} {i : Int} (h0 : 0 ≤ i) (h : i < l.length) : rd l i ∈ l := by
  unfold rd
  rw [List.getD_eq_getElem?_getD, List.getElem?_eq_getElem (by omega : i.toNat < l.length)]
  exact List.getElem_mem _
theorem tmod_in {a b : Int} (h0 : 0 ≤ a) (h1 : 1 ≤ b) : 0 ≤ Int.tmod a b ∧ Int.tmod a b < b := ⟨Int.tmod_nonneg b h0, Int.tmod_lt_of_pos a (by omega)⟩
theorem tdiv_in {a b : Int} (h0 : 0 ≤ a) (h1 : 1 ≤ b) : 0 ≤ Int.tdiv a b ∧ Int.tdiv a b ≤ a := by
  rw [Int.tdiv_eq_ediv_of_nonneg h0]
  exact ⟨Int.ediv_nonneg h0 (by omega), Int.ediv_le_self b h0⟩
theorem next_f (s : List Int) (hb : Bytes s) (hs : s.length ≤ 1048576) (i m : Int) (h0 : 0 ≤ i) (h1 : i ≤ 1000000) (hm : m ≤ 1000000) :
    ∃ r, spec_l1Next.f s i m = some (r, i + 1) ∧ 0 ≤ r ∧ (1 ≤ m → r < m) ∧ (m < 1 → r = 0) := by
  simp only [spec_l1Next.f]
  rw [w64 (x := i + 1) (by omega) (by omega), show i + 1 - 1 = i by omega, w64 (x := i) (by omega) (by omega)]
  by_cases c1 : m < 1
  · exact ⟨0, if_pos c1, by omega, fun e => by omega, fun _ => rfl⟩
  rw [if_neg c1]
  by_cases c2 : (s.length : Int) = 0
  · rw [if_pos c2, if_neg (by omega), w64 (x := i * 7) (by omega) (by omega)]
    have := tmod_in (a := i * 7) (b := m) (by omega) (by omega)
    exact ⟨_, rfl, this.1, fun _ => this.2, fun e => absurd e c1⟩
  rw [if_neg c2]
  have hp := tmod_in (a := i) (b := (s.length : Int)) h0 (by omega)
  have hd := tdiv_in (a := i) (b := (s.length : Int)) h0 (by omega)
  have hr := rd_bytes hb (Int.tmod i (s.length : Int))
  rw [if_pos hp.1, if_pos hp.2]
  generalize rd s (Int.tmod i (s.length : Int)) = x at *
  generalize Int.tdiv i (s.length : Int) = q at *
  rw [w64 (x := x) (by omega) (by omega), w64 (x := q) (by omega) (by omega), w64 (x := q * 37) (by omega) (by omega), w64 (x := x + q * 37) (by omega) (by omega)]
  by_cases c3 : m > 200
  · rw [if_pos c3, w64 (x := i + 1) (by omega) (by omega)]
    have hp' := tmod_in (a := i + 1) (b := (s.length : Int)) (by omega) (by omega)
    have hr' := rd_bytes hb (Int.tmod (i + 1) (s.length : Int))
    rw [if_pos hp'.1, if_pos hp'.2, if_neg (by omega)]
    generalize rd s (Int.tmod (i + 1) (s.length : Int)) = y at *
    rw [w64 (x := y) (by omega) (by omega), w64 (x := y * 13) (by omega) (by omega), w64 (x := (x + q * 37) * 251) (by omega) (by omega), w64 (x := (x + q * 37) * 251 + y * 13) (by omega) (by omega), w64 (x := (x + q * 37) * 251 + y * 13 + i) (by omega) (by omega)]
    have := tmod_in (a := (x + q * 37) * 251 + y * 13 + i) (b := m) (by omega) (by omega)
    exact ⟨_, rfl, this.1, fun _ => this.2, fun e => absurd e c1⟩
  · rw [if_neg c3, if_neg (by omega)]
    have := tmod_in (a := x + q * 37) (b := m) (by omega) (by omega)
    exact ⟨_, rfl, this.1, fun _ => this.2, fun e => absurd e c1⟩
theorem pick_f (s : List Int) (hb : Bytes s) (hs : s.length ≤ 1048576) (i : Int) (l : List Int) (h0 : 0 ≤ i) (h1 : i ≤ 1000000) (hl : 1 ≤ l.length ∧ l.length ≤ 1000) :
    ∃ v, spec_l1Pick.f s i l = some (v, i + 1) ∧ v ∈ l := by
  obtain ⟨r, hr, hr0, hr1, _⟩ := next_f s hb hs i (l.length : Int) h0 h1 (by omega)
  have := hr1 (by omega)
  refine ⟨rd l r, ?_, rd_mem hr0 this⟩
  simp only [spec_l1Pick.f, hr, Option.bind_some]
  rw [if_pos hr0, if_pos this]
theorem mod_bytes (x : Int) : Bytes [x % 256] := by
  intro y hy
  simp only [List.mem_singleton] at hy
  subst hy
  omega
theorem byte_f (s : List Int) (hb : Bytes s) (hs : s.length ≤ 1048576) (i : Int) (h0 : 0 ≤ i) (h1 : i ≤ 900000) :
    ∃ b j, spec_l1Byte.f s i = some (b, j) ∧ Bytes b ∧ b.length ≤ 3 ∧ i ≤ j ∧ j ≤ i + 3 := by
  obtain ⟨r, hr, hr0, hr1, _⟩ := next_f s hb hs i 12 h0 (by omega) (by omega)
  simp only [spec_l1Byte.f, hr, Option.bind_some]
  by_cases c0 : r = 0
  · rw [if_pos c0]; exact ⟨_, _, rfl, by intro y hy; simp at hy; omega, by simp, by omega, by omega⟩
  rw [if_neg c0]
  by_cases c1 : r = 1
  · rw [if_pos c1]
    obtain ⟨v, hv, _⟩ := pick_f s hb hs (i + 1) [1, 27, 127, 13] (by omega) (by omega) (by simp)
    simp only [hv, Option.bind_some]
    exact ⟨_, _, rfl, mod_bytes _, by simp, by omega, by omega⟩
  rw [if_neg c1]
  by_cases c2 : r = 2
  · rw [if_pos c2]
    obtain ⟨v, hv, _⟩ := next_f s hb hs (i + 1) 128 (by omega) (by omega) (by omega)
    simp only [hv, Option.bind_some]
    exact ⟨_, _, rfl, mod_bytes _, by simp, by omega, by omega⟩
  rw [if_neg c2]
  by_cases c3 : r = 3
  · rw [if_pos c3]
    obtain ⟨v, hv, hm⟩ := pick_f s hb hs (i + 1) [228, 8364, 2047, 2048, 65535] (by omega) (by omega) (by simp)
    have hv' : isCh v := by
      simp only [List.mem_cons, List.not_mem_nil, or_false] at hm
      unfold isCh; omega
    simp only [hv, Option.bind_some]
    rw [spec_l1Encode_f v (by unfold isCh at hv'; omega) (by unfold isCh at hv'; omega)]
    exact ⟨_, _, rfl, enc_bytes hv', (enc_len v).2, by omega, by omega⟩
  rw [if_neg c3]
  obtain ⟨v, hv, _⟩ := next_f s hb hs (i + 1) 4 (by omega) (by omega) (by omega)
  simp only [hv, Option.bind_some]
  obtain ⟨u, hu, _⟩ := pick_f s hb hs (i + 1 + 1) [97, 98, 99, 32, wrap64 (97 + v)] (by omega) (by omega) (by simp)
  simp only [hu, Option.bind_some]
  exact ⟨_, _, rfl, mod_bytes _, by simp, by omega, by omega⟩
theorem line_l0 (s : List Int) (hb : Bytes s) (hs : s.length ≤ 1048576) : ∀ (d : Nat) (acc : List Int) (i : Int), d ≤ 10000 → acc.length + 3 * d ≤ 100000 → Bytes acc → 0 ≤ i → i + 3 * d ≤ 800000 →
    ∃ b j, Ev (fun k => spec_l1Line.l0 k acc (d : Int) s i) (b, j) ∧ Bytes b ∧ b.length ≤ acc.length + 3 * d ∧ i ≤ j ∧ j ≤ i + 3 * d := by
  intro d
  induction d with
  | zero =>
    intro acc i _ _ ha h0 h1
    refine ⟨acc, i, ?_, ha, by omega, by omega, by omega⟩
    refine Ev_shift ?_; simp only [spec_l1Line.l0]
    exact Ev_neg (by omega) (Ev.now _)
  | succ d ih =>
    intro acc i hd hl ha h0 h1
    obtain ⟨b, j, e, eb, el, j0, j1⟩ := byte_f s hb hs i h0 (by omega)
    obtain ⟨b', j', e', eb', el', j0', j1'⟩ := ih (acc ++ b) j (by omega) (by simp; omega) (ha.append eb) (by omega) (by omega)
    refine ⟨b', j', ?_, eb', by simp at el'; omega, by omega, by omega⟩
    refine Ev_shift ?_; simp only [spec_l1Line.l0]
    refine Ev_pos (by omega) (Ev.bind (Ev_eq e) (Ev_pos (by show acc.length + b.length < _; omega) ?_))
    rw [w64 (by omega) (by omega), show ((d + 1 : Nat) : Int) - 1 = (d : Int) by omega]
    exact e'
theorem line_ev (s : List Int) (hb : Bytes s) (hs : s.length ≤ 1048576) (i m : Int) (h0 : 0 ≤ i) (h1 : i ≤ 100000) (hm : 1 ≤ m ∧ m ≤ 10000) :
    ∃ b j, Ev (fun k => spec_l1Line.f k s i m) (b, j) ∧ Bytes b ∧ (b.length : Int) ≤ 3 * m ∧ i ≤ j ∧ j ≤ i + 1 + 3 * m := by
  obtain ⟨r, hr, hr0, hr1, _⟩ := next_f s hb hs i m h0 (by omega) (by omega)
  have := hr1 (by omega)
  obtain ⟨d, rfl⟩ := Int.eq_ofNat_of_zero_le hr0
  obtain ⟨b, j, e, eb, el, j0, j1⟩ := line_l0 s hb hs d [] (i + 1) (by omega) (by simp; omega) Bytes.nil (by omega) (by omega)
  refine ⟨b, j, ?_, eb, by simp at el; omega, by omega, by omega⟩
  simp only [spec_l1Line.f]
  exact Ev.bind (Ev_eq hr) e

theorem chance_f (s : List Int) (hb : Bytes s) (hs : s.length ≤ 1048576) (i m : Int) (h0 : 0 ≤ i) (h1 : i ≤ 1000000) (hm : m ≤ 1000000) : ∃ b, spec_l1Chance.f s i m = some (b, i + 1) := by
  obtain ⟨r, hr, _⟩ := next_f s hb hs i m h0 h1 hm
  exact ⟨_, by simp only [spec_l1Chance.f, hr, Option.bind_some]; rfl⟩
theorem l2Draw_l0 (s : List Int) (hb : Bytes s) (hs : s.length ≤ 1048576) : ∀ (d : Nat) (acc : List Int) (i : Int), d ≤ 1000 → acc.length + 31 * d + 18 ≤ 100000 → Bytes acc → 0 ≤ i → i + 31 * d + 20 ≤ 100000 →
    ∃ b j, Ev (fun k => spec_l2Draw.l0 k acc (d : Int) s i) (b, j) ∧ Bytes b ∧ b.length ≤ acc.length + 31 * d + 18 ∧ i ≤ j ∧ j ≤ i + 31 * d + 20 := by
  intro d
  induction d with
  | zero =>
    intro acc i _ _ ha h0 h1
    obtain ⟨c, hc⟩ := chance_f s hb hs i 2 h0 (by omega) (by omega)
    cases c with
    | true =>
      obtain ⟨b, j, e, eb, el, j0, j1⟩ := line_ev s hb hs (i + 1) 6 (by omega) (by omega) (by omega)
      refine ⟨acc ++ b, j, ?_, ha.append eb, by simp; omega, by omega, by omega⟩
      refine Ev_shift ?_; simp only [spec_l2Draw.l0]
      refine Ev_neg (by omega) (Ev.bind (Ev_eq hc) (Ev_pos (by first | trivial | rfl | simp) ?_))
      refine Ev.bind e (Ev_pos ?_ (Ev.now _))
      show acc.length + b.length < _; omega
    | false =>
      refine ⟨acc, i + 1, ?_, ha, by omega, by omega, by omega⟩
      refine Ev_shift ?_; simp only [spec_l2Draw.l0]
      exact Ev_neg (by omega) (Ev.bind (Ev_eq hc) (Ev_neg (by simp) (Ev.now _)))
  | succ d ih =>
    intro acc i hd hl ha h0 h1
    obtain ⟨b, j, e, eb, el, j0, j1⟩ := line_ev s hb hs i 10 h0 (by omega) (by omega)
    have ten : Bytes [10] := by intro y hy; simp at hy; omega
    obtain ⟨b', j', e', eb', el', j0', j1'⟩ := ih (acc ++ b ++ [10]) j (by omega) (by simp; omega) ((ha.append eb).append ten) (by omega) (by omega)
    refine ⟨b', j', ?_, eb', by simp at el'; omega, by omega, by omega⟩
    refine Ev_shift ?_; simp only [spec_l2Draw.l0]
    refine Ev_pos (by omega) (Ev.bind e (Ev_pos (by show acc.length + b.length < _; omega) ?_))
    refine Ev.bind (Ev_eq rfl) (Ev_pos (by show (acc ++ b).length < _; simp; omega) ?_)
    rw [w64 (by omega) (by omega), show ((d + 1 : Nat) : Int) - 1 = (d : Int) by omega]
    exact e'
theorem l2Draw_ev (s : List Int) (hb : Bytes s) (hs : s.length ≤ 1048576) (i : Int) (h0 : 0 ≤ i) (h1 : i ≤ 50000) : ∃ b j, Ev (fun k => spec_l2Draw.f k s i) (b, j) ∧ Bytes b ∧ b.length ≤ 400 ∧ i ≤ j ∧ j ≤ i + 300 := by
  obtain ⟨r, hr, hr0, hr1, _⟩ := next_f s hb hs i 7 h0 (by omega) (by omega)
  have := hr1 (by omega)
  obtain ⟨d, rfl⟩ := Int.eq_ofNat_of_zero_le hr0
  obtain ⟨b, j, e, eb, el, j0, j1⟩ := l2Draw_l0 s hb hs d [] (i + 1) (by omega) (by simp; omega) Bytes.nil (by omega) (by omega)
  refine ⟨b, j, ?_, eb, by simp at el; omega, by omega, by omega⟩
  simp only [spec_l2Draw.f]
  exact Ev.bind (Ev_eq hr) e
theorem l2Bent_ev (s : List Int) (hb : Bytes s) (hs : s.length ≤ 1048576) (i : Int) (h0 : 0 ≤ i) (h1 : i ≤ 40000) : ∃ b j, Ev (fun k => spec_l2Bent.f k s i) (b, j) ∧ Bytes b ∧ b.length ≤ 401 ∧ i ≤ j ∧ j ≤ i + 400 := by
  obtain ⟨c, hc⟩ := chance_f s hb hs i 20 h0 (by omega) (by omega)
  simp only [spec_l2Bent.f]
  cases c with
  | true =>
    obtain ⟨v, hv, hm⟩ := pick_f s hb hs (i + 1) [400, 401] (by omega) (by omega) (by simp)
    have hv' : v = 400 ∨ v = 401 := by simpa using hm
    refine ⟨List.replicate v.toNat 0, i + 1 + 1, Ev.bind (Ev_eq hc) (Ev_pos (by first | trivial | rfl | simp) (Ev.bind (Ev_eq hv) ?_)), ?_, by simp; omega, by omega, by omega⟩
    · exact Ev_pos (by show 0 ≤ v; omega) (Ev_pos (by show v.toNat ≤ _; omega) (Ev.now _))
    · intro y hy; have := (List.mem_replicate.1 hy).2; omega
  | false =>
    obtain ⟨b, j, e, eb, el, j0, j1⟩ := l2Draw_ev s hb hs (i + 1) (by omega) (by omega)
    refine ⟨b, j, ?_, eb, by omega, by omega, by omega⟩
    refine Ev.bind (Ev_eq hc) (Ev_neg (by simp) ?_)
    exact Ev.bind e (Ev.now _)

theorem f_dec_eq {p q : Prop} [Decidable p] [Decidable q] (h : p ↔ q) : decide p = decide q := decide_eq_decide.mpr h
theorem f_in (a b c : Int) : spec_l1In.f a b c = some (decide (b ≤ a ∧ a ≤ c)) := by
  simp only [spec_l1In.f]
  by_cases h : a ≥ b
  · rw [if_pos h]; exact congrArg some (f_dec_eq (by omega))
  · rw [if_neg h]; exact congrArg some (decide_eq_false (by omega)).symm
theorem f_within (a b c : Int) : impl_within.f a b c = some (decide (b ≤ a ∧ a ≤ c)) := by
  simp only [impl_within.f]
  by_cases h : b ≤ a
  · rw [if_pos h]; exact congrArg some (f_dec_eq (by omega))
  · rw [if_neg h]; exact congrArg some (decide_eq_false (by omega)).symm

theorem l2Fault_f (l : List Int) : spec_l2Fault.f [(⟨l⟩ : S45)] = some (if (l.length : Int) > 400 then 2 else 0) := by
  simp only [spec_l2Fault.f, rd_T45, List.length_singleton]
  by_cases h : (l.length : Int) > 400 <;> simp [h]
theorem isLong_f (l : List Int) : impl_isLong.f l = some (decide ((l.length : Int) > 400)) := rfl
theorem l1Copy_f (l : List Int) (h : l.length ≤ 1048576) : spec_l1Copy.f l = some l := by
  simp only [spec_l1Copy.f, Option.bind_some, List.length_nil, List.nil_append]
  rw [if_pos (by omega)]
theorem cloneB_f (l : List Int) (h : l.length ≤ 1048576) : slices_Clone_byte_byte.f l = some l := by
  simp only [slices_Clone_byte_byte.f, Option.bind_some, List.length_nil, List.nil_append]
  rw [if_pos (by omega)]

def appR (l d : List Int) : Int × List Int := if (l.length : Int) + (d.length : Int) > 400 then (2, []) else (0, l ++ d)
theorem appR_len (l d : List Int) : (appR l d).2.length ≤ 400 := by
  unfold appR
  split
  · simp
  · simp; omega
theorem spec_AppendFile_ev (l d : List Int) (hl : l.length ≤ 1048576) (hd : d.length ≤ 1048576) : Ev (fun k => spec_AppendFile.f k l d) (appR l d) := by
  simp only [spec_AppendFile.f]
  refine Ev.bind (Ev_eq (l2Fault_f l)) ?_
  unfold appR
  by_cases h : (l.length : Int) > 400
  · refine Ev_r (if_pos (by omega)) (Ev_neg (by rw [if_pos h]; omega) ?_)
    refine Ev_shift ?_; simp only [spec_AppendFile.j0, spec_l2Bad.f]
    exact Ev_pos (by first | trivial | rfl | simp) (Ev.bind (Ev_eq rfl) (Ev.now _))
  · refine Ev_pos (by rw [if_neg h]) ?_
    rw [w64 (by omega) (by omega)]
    refine Ev_shift ?_; simp only [spec_AppendFile.j0, spec_l2Bad.f]
    by_cases h2 : (l.length : Int) + (d.length : Int) > 400
    · exact Ev_r (if_pos h2) (Ev_pos (by simpa using h2) (Ev.bind (Ev_eq rfl) (Ev.now _)))
    · refine Ev_r (if_neg h2) (Ev_neg (by simpa using h2) (Ev.bind (Ev_eq (l1Copy_f l (by omega))) (Ev_pos (by omega) (Ev.now _))))
theorem impl_AppendFile_f (l d : List Int) (hl : l.length ≤ 1048576) (hd : d.length ≤ 1048576) : impl_AppendFile.f l d = some (appR l d) := by
  simp only [impl_AppendFile.f, isLong_f, Option.bind_some, decide_eq_true_eq]
  unfold appR
  by_cases h : (l.length : Int) > 400
  · rw [if_pos h, if_pos (by omega)]
  · rw [if_neg h, w64 (by omega) (by omega)]
    by_cases h2 : (l.length : Int) + (d.length : Int) > 400
    · rw [if_pos h2, if_pos (by omega)]
    · rw [if_neg h2, if_neg (by omega)]
      simp only [slices_Concat_byte_byte.f]
      rw [if_pos (by simp; omega)]
      simp

def cutR (l : List Int) (a : Int) : Int × List Int := if (l.length : Int) > 400 then (2, []) else if 0 ≤ a ∧ a ≤ l.length then (0, l.take a.toNat) else (3, [])
theorem cutR_len (l : List Int) (a : Int) : (cutR l a).2.length ≤ 400 := by
  unfold cutR
  split
  · simp
  · split
    · simp; omega
    · simp
theorem spec_CutFile_f (l : List Int) (a : Int) : spec_CutFile.f l a = some (cutR l a) := by
  simp only [spec_CutFile.f, l2Fault_f, Option.bind_some, f_in, spec_l2Bad.f, cutR]
  by_cases h : (l.length : Int) > 400
  · simp [h]
  · simp only [h, if_false, if_true, decide_eq_true_eq]
    by_cases h2 : 0 ≤ a ∧ a ≤ (l.length : Int)
    · rw [if_pos h2, if_pos h2, if_pos h2.1, if_pos h2.2, l1Copy_f _ (by simp; omega)]; rfl
    · rw [if_neg h2, if_neg h2]
theorem impl_CutFile_f (l : List Int) (a : Int) : impl_CutFile.f l a = some (cutR l a) := by
  simp only [impl_CutFile.f, isLong_f, Option.bind_some, f_within, cutR, decide_eq_true_eq]
  by_cases h : (l.length : Int) > 400
  · simp [h]
  · simp only [h, if_false]
    by_cases h2 : 0 ≤ a ∧ a ≤ (l.length : Int)
    · rw [if_pos h2, if_pos h2, if_pos h2.1, if_pos h2.2, cloneB_f _ (by simp; omega)]; rfl
    · rw [if_neg h2, if_neg h2]

def partF (l : List Int) (a n m : Int) : List Int := if a ≥ (l.length : Int) then [] else (l.drop a.toNat).take (min (min (((l.drop a.toNat).length : Nat) : Int) n) m).toNat
theorem partF_len (l : List Int) (a n m : Int) : (partF l a n m).length ≤ l.length := by
  unfold partF
  split
  · simp
  · simp; omega
theorem l1Min_f (a b : Int) : spec_l1Min.f a b = some (min a b) := by
  simp only [spec_l1Min.f]
  by_cases h : a < b
  · rw [if_pos h, show min a b = a by omega]
  · rw [if_neg h, show min a b = b by omega]
theorem l2Part_f (l : List Int) (hl : l.length ≤ 400) (a n m : Int) (h0 : 0 ≤ a) (hn : 0 ≤ n ∧ n ≤ 400) (hm : 1 ≤ m ∧ m ≤ 400) : spec_l2Part.f [(⟨l⟩ : S45)] a n m = some (partF l a n m) := by
  have hr : rd_T45 [(⟨l⟩ : S45)] 0 = ⟨l⟩ := rfl
  simp only [spec_l2Part.f, hr, l1Min_f, Option.bind_some]
  rw [if_pos (by simp)]
  unfold partF
  by_cases h : a ≥ (l.length : Int)
  · rw [if_pos h, if_pos h]
  · rw [if_neg h, if_neg h, w64 (x := (l.length : Int) - a) (by omega) (by omega)]
    have hd : (l.drop a.toNat).length = l.length - a.toNat := List.length_drop
    obtain ⟨q, hq⟩ : ∃ q : Int, min (min n m) ((l.length : Int) - a) = q := ⟨_, rfl⟩
    rw [hq, w64 (x := a + q) (by omega) (by omega), if_pos h0, if_pos (by omega), if_pos (by omega), l1Copy_f _ (by simp; omega)]
    simp only [Option.bind_some]
    rw [List.drop_take, show (a + q).toNat - a.toNat = (min (min (((l.drop a.toNat).length : Nat) : Int) n) m).toNat by omega]
theorem readPart_f (l : List Int) (a n m : Int) (h0 : 0 ≤ a) (hn : 0 ≤ n ∧ n ≤ 400) (hm : 1 ≤ m ∧ m ≤ 400) : impl_readPart.f l a n m = some (partF l a n m) := by
  unfold impl_readPart.f partF
  by_cases h : a ≥ (l.length : Int)
  · rw [if_pos h, if_pos h]
  · rw [if_neg h, if_neg h, if_pos h0, if_pos (by omega)]
def partR (l : List Int) (a n m : Int) : Int × List Int := if (l.length : Int) > 400 then (2, []) else if 0 ≤ a ∧ (0 ≤ n ∧ n ≤ 400) ∧ (1 ≤ m ∧ m ≤ 400) then (0, partF l a n m) else (3, [])
theorem partR_len (l : List Int) (a n m : Int) : (partR l a n m).2.length ≤ l.length := by
  unfold partR
  split
  · simp
  · split
    · exact partF_len l a n m
    · simp
theorem spec_ReadPart_f (l : List Int) (a n m : Int) : spec_ReadPart.f l a n m = some (partR l a n m) := by
  simp only [spec_ReadPart.f, l2Fault_f, f_in, Option.bind_some, partR, decide_eq_true_eq]
  by_cases h : (l.length : Int) > 400
  · simp [h]
  · rw [if_neg h, if_pos rfl, if_neg h]
    by_cases c1 : a < 0
    · rw [if_pos c1, if_neg (by omega)]
    · rw [if_neg c1]
      by_cases c2 : 0 ≤ n ∧ n ≤ 400
      · rw [if_pos c2]
        by_cases c3 : 1 ≤ m ∧ m ≤ 400
        · rw [if_pos c3, if_pos ⟨by omega, c2, c3⟩, l2Part_f l (by omega) a n m (by omega) c2 c3]; rfl
        · rw [if_neg c3, if_neg (fun e => c3 e.2.2)]
      · rw [if_neg c2, if_neg (fun e => c2 e.2.1)]
theorem impl_ReadPart_ev (l : List Int) (a n m : Int) : Ev (fun k => impl_ReadPart.f k l a n m) (partR l a n m) := by
  simp only [impl_ReadPart.f, isLong_f, f_within, impl_isMost.f]
  refine Ev.bind (Ev_eq rfl) ?_
  unfold partR
  by_cases h : (l.length : Int) > 400
  · exact Ev_r (if_pos h) (Ev_pos (decide_eq_true h) (Ev.now _))
  · refine Ev_r (if_neg h) (Ev_neg (by simpa using h) ?_)
    have bad : ¬ (0 ≤ a ∧ (0 ≤ n ∧ n ≤ 400) ∧ (1 ≤ m ∧ m ≤ 400)) → Ev (fun k => impl_ReadPart.j0 k a n m true l) (if 0 ≤ a ∧ (0 ≤ n ∧ n ≤ 400) ∧ (1 ≤ m ∧ m ≤ 400) then (0, partF l a n m) else (3, [])) := by
      intro e
      refine Ev_r (if_neg e) (Ev_shift ?_); simp only [impl_ReadPart.j0]
      exact Ev_pos (by first | trivial | rfl | simp) (Ev.now _)
    by_cases c1 : a < 0
    · exact Ev_pos c1 (bad (by omega))
    · refine Ev_neg c1 (Ev.bind (Ev_eq rfl) ?_)
      by_cases c2 : 0 ≤ n ∧ n ≤ 400
      · refine Ev_pos (decide_eq_true c2) (Ev.bind (a := decide (1 ≤ m ∧ m ≤ 400)) (Ev_eq rfl) ?_)
        by_cases c3 : 1 ≤ m ∧ m ≤ 400
        · rw [decide_eq_true c3]
          refine Ev_r (if_pos ⟨by omega, c2, c3⟩) (Ev_shift ?_); simp only [impl_ReadPart.j0]
          have := partF_len l a n m
          refine Ev_neg (by simp) ?_
          refine Ev.bind (Ev_eq (readPart_f l a n m (by omega) c2 c3)) ?_
          exact Ev.bind (Ev_eq (cloneB_f _ (by omega))) (Ev.now _)
        · rw [decide_eq_false c3]
          exact bad (fun e => c3 e.2.2)
      · exact Ev_neg (by simpa using c2) (bad (fun e => c2 e.2.1))

theorem same_self (l : List Int) : laws_lwSame.f l l = some true := by simp [laws_lwSame.f]
theorem long_ev (s : List Int) (hb : Bytes s) (hs : s.length ≤ 1048576) (i : Int) (h0 : 0 ≤ i) (h1 : i ≤ 40000) : ∃ b j, Ev (fun k => spec_l1Long.f k s i) (b, j) ∧ Bytes b ∧ b.length ≤ 401 := by
  obtain ⟨c, hc⟩ := chance_f s hb hs i 30 h0 (by omega) (by omega)
  simp only [spec_l1Long.f]
  cases c with
  | true =>
    obtain ⟨v, hv, hm⟩ := pick_f s hb hs (i + 1) [400, 401] (by omega) (by omega) (by simp)
    have hv' : v = 400 ∨ v = 401 := by simpa using hm
    refine ⟨List.replicate v.toNat 0, i + 1 + 1, Ev.bind (Ev_eq hc) (Ev_pos (by first | trivial | rfl | simp) (Ev.bind (Ev_eq hv) ?_)), ?_, by simp; omega⟩
    · exact Ev_pos (by show 0 ≤ v; omega) (Ev_pos (by show v.toNat ≤ _; omega) (Ev.now _))
    · intro y hy; have := (List.mem_replicate.1 hy).2; omega
  | false =>
    obtain ⟨b, j, e, eb, el, j0, j1⟩ := line_ev s hb hs (i + 1) 12 (by omega) (by omega) (by omega)
    refine ⟨b, j, ?_, eb, by omega⟩
    refine Ev.bind (Ev_eq hc) (Ev_neg (by simp) ?_)
    exact Ev.bind e (Ev.now _)
theorem lwAt_f (s : List Int) (hb : Bytes s) (hs : s.length ≤ 1048576) (m : Int) (h0 : 1 ≤ m) (h1 : m ≤ 1000) : ∃ t, laws_lwAt.f s 3 m = some t ∧ 0 ≤ t ∧ t < m := by
  simp only [laws_lwAt.f]
  by_cases c1 : m ≤ 1
  · exact ⟨0, if_pos c1, by omega, by omega⟩
  rw [if_neg c1]
  by_cases c2 : (s.length : Int) = 0
  · rw [if_pos c2, if_neg (by omega), w64 (x := 3 * 7) (by omega) (by omega)]
    have := tmod_in (a := 3 * 7) (b := m) (by omega) (by omega)
    exact ⟨_, rfl, this.1, this.2⟩
  rw [if_neg c2]
  have hp := tmod_in (a := 3) (b := (s.length : Int)) (by omega) (by omega)
  have hd := tdiv_in (a := 3) (b := (s.length : Int)) (by omega) (by omega)
  have hr := rd_bytes hb (Int.tmod 3 (s.length : Int))
  rw [if_pos hp.1, if_pos hp.2]
  generalize rd s (Int.tmod 3 (s.length : Int)) = x at *
  generalize Int.tdiv 3 (s.length : Int) = q at *
  rw [w64 (x := x) (by omega) (by omega), w64 (x := q) (by omega) (by omega), w64 (x := q * 3) (by omega) (by omega), w64 (x := x + q * 3) (by omega) (by omega)]
  by_cases c3 : m > 200
  · rw [if_pos c3, w64 (x := (3 : Int) + 1) (by omega) (by omega)]
    have hp' := tmod_in (a := 3 + 1) (b := (s.length : Int)) (by omega) (by omega)
    have hr' := rd_bytes hb (Int.tmod (3 + 1) (s.length : Int))
    rw [if_pos hp'.1, if_pos hp'.2, if_neg (by omega)]
    generalize rd s (Int.tmod (3 + 1) (s.length : Int)) = y at *
    rw [w64 (x := y) (by omega) (by omega), w64 (x := (x + q * 3) * 251) (by omega) (by omega), w64 (x := (x + q * 3) * 251 + y) (by omega) (by omega)]
    have := tmod_in (a := (x + q * 3) * 251 + y) (b := m) (by omega) (by omega)
    exact ⟨_, rfl, this.1, this.2⟩
  · rw [if_neg c3, if_neg (by omega)]
    have := tmod_in (a := x + q * 3) (b := m) (by omega) (by omega)
    exact ⟨_, rfl, this.1, this.2⟩
theorem drawAppend_ev (s : List Int) (hb : Bytes s) (hs : s.length ≤ 1048576) : ∃ f x, Ev (fun k => spec_DrawAppendFile.f k s) (f, x) ∧ f.length ≤ 401 ∧ x.length ≤ 401 := by
  obtain ⟨f, j, e, eb, el, j0, j1⟩ := l2Bent_ev s hb hs 0 (by omega) (by omega)
  obtain ⟨x, j', e', eb', el'⟩ := long_ev s hb hs j (by omega) (by omega)
  refine ⟨f, x, ?_, el, el'⟩
  simp only [spec_DrawAppendFile.f, spec_l1Source.f]
  exact Ev.bind (Ev_eq rfl) (Ev.bind e (Ev.bind e' (Ev.now _)))
theorem drawCut_ev (s : List Int) (hb : Bytes s) (hs : s.length ≤ 1048576) : ∃ f a, Ev (fun k => spec_DrawCutFile.f k s) (f, a) := by
  obtain ⟨f, j, e, eb, el, j0, j1⟩ := l2Bent_ev s hb hs 0 (by omega) (by omega)
  obtain ⟨v, hv, _⟩ := next_f s hb hs j ((f.length : Int) + 3) (by omega) (by omega) (by omega)
  refine ⟨f, wrap64 (v - 1), ?_⟩
  simp only [spec_DrawCutFile.f, spec_l1Source.f]
  refine Ev.bind (Ev_eq rfl) (Ev.bind e ?_)
  show Ev (fun n => (spec_l1Next.f s j (wrap64 ((f.length : Int) + 3))).bind _) _
  rw [w64 (x := (f.length : Int) + 3) (by omega) (by omega)]
  exact Ev.bind (Ev_eq hv) (Ev.now _)
theorem drawRead_ev (s : List Int) (hb : Bytes s) (hs : s.length ≤ 1048576) : ∃ f a b c, Ev (fun k => spec_DrawReadPart.f k s) (f, a, b, c) := by
  obtain ⟨f, j, e, eb, el, j0, j1⟩ := l2Bent_ev s hb hs 0 (by omega) (by omega)
  obtain ⟨v, hv, _⟩ := next_f s hb hs j ((f.length : Int) + 5) (by omega) (by omega) (by omega)
  obtain ⟨v1, hv1, _⟩ := next_f s hb hs (j + 1) 20 (by omega) (by omega) (by omega)
  obtain ⟨v2, hv2, _⟩ := next_f s hb hs (j + 1 + 1) 20 (by omega) (by omega) (by omega)
  obtain ⟨v3, hv3, _⟩ := pick_f s hb hs (j + 1 + 1 + 1) [v1, v2, 400, 401, (-1)] (by omega) (by omega) (by simp)
  obtain ⟨v4, hv4, _⟩ := next_f s hb hs (j + 1 + 1 + 1 + 1) 9 (by omega) (by omega) (by omega)
  obtain ⟨v5, hv5, _⟩ := pick_f s hb hs (j + 1 + 1 + 1 + 1 + 1) [wrap64 (1 + v4), 400, 0] (by omega) (by omega) (by simp)
  refine ⟨f, wrap64 (v - 1), v3, v5, ?_⟩
  simp only [spec_DrawReadPart.f, spec_l1Source.f]
  refine Ev.bind (Ev_eq rfl) (Ev.bind e ?_)
  show Ev (fun n => (spec_l1Next.f s j (wrap64 ((f.length : Int) + 5))).bind _) _
  rw [w64 (x := (f.length : Int) + 5) (by omega) (by omega)]
  exact Ev.bind (Ev_eq hv) (Ev.bind (Ev_eq hv1) (Ev.bind (Ev_eq hv2) (Ev.bind (Ev_eq hv3) (Ev.bind (Ev_eq hv4) (Ev.bind (Ev_eq hv5) (Ev.now _))))))
theorem part_small (l : List Int) (a n m : Int) (h : (partR l a n m).1 = 0) : ((partR l a n m).2.length : Int) ≤ m ∧ ((partR l a n m).2.length : Int) ≤ n := by
  unfold partR at h ⊢
  by_cases c : (l.length : Int) > 400
  · rw [if_pos c] at h; exact absurd h (by simp)
  rw [if_neg c] at h ⊢
  by_cases d : 0 ≤ a ∧ (0 ≤ n ∧ n ≤ 400) ∧ (1 ≤ m ∧ m ≤ 400)
  · rw [if_pos d]
    unfold partF
    dsimp only
    split
    · simp; omega
    · rw [List.length_take]; omega
  · rw [if_neg d] at h; exact absurd h (by simp)
theorem part_head (f : List Int) (hf : f.length ≤ 400) (t : Int) (h0 : 0 ≤ t) (h1 : t ≤ f.length) : partR f 0 t 400 = (0, f.take t.toNat) := by
  unfold partR
  rw [if_neg (by omega), if_pos (by omega)]
  unfold partF
  by_cases c : (0 : Int) ≥ (f.length : Int)
  · rw [if_pos c]
    have : f = [] := List.length_eq_zero_iff.1 (by omega)
    subst this; simp
  · rw [if_neg c]
    show ((0 : Int), (f.drop (0 : Int).toNat).take (min (min (((f.drop (0 : Int).toNat).length : Nat) : Int) t) 400).toNat) = _
    rw [show (0 : Int).toNat = 0 from rfl, List.drop_zero, show (min (min ((f.length : Nat) : Int) t) 400).toNat = t.toNat by omega]
theorem part_tail (f : List Int) (hf : f.length ≤ 400) (t : Int) (h0 : 0 ≤ t) (h1 : t ≤ f.length) : partR f t 400 400 = (0, f.drop t.toNat) := by
  unfold partR
  rw [if_neg (by omega), if_pos (by omega)]
  unfold partF
  by_cases c : t ≥ (f.length : Int)
  · rw [if_pos c, List.drop_of_length_le (by omega)]
  · rw [if_neg c, List.take_of_length_le]
    rw [List.length_drop]; omega
theorem FnFiles : laws_FnFiles.Pure := by
  intro s hl hw
  refine Ev.rounds ?_
  simp only [laws_FnFiles.f, laws_lwBig.f]
  refine Ev.bind (Ev_eq rfl) ?_
  by_cases h : (s.length : Int) > 1048576
  · exact Ev_pos (decide_eq_true h) (Ev.now _)
  refine Ev_neg (by simpa using h) ?_
  have hs : s.length ≤ 1048576 := by omega
  have hb := bytes_of_wf hw
  obtain ⟨f, x, e1, hf, hx⟩ := drawAppend_ev s hb hs
  refine Ev.bind e1 ?_
  dsimp only
  have ha := Ev_eq (impl_AppendFile_f f x (by omega) (by omega))
  have ha' := spec_AppendFile_ev f x (by omega) (by omega)
  unfold appR at ha ha'
  by_cases c : (f.length : Int) + (x.length : Int) > 400
  · rw [if_pos c] at ha ha'
    refine Ev.bind ha (Ev_neg (by simp) ?_)
    refine Ev.bind ha' (Ev_pos (by first | trivial | rfl | simp) ?_)
    refine Ev.bind (a := if (f.length : Int) > 400 then 2 else 0) (Ev_eq ?_) (Ev.bind (a := if (f.length : Int) > 400 then 2 else 0) (Ev_eq ?_) (Ev_eq (by simp)))
    · simp only [impl_FileFault.f, isLong_f, Option.bind_some, decide_eq_true_eq]; split <;> rfl
    · simp only [spec_FileFault.f, l2Fault_f, Option.bind_some]
  · rw [if_neg c] at ha
    refine Ev.bind ha (Ev_pos (by first | trivial | rfl | simp) ?_)
    dsimp only
    have h2 : impl_CutFile.f (f ++ x) (f.length : Int) = some (0, f) := by
      rw [impl_CutFile_f]; unfold cutR
      rw [if_neg (by rw [List.length_append]; omega), if_pos ⟨by omega, by rw [List.length_append]; omega⟩, Int.toNat_natCast, List.take_left]
    refine Ev.bind (Ev_eq h2) ?_
    rw [w64 (x := (f.length : Int) + 1) (by omega) (by omega)]
    obtain ⟨t, ht, t0, t1⟩ := lwAt_f s hb hs ((f.length : Int) + 1) (by omega) (by omega)
    refine Ev.bind (Ev_eq ht) ?_
    have r1 := impl_ReadPart_ev f 0 t 400
    have r2 := impl_ReadPart_ev f t 400 400
    rw [part_head f (by omega) t t0 (by omega)] at r1
    rw [part_tail f (by omega) t t0 (by omega)] at r2
    refine Ev.bind r1 (Ev.bind r2 ?_)
    obtain ⟨f2, a, b, d, e3⟩ := drawRead_ev s hb hs
    refine Ev.bind e3 ?_
    dsimp only
    have r3 := impl_ReadPart_ev f2 a b d
    have r3' := Ev_eq (spec_ReadPart_f f2 a b d)
    have r4 := part_small f2 a b d
    generalize partR f2 a b d = q at *
    obtain ⟨q1, q2⟩ := q
    dsimp only at r4
    refine Ev.bind r3 ?_
    obtain ⟨f3, a3, e4⟩ := drawCut_ev s hb hs
    refine Ev.bind e4 ?_
    have r5 := Ev_eq (impl_CutFile_f f3 a3)
    have r5' := Ev_eq (spec_CutFile_f f3 a3)
    generalize cutR f3 a3 = p at *
    refine Ev_pos (by first | trivial | rfl | simp) (Ev.bind (Ev_eq (same_self f)) (Ev_pos (by first | trivial | rfl | simp) (Ev_pos (by omega) (Ev_pos (by rw [List.length_append]; omega) ?_))))
    refine Ev.bind (a := true) (Ev_eq (by rw [Int.toNat_natCast, List.drop_left]; exact same_self x)) (Ev_pos (by first | trivial | rfl | simp) ?_)
    refine Ev.bind (Ev_eq rfl) (Ev_pos (by simp; omega) (Ev.bind (Ev_eq rfl) (Ev_pos (by simp; omega) ?_)))
    refine Ev.bind (a := true) (Ev_eq (by rw [List.nil_append, List.take_append_drop]; exact same_self f)) (Ev_pos (by first | trivial | rfl | simp) ?_)
    refine Ev.bind r3' (Ev_pos (by first | trivial | rfl | simp) ?_)
    have fin : (some (((f ++ x).length : Int) == wrap64 ((f.length : Int) + (x.length : Int))) : Option Bool) = some true := by
      rw [w64 (x := (f.length : Int) + (x.length : Int)) (by omega) (by omega)]; simp
    by_cases z : q1 = 0
    · obtain ⟨z1, z2⟩ := r4 z
      refine Ev_pos z (Ev_pos z1 (Ev_pos z2 (Ev.bind r3' ?_)))
      refine Ev.bind (Ev_eq (same_self q2)) (Ev_pos (by first | trivial | rfl | simp) ?_)
      exact Ev.bind r5 (Ev.bind r5' (Ev_pos (by first | trivial | rfl | simp) (Ev_eq fin)))
    · refine Ev_neg z ?_
      exact Ev.bind r5 (Ev.bind r5' (Ev_pos (by first | trivial | rfl | simp) (Ev_eq fin)))

end Go.Proofs.Ytljpfppkpjodiaa.Pure
