/- the lines of a file, with their line feeds, make the whole. Under no condition. -/
import Derived.Test.YtljpfppkpjodiaaPFnLinesx4
set_option linter.unusedVariables false
set_option linter.unusedSimpArgs false
namespace Go.Proofs.Ytljpfppkpjodiaa.Pure
open Go.RowKit Go.Proofs.Ytljpfppkpjodiaa.PFnLines Go.Proofs.YtljpfppkpjodiaaW.PrintWords Go.Proofs.YtljpfppkpjodiaaW.PrintLast

theorem w64 {x : Int} (h0 : -9223372036854775808 ≤ x) (h1 : x ≤ 9223372036854775807) : wrap64 x = x := by unfold wrap64; omega
theorem Ev_shift {α : Type} {g : Nat → Option α} {r : α} (h : Ev (fun k => g (k + 1)) r) : Ev g r := Ev.step (f := fun k => g (k + 1)) (fun _ => rfl) h
theorem Ev_pos {α : Type} {c : Prop} [Decidable c] (hc : c) {a b : Nat → Option α} {r : α} (h : Ev a r) : Ev (fun k => if c then a k else b k) r := by
  simpa only [if_pos hc] using h
theorem Ev_neg {α : Type} {c : Prop} [Decidable c] (hc : ¬ c) {a b : Nat → Option α} {r : α} (h : Ev b r) : Ev (fun k => if c then a k else b k) r := by
  simpa only [if_neg hc] using h
theorem Ev_pre {α β : Type} {g : Option α} {a : α} {f : Nat → α → Option β} {r : β} (h : g = some a) (k : Ev (fun n => f n a) r) : Ev (fun n => g.bind (f n)) r := by
  subst h; exact k
theorem Ev_eq {α : Type} {g : Option α} {r : α} (h : g = some r) : Ev (fun _ => g) r := by subst h; exact Ev.now r
theorem Ev_r {α : Type} {g : Nat → Option α} {r r' : α} (e : r = r') (h : Ev g r') : Ev g r := e ▸ h
theorem maxLen_le : maxLen ≤ 9223372036854775807 := by unfold maxLen; omega
theorem rd_nat (l : List Int) (i : Nat) (h : i < l.length) : rd l (i : Int) = l[i] := by simp [rd, h]
/-- A loop that fills a row with what it makes of another one's elements. -/
theorem fill_loop {α β : Type} (l : List α) (c : α → β) (G : Nat → List β → Int → Option (List β))
    (hend : ∀ x, Ev (fun k => G k x (l.length : Int)) x)
    (hstep : ∀ (i : Nat) (h : i < l.length) (x : List β) (r : List β), x.length = l.length → Ev (fun k => G k (x.set i (c l[i])) ((i : Int) + 1)) r → Ev (fun k => G k x (i : Int)) r)
    (x : List β) (hx : x.length = l.length) : Ev (fun k => G k x 0) (l.map c) := by
  have main : ∀ (d i : Nat) (x : List β), x.length = l.length → i + d = l.length → (∀ (j : Nat) (hj : j < i) (hl : j < l.length) (hx : j < x.length), x[j] = c l[j]) → Ev (fun k => G k x (i : Int)) (l.map c) := by
    intro d
    induction d with
    | zero =>
      intro i x hx hi hp
      obtain rfl : i = l.length := by omega
      have : x = l.map c := by
        apply List.ext_getElem (by simp [hx])
        intro j h1 h2
        rw [List.getElem_map]
        exact hp j (by omega) (by omega) h1
      rw [← this]
      exact hend x
    | succ d ih =>
      intro i x hx hi hp
      refine hstep i (by omega) x _ hx ?_
      have := ih (i + 1) (x.set i (c (l[i]'(by omega)))) (by simp [hx]) (by omega) (fun j hj hl hx' => by
        rw [List.getElem_set]
        split
        · rename_i e; subst e; rfl
        · exact hp j (by omega) hl (by simpa using hx'))
      simpa using this
  have := main l.length 0 x hx (by omega) (fun j hj => absurd hj (by omega))
  simpa using this
/-- A loop that goes through all places and finds nothing amiss. -/
theorem same_loop (n : Nat) (G : Nat → Int → Option Bool) (hend : Ev (fun k => G k (n : Int)) true)
    (hstep : ∀ i : Nat, i < n → Ev (fun k => G k ((i : Int) + 1)) true → Ev (fun k => G k (i : Int)) true) : Ev (fun k => G k 0) true := by
  have main : ∀ (d i : Nat), i + d = n → Ev (fun k => G k (i : Int)) true := by
    intro d
    induction d with
    | zero => intro i hi; obtain rfl : i = n := by omega
              exact hend
    | succ d ih =>
      intro i hi
      refine hstep i (by omega) ?_
      have := ih (i + 1) (by omega)
      simpa using this
  have := main n 0 (by omega)
  simpa using this

theorem and63 (x : Int) (h0 : 0 ≤ x) (h1 : x < 4611686018427387904) : Go.bits .and .i64 x 63 = x % 64 :=
  Go.bits_mask .i64 62 (by decide) (fun n a b => by rw [Go.IntKind.wrap_i64]; omega) 6 (by decide) x h0 h1
theorem dec_eq {p q : Prop} [Decidable p] [Decidable q] (h : p ↔ q) : decide p = decide q := decide_eq_decide.mpr h
theorem dec_false {p : Prop} [Decidable p] (h : ¬ p) : false = decide p := (decide_eq_false h).symm
theorem spec_l1In_f (a b c : Int) : spec_l1In.f a b c = some (decide (b ≤ a ∧ a ≤ c)) := by
  simp only [spec_l1In.f]
  by_cases h : a ≥ b
  · rw [if_pos h]; exact congrArg some (dec_eq (by first | omega | (unfold isCh; omega)))
  · rw [if_neg h]; exact congrArg some (dec_false (by omega))
theorem impl_within_f (a b c : Int) : impl_within.f a b c = some (decide (b ≤ a ∧ a ≤ c)) := by
  simp only [impl_within.f]
  by_cases h : b ≤ a
  · rw [if_pos h]; exact congrArg some (dec_eq (by first | omega | (unfold isCh; omega)))
  · rw [if_neg h]; exact congrArg some (dec_false (by omega))
def isCh (a : Int) : Prop := (0 ≤ a ∧ a ≤ 55295) ∨ (57344 ≤ a ∧ a ≤ 65535)
instance (a : Int) : Decidable (isCh a) := by unfold isCh; exact inferInstance
/-- The bytes of a character. -/
def enc (a : Int) : List Int := if a < 128 then [a] else if a < 2048 then [192 + a / 64, 128 + a % 64] else [224 + a / 4096, 128 + a / 64 % 64, 128 + a % 64]
theorem enc_len (a : Int) : 1 ≤ (enc a).length ∧ (enc a).length ≤ 3 := by unfold enc; split <;> (try split) <;> simp
theorem spec_l1Encode_f (a : Int) (h0 : 0 ≤ a) (h1 : a ≤ 65535) : spec_l1Encode.f a = some (enc a) := by
  simp only [spec_l1Encode.f, enc]
  rw [Int.tdiv_eq_ediv_of_nonneg h0, Int.tdiv_eq_ediv_of_nonneg h0, Int.tmod_eq_emod_of_nonneg h0]
  by_cases h : a < 128
  · rw [if_pos h, if_pos h]; congr 2; omega
  · rw [if_neg h, if_neg h]
    rw [w64 (x := a / 64) (by omega) (by omega), w64 (x := a / 4096) (by omega) (by omega)]
    rw [Int.tmod_eq_emod_of_nonneg (by omega : 0 ≤ a / 64)]
    rw [w64 (x := 192 + a / 64) (by omega) (by omega), w64 (x := 128 + a % 64) (by omega) (by omega), w64 (x := 224 + a / 4096) (by omega) (by omega), w64 (x := 128 + a / 64 % 64) (by omega) (by omega)]
    by_cases h2 : a < 2048
    · rw [if_pos h2, if_pos h2]; congr 2
      · omega
      · congr 1; omega
    · rw [if_neg h2, if_neg h2]; congr 2
      · omega
      · congr 1
        · omega
        · congr 1; omega
def Bytes (l : List Int) : Prop := ∀ x ∈ l, 0 ≤ x ∧ x ≤ 255
theorem Bytes.take {l : List Int} (h : Bytes l) (n : Nat) : Bytes (l.take n) := fun x hx => h x (List.mem_of_mem_take hx)
theorem Bytes.drop {l : List Int} (h : Bytes l) (n : Nat) : Bytes (l.drop n) := fun x hx => h x (List.mem_of_mem_drop hx)
theorem Bytes.append {l m : List Int} (h : Bytes l) (k : Bytes m) : Bytes (l ++ m) := fun x hx => (List.mem_append.1 hx).elim (h x) (k x)
theorem Bytes.nil : Bytes [] := fun _ h => by cases h
theorem bytes_of_wf {l : List Int} (h : ∀ x ∈ l, (Lit.int .u8 x).wf = true) : Bytes l := fun x hx => by
  have := h x hx
  simp [Lit.wf, IntKind.min, IntKind.max, IntKind.signed, IntKind.bits] at this
  omega
theorem u8_inj {a b : Int} (ha : 0 ≤ a ∧ a ≤ 255) (hb : 0 ≤ b ∧ b ≤ 255) (h : UInt8.ofNat a.toNat = UInt8.ofNat b.toNat) : a = b := by
  have := congrArg UInt8.toNat h
  simp only [UInt8.toNat_ofNat'] at this
  omega
theorem so_list (xs : List Int) : (strOfNums xs).toList = xs.map fun n => UInt8.ofNat n.toNat := by
  rw [Go.ByteArray.toList_eq]; rfl
theorem map_u8_inj : ∀ {xs ys : List Int}, Bytes xs → Bytes ys → (xs.map fun n => UInt8.ofNat n.toNat) = (ys.map fun n => UInt8.ofNat n.toNat) → xs = ys
  | [], [], _, _, _ => rfl
  | [], _ :: _, _, _, h => by simp at h
  | _ :: _, [], _, _, h => by simp at h
  | x :: xs, y :: ys, hx, hy, h => by
    simp only [List.map_cons, List.cons.injEq] at h
    rw [u8_inj (hx x (by simp)) (hy y (by simp)) h.1, map_u8_inj (fun z hz => hx z (by simp [hz])) (fun z hz => hy z (by simp [hz])) h.2]
theorem so_inj {xs ys : List Int} (hx : Bytes xs) (hy : Bytes ys) : (strOfNums xs).toList = (strOfNums ys).toList ↔ xs = ys := by
  rw [so_list, so_list]
  exact ⟨map_u8_inj hx hy, fun h => by rw [h]⟩

/-- What a byte that goes on a character tells; -1: it is none. -/
def contOf (l : List Int) (i : Nat) : Int := if h : i < l.length then (if l[i] < 128 then -1 else if l[i] > 191 then -1 else l[i] - 128) else -1
/-- The character that begins at a place, and its bytes; 0: there is none. -/
def decAt (l : List Int) (i : Nat) (b : Int) : Int × Int :=
  if b < 128 then (b, 1)
  else if 194 ≤ b ∧ b < 224 ∧ 0 ≤ contOf l (i + 1) then ((b - 192) * 64 + contOf l (i + 1), 2)
  else if 224 ≤ b ∧ b < 240 ∧ 0 ≤ contOf l (i + 1) ∧ 0 ≤ contOf l (i + 2) ∧ 2048 ≤ (b - 224) * 4096 + contOf l (i + 1) * 64 + contOf l (i + 2) ∧ isCh ((b - 224) * 4096 + contOf l (i + 1) * 64 + contOf l (i + 2)) then ((b - 224) * 4096 + contOf l (i + 1) * 64 + contOf l (i + 2), 3)
  else (0, 0)
theorem contOf_le (l : List Int) (i : Nat) : -1 ≤ contOf l i ∧ contOf l i ≤ 63 := by
  unfold contOf; split
  · split
    · omega
    · split <;> omega
  · omega
def decR (l : List Int) (a : Int) : Int × Int × Int :=
  if h : 0 ≤ a ∧ a.toNat < l.length then (if (decAt l a.toNat l[a.toNat]).2 = 0 then (5, 0, 0) else (0, (decAt l a.toNat l[a.toNat]).1, (decAt l a.toNat l[a.toNat]).2)) else (3, 0, 0)
def c2 (c b : Int) : Int := c * 64 + b % 64
def fin3 (p : Int × Int) : Int × Int × Int := if p.2 = 0 then (5, 0, 0) else (0, p.1, p.2)
theorem fin3_none : fin3 (0, 0) = (5, 0, 0) := rfl
theorem fin3_1 (c : Int) : fin3 (c, 1) = (0, c, 1) := rfl
theorem fin3_2 (c : Int) : fin3 (c, 2) = (0, c, 2) := rfl
theorem fin3_3 (c : Int) : fin3 (c, 3) = (0, c, 3) := rfl
theorem enc_bytes {c : Int} (h : isCh c) : Bytes (enc c) := by
  unfold isCh at h
  unfold enc
  intro x hx
  split at hx
  · simp at hx; omega
  · split at hx
    · simp at hx; omega
    · simp at hx; omega
theorem u8_63 (x : Int) (h : 0 ≤ x ∧ x ≤ 255) : wrap64 (Go.bits .and .u8 x 63) = x % 64 := by
  rw [Go.u8_and63 x h.1 (by omega), w64 (by omega) (by omega)]
theorem c2_w {c x : Int} (hc : 0 ≤ c ∧ c ≤ 1000000) (hx : 0 ≤ x ∧ x ≤ 255) : wrap64 (wrap64 (c * 64) + wrap64 (Go.bits .and .u8 x 63)) = c2 c x := by
  rw [u8_63 x hx, w64 (x := c * 64) (by omega) (by omega), w64 (by omega) (by omega)]; rfl
theorem c2_le {c x : Int} (hc : 0 ≤ c ∧ c ≤ 255) : 0 ≤ c2 c x ∧ c2 c x ≤ 1000000 := by unfold c2; omega
/-- Both ways of reading a character agree. -/
theorem decAt_cases (l : List Int) (hb : Bytes l) (i : Nat) (h : i < l.length) : fin3 (decAt l i l[i]) = ((if l[i] ≥ 224 then (if h2 : 2 < (l.drop i).length then (if isCh (c2 (c2 (l[i] - 224) (l.drop i)[1]) (l.drop i)[2]) ∧ enc (c2 (c2 (l[i] - 224) (l.drop i)[1]) (l.drop i)[2]) = (l.drop i).take 3 then (0, c2 (c2 (l[i] - 224) (l.drop i)[1]) (l.drop i)[2], 3) else (5, 0, 0)) else (5, 0, 0))
     else if l[i] ≥ 192 then (if h2 : 1 < (l.drop i).length then (if isCh (c2 (l[i] - 192) (l.drop i)[1]) ∧ enc (c2 (l[i] - 192) (l.drop i)[1]) = (l.drop i).take 2 then (0, c2 (l[i] - 192) (l.drop i)[1], 2) else (5, 0, 0)) else (5, 0, 0))
     else (if isCh l[i] ∧ enc l[i] = (l.drop i).take 1 then (0, l[i], 1) else (5, 0, 0))) : Int × Int × Int) := by
  have hx := hb l[i] (List.getElem_mem h)
  have e0 : l.drop i = l[i] :: l.drop (i + 1) := List.drop_eq_getElem_cons h
  by_cases h1 : l[i] < 128
  · rw [if_neg (by omega), if_neg (by omega), e0]
    have ha : decAt l i l[i] = (l[i], 1) := by unfold decAt; rw [if_pos h1]
    rw [ha, fin3_1, if_pos ⟨by unfold isCh; omega, by unfold enc; rw [if_pos h1]; rfl⟩]
  by_cases h2 : l[i] < 192
  · rw [if_neg (by omega), if_neg (by omega), e0]
    have ha : decAt l i l[i] = (0, 0) := by unfold decAt; rw [if_neg h1, if_neg (by omega), if_neg (by omega)]
    rw [ha, fin3_none, if_neg]
    rintro ⟨_, he⟩
    have := congrArg List.length he
    unfold enc at this
    rw [if_neg h1, if_pos (by omega)] at this
    simp only [List.length_cons, List.length_nil, List.length_take, List.length_drop] at this
    omega
  by_cases h3 : l[i] < 224
  · rw [if_neg (by omega), if_pos (by omega)]
    by_cases hl : i + 1 < l.length
    · have e1 : l.drop (i + 1) = l[i + 1] :: l.drop (i + 2) := List.drop_eq_getElem_cons hl
      have hy := hb l[i + 1] (List.getElem_mem hl)
      rw [dif_pos (by simp; omega)]
      have g1 : (l.drop i)[1]'(by simp; omega) = l[i + 1] := by simp
      rw [g1, e0, e1]
      have hc1 : contOf l (i + 1) = if l[i + 1] < 128 then -1 else if l[i + 1] > 191 then -1 else l[i + 1] - 128 := by unfold contOf; rw [dif_pos hl]
      by_cases good : 194 ≤ l[i] ∧ 128 ≤ l[i + 1] ∧ l[i + 1] ≤ 191
      · have hcv : contOf l (i + 1) = l[i + 1] - 128 := by rw [hc1, if_neg (by omega), if_neg (by omega)]
        have ha : decAt l i l[i] = ((l[i] - 192) * 64 + (l[i + 1] - 128), 2) := by unfold decAt; rw [if_neg h1, hcv, if_pos (by omega)]
        have hm : c2 (l[i] - 192) l[i + 1] = (l[i] - 192) * 64 + (l[i + 1] - 128) := by unfold c2; omega
        rw [ha, fin3_2, hm, if_pos]
        refine ⟨by unfold isCh; omega, ?_⟩
        unfold enc
        rw [if_neg (by omega), if_pos (by omega)]
        simp only [List.take_succ_cons, List.take_zero, List.cons.injEq, and_true]
        omega
      · have ha : decAt l i l[i] = (0, 0) := by
          unfold decAt; rw [if_neg h1, if_neg, if_neg (by omega)]
          rintro ⟨z1, _, z3⟩
          rw [hc1] at z3
          split at z3
          · omega
          · split at z3
            · omega
            · omega
        rw [ha, fin3_none, if_neg]
        rintro ⟨_, he⟩
        generalize hv : c2 (l[i] - 192) l[i + 1] = v at he
        simp only [c2] at hv
        unfold enc at he
        split at he
        · exact absurd (congrArg List.length he) (by simp only [List.length_cons, List.length_nil, List.length_take, List.length_drop]; omega)
        · split at he
          · simp only [List.take_succ_cons, List.take_zero, List.cons.injEq, and_true] at he
            omega
          · exact absurd (congrArg List.length he) (by simp only [List.length_cons, List.length_nil, List.length_take, List.length_drop]; omega)
    · rw [dif_neg (by simp; omega)]
      have hc1 : contOf l (i + 1) = -1 := by unfold contOf; rw [dif_neg hl]
      have ha : decAt l i l[i] = (0, 0) := by unfold decAt; rw [if_neg h1, hc1, if_neg (by omega), if_neg (by omega)]
      rw [ha, fin3_none]
  · rw [if_pos (by omega)]
    by_cases hl : i + 2 < l.length
    · have e1 : l.drop (i + 1) = l[i + 1] :: l.drop (i + 2) := List.drop_eq_getElem_cons (by omega)
      have e2 : l.drop (i + 2) = l[i + 2] :: l.drop (i + 3) := List.drop_eq_getElem_cons hl
      have hy := hb l[i + 1] (List.getElem_mem (by omega))
      have hz := hb l[i + 2] (List.getElem_mem hl)
      rw [dif_pos (by simp; omega)]
      have g1 : (l.drop i)[1]'(by simp; omega) = l[i + 1] := by simp
      have g2 : (l.drop i)[2]'(by simp; omega) = l[i + 2] := by simp
      rw [g1, g2, e0, e1, e2]
      have hc1 : contOf l (i + 1) = if l[i + 1] < 128 then -1 else if l[i + 1] > 191 then -1 else l[i + 1] - 128 := by unfold contOf; rw [dif_pos (by omega)]
      have hc2 : contOf l (i + 2) = if l[i + 2] < 128 then -1 else if l[i + 2] > 191 then -1 else l[i + 2] - 128 := by unfold contOf; rw [dif_pos hl]
      by_cases good : l[i] < 240 ∧ (128 ≤ l[i + 1] ∧ l[i + 1] ≤ 191) ∧ (128 ≤ l[i + 2] ∧ l[i + 2] ≤ 191) ∧ 2048 ≤ (l[i] - 224) * 4096 + (l[i + 1] - 128) * 64 + (l[i + 2] - 128) ∧ isCh ((l[i] - 224) * 4096 + (l[i + 1] - 128) * 64 + (l[i + 2] - 128))
      · obtain ⟨b1, b2, b3, b4, b5⟩ := good
        have hcv : contOf l (i + 1) = l[i + 1] - 128 := by rw [hc1, if_neg (by omega), if_neg (by omega)]
        have hcw : contOf l (i + 2) = l[i + 2] - 128 := by rw [hc2, if_neg (by omega), if_neg (by omega)]
        have ha : decAt l i l[i] = ((l[i] - 224) * 4096 + (l[i + 1] - 128) * 64 + (l[i + 2] - 128), 3) := by
          unfold decAt; rw [if_neg h1, hcv, hcw, if_neg (by omega), if_pos ⟨by omega, b1, by omega, by omega, b4, b5⟩]
        have hm : c2 (c2 (l[i] - 224) l[i + 1]) l[i + 2] = (l[i] - 224) * 4096 + (l[i + 1] - 128) * 64 + (l[i + 2] - 128) := by simp only [c2]; omega
        rw [ha, fin3_3, hm, if_pos]
        refine ⟨b5, ?_⟩
        unfold enc
        rw [if_neg (by omega), if_neg (by omega)]
        simp only [List.take_succ_cons, List.take_zero, List.cons.injEq, and_true]
        omega
      · have ha : decAt l i l[i] = (0, 0) := by
          unfold decAt; rw [if_neg h1, if_neg (by omega), if_neg]
          rintro ⟨_, z2, z3, z4, z5, z6⟩
          by_cases k1 : l[i + 1] < 128
          · rw [hc1, if_pos k1] at z3; omega
          by_cases k2 : l[i + 1] > 191
          · rw [hc1, if_neg k1, if_pos k2] at z3; omega
          by_cases k3 : l[i + 2] < 128
          · rw [hc2, if_pos k3] at z4; omega
          by_cases k4 : l[i + 2] > 191
          · rw [hc2, if_neg k3, if_pos k4] at z4; omega
          rw [hc1, hc2, if_neg k1, if_neg k2, if_neg k3, if_neg k4] at z5 z6
          exact good ⟨z2, by omega, by omega, z5, z6⟩
        rw [ha, fin3_none, if_neg]
        rintro ⟨hch, he⟩
        have hm := hch
        generalize hv : c2 (c2 (l[i] - 224) l[i + 1]) l[i + 2] = v at he hm
        simp only [c2] at hv
        unfold isCh at hm
        unfold enc at he
        split at he
        · exact absurd (congrArg List.length he) (by simp only [List.length_cons, List.length_nil, List.length_take, List.length_drop]; omega)
        · split at he
          · exact absurd (congrArg List.length he) (by simp only [List.length_cons, List.length_nil, List.length_take, List.length_drop]; omega)
          · simp only [List.take_succ_cons, List.take_zero, List.cons.injEq, and_true] at he
            have hq : c2 (c2 (l[i] - 224) l[i + 1]) l[i + 2] = (l[i] - 224) * 4096 + (l[i + 1] - 128) * 64 + (l[i + 2] - 128) := by simp only [c2]; omega
            rw [hq] at hch
            exact good ⟨by omega, by omega, by omega, by omega, hch⟩
    · rw [dif_neg (by simp; omega)]
      have hc2 : contOf l (i + 2) = -1 := by unfold contOf; rw [dif_neg hl]
      have ha : decAt l i l[i] = (0, 0) := by unfold decAt; rw [if_neg h1, if_neg (by omega), hc2, if_neg (by omega)]
      rw [ha, fin3_none]
theorem rd_bytes {l : List Int} (h : Bytes l) (i : Int) : 0 ≤ rd l i ∧ rd l i ≤ 255 := by
  unfold rd
  rw [List.getD_eq_getElem?_getD]
  by_cases hi : i.toNat < l.length
  · rw [List.getElem?_eq_getElem hi]; exact h _ (List.getElem_mem hi)
  · rw [List.getElem?_eq_none (by omega)]; simp
theorem rd_mem {l : List Int} {i : Int} (h0 : 0 ≤ i) (h : i < l.length) : rd l i ∈ l := by
  unfold rd
  rw [List.getD_eq_getElem?_getD, List.getElem?_eq_getElem (by omega : i.toNat < l.length)]
  exact List.getElem_mem _
theorem tmod_in {a b : Int} (h0 : 0 ≤ a) (h1 : 1 ≤ b) : 0 ≤ Int.tmod a b ∧ Int.tmod a b < b := ⟨Int.tmod_nonneg b h0, Int.tmod_lt_of_pos a (by omega)⟩
theorem tdiv_in {a b : Int} (h0 : 0 ≤ a) (h1 : 1 ≤ b) : 0 ≤ Int.tdiv a b ∧ Int.tdiv a b ≤ a := by
  rw [Int.tdiv_eq_ediv_of_nonneg h0]
  exact ⟨Int.ediv_nonneg h0 (by omega), Int.ediv_le_self b h0⟩
theorem next_f (s : List Int) (hb : Bytes s) (hs : s.length ≤ 1048576) (i m : Int) (h0 : 0 ≤ i) (h1 : i ≤ 1000000) (hm : m ≤ 1000000) :
    ∃ r, spec_l1Next.f s i m = some (r, i + 1) ∧ 0 ≤ r ∧ (1 ≤ m → r < m) ∧ (m < 1 → r = 0) := by
  simp only [spec_l1Next.f]
  rw [w64 (x := i + 1) (by omega) (by omega), show i + 1 - 1 = i by omega, w64 (x := i) (by omega) (by omega)]
  by_cases c1 : m < 1
  · exact ⟨0, if_pos c1, by omega, fun e => by omega, fun _ => rfl⟩
  rw [if_neg c1]
  by_cases c2 : (s.length : Int) = 0
  · rw [if_pos c2, if_neg (by omega), w64 (x := i * 7) (by omega) (by omega)]
    have := tmod_in (a := i * 7) (b := m) (by omega) (by omega)
    exact ⟨_, rfl, this.1, fun _ => this.2, fun e => absurd e c1⟩
  rw [if_neg c2]
  have hp := tmod_in (a := i) (b := (s.length : Int)) h0 (by omega)
  have hd := tdiv_in (a := i) (b := (s.length : Int)) h0 (by omega)
  have hr := rd_bytes hb (Int.tmod i (s.length : Int))
  rw [if_pos hp.1, if_pos hp.2]
  generalize rd s (Int.tmod i (s.length : Int)) = x at *
  generalize Int.tdiv i (s.length : Int) = q at *
  rw [w64 (x := x) (by omega) (by omega), w64 (x := q) (by omega) (by omega), w64 (x := q * 37) (by omega) (by omega), w64 (x := x + q * 37) (by omega) (by omega)]
  by_cases c3 : m > 200
  · rw [if_pos c3, w64 (x := i + 1) (by omega) (by omega)]
    have hp' := tmod_in (a := i + 1) (b := (s.length : Int)) (by omega) (by omega)
    have hr' := rd_bytes hb (Int.tmod (i + 1) (s.length : Int))
    rw [if_pos hp'.1, if_pos hp'.2, if_neg (by omega)]
    generalize rd s (Int.tmod (i + 1) (s.length : Int)) = y at *
    rw [w64 (x := y) (by omega) (by omega), w64 (x := y * 13) (by omega) (by omega), w64 (x := (x + q * 37) * 251) (by omega) (by omega), w64 (x := (x + q * 37) * 251 + y * 13) (by omega) (by omega), w64 (x := (x + q * 37) * 251 + y * 13 + i) (by omega) (by omega)]
    have := tmod_in (a := (x + q * 37) * 251 + y * 13 + i) (b := m) (by omega) (by omega)
    exact ⟨_, rfl, this.1, fun _ => this.2, fun e => absurd e c1⟩
  · rw [if_neg c3, if_neg (by omega)]
    have := tmod_in (a := x + q * 37) (b := m) (by omega) (by omega)
    exact ⟨_, rfl, this.1, fun _ => this.2, fun e => absurd e c1⟩
theorem pick_f (s : List Int) (hb : Bytes s) (hs : s.length ≤ 1048576) (i : Int) (l : List Int) (h0 : 0 ≤ i) (h1 : i ≤ 1000000) (hl : 1 ≤ l.length ∧ l.length ≤ 1000) :
    ∃ v, spec_l1Pick.f s i l = some (v, i + 1) ∧ v ∈ l := by
  obtain ⟨r, hr, hr0, hr1, _⟩ := next_f s hb hs i (l.length : Int) h0 h1 (by omega)
  have := hr1 (by omega)
  refine ⟨rd l r, ?_, rd_mem hr0 this⟩
  simp only [spec_l1Pick.f, hr, Option.bind_some]
  rw [if_pos hr0, if_pos this]
theorem mod_bytes (x : Int) : Bytes [x % 256] := by
  intro y hy
  simp only [List.mem_singleton] at hy
  subst hy
  omega
theorem byte_f (s : List Int) (hb : Bytes s) (hs : s.length ≤ 1048576) (i : Int) (h0 : 0 ≤ i) (h1 : i ≤ 900000) :
    ∃ b j, spec_l1Byte.f s i = some (b, j) ∧ Bytes b ∧ b.length ≤ 3 ∧ i ≤ j ∧ j ≤ i + 3 := by
  obtain ⟨r, hr, hr0, hr1, _⟩ := next_f s hb hs i 12 h0 (by omega) (by omega)
  simp only [spec_l1Byte.f, hr, Option.bind_some]
  by_cases c0 : r = 0
  · rw [if_pos c0]; exact ⟨_, _, rfl, by intro y hy; simp at hy; omega, by simp, by omega, by omega⟩
  rw [if_neg c0]
  by_cases c1 : r = 1
  · rw [if_pos c1]
    obtain ⟨v, hv, _⟩ := pick_f s hb hs (i + 1) [1, 27, 127, 13] (by omega) (by omega) (by simp)
    simp only [hv, Option.bind_some]
    exact ⟨_, _, rfl, mod_bytes _, by simp, by omega, by omega⟩
  rw [if_neg c1]
  by_cases c2 : r = 2
  · rw [if_pos c2]
    obtain ⟨v, hv, _⟩ := next_f s hb hs (i + 1) 128 (by omega) (by omega) (by omega)
    simp only [hv, Option.bind_some]
    exact ⟨_, _, rfl, mod_bytes _, by simp, by omega, by omega⟩
  rw [if_neg c2]
  by_cases c3 : r = 3
  · rw [if_pos c3]
    obtain ⟨v, hv, hm⟩ := pick_f s hb hs (i + 1) [228, 8364, 2047, 2048, 65535] (by omega) (by omega) (by simp)
    have hv' : isCh v := by
      simp only [List.mem_cons, List.not_mem_nil, or_false] at hm
      unfold isCh; omega
    simp only [hv, Option.bind_some]
    rw [spec_l1Encode_f v (by unfold isCh at hv'; omega) (by unfold isCh at hv'; omega)]
    exact ⟨_, _, rfl, enc_bytes hv', (enc_len v).2, by omega, by omega⟩
  rw [if_neg c3]
  obtain ⟨v, hv, _⟩ := next_f s hb hs (i + 1) 4 (by omega) (by omega) (by omega)
  simp only [hv, Option.bind_some]
  obtain ⟨u, hu, _⟩ := pick_f s hb hs (i + 1 + 1) [97, 98, 99, 32, wrap64 (97 + v)] (by omega) (by omega) (by simp)
  simp only [hu, Option.bind_some]
  exact ⟨_, _, rfl, mod_bytes _, by simp, by omega, by omega⟩
theorem line_l0 (s : List Int) (hb : Bytes s) (hs : s.length ≤ 1048576) : ∀ (d : Nat) (acc : List Int) (i : Int), d ≤ 10000 → acc.length + 3 * d ≤ 100000 → Bytes acc → 0 ≤ i → i + 3 * d ≤ 800000 →
    ∃ b j, Ev (fun k => spec_l1Line.l0 k acc (d : Int) s i) (b, j) ∧ Bytes b ∧ b.length ≤ acc.length + 3 * d ∧ i ≤ j ∧ j ≤ i + 3 * d := by
  intro d
  induction d with
  | zero =>
    intro acc i _ _ ha h0 h1
    refine ⟨acc, i, ?_, ha, by omega, by omega, by omega⟩
    refine Ev_shift ?_; simp only [spec_l1Line.l0]
    exact Ev_neg (by omega) (Ev.now _)
  | succ d ih =>
    intro acc i hd hl ha h0 h1
    obtain ⟨b, j, e, eb, el, j0, j1⟩ := byte_f s hb hs i h0 (by omega)
    obtain ⟨b', j', e', eb', el', j0', j1'⟩ := ih (acc ++ b) j (by omega) (by simp; omega) (ha.append eb) (by omega) (by omega)
    refine ⟨b', j', ?_, eb', by simp at el'; omega, by omega, by omega⟩
    refine Ev_shift ?_; simp only [spec_l1Line.l0]
    refine Ev_pos (by omega) (Ev.bind (Ev_eq e) (Ev_pos (by show acc.length + b.length < _; omega) ?_))
    rw [w64 (by omega) (by omega), show ((d + 1 : Nat) : Int) - 1 = (d : Int) by omega]
    exact e'
theorem line_ev (s : List Int) (hb : Bytes s) (hs : s.length ≤ 1048576) (i m : Int) (h0 : 0 ≤ i) (h1 : i ≤ 100000) (hm : 1 ≤ m ∧ m ≤ 10000) :
    ∃ b j, Ev (fun k => spec_l1Line.f k s i m) (b, j) ∧ Bytes b ∧ (b.length : Int) ≤ 3 * m ∧ i ≤ j ∧ j ≤ i + 1 + 3 * m := by
  obtain ⟨r, hr, hr0, hr1, _⟩ := next_f s hb hs i m h0 (by omega) (by omega)
  have := hr1 (by omega)
  obtain ⟨d, rfl⟩ := Int.eq_ofNat_of_zero_le hr0
  obtain ⟨b, j, e, eb, el, j0, j1⟩ := line_l0 s hb hs d [] (i + 1) (by omega) (by simp; omega) Bytes.nil (by omega) (by omega)
  refine ⟨b, j, ?_, eb, by simp at el; omega, by omega, by omega⟩
  simp only [spec_l1Line.f]
  exact Ev.bind (Ev_eq hr) e

theorem chance_f (s : List Int) (hb : Bytes s) (hs : s.length ≤ 1048576) (i m : Int) (h0 : 0 ≤ i) (h1 : i ≤ 1000000) (hm : m ≤ 1000000) : ∃ b, spec_l1Chance.f s i m = some (b, i + 1) := by
  obtain ⟨r, hr, _⟩ := next_f s hb hs i m h0 h1 hm
  exact ⟨_, by simp only [spec_l1Chance.f, hr, Option.bind_some]; rfl⟩
theorem l2Draw_l0 (s : List Int) (hb : Bytes s) (hs : s.length ≤ 1048576) : ∀ (d : Nat) (acc : List Int) (i : Int), d ≤ 1000 → acc.length + 31 * d + 18 ≤ 100000 → Bytes acc → 0 ≤ i → i + 31 * d + 20 ≤ 100000 →
    ∃ b j, Ev (fun k => spec_l2Draw.l0 k acc (d : Int) s i) (b, j) ∧ Bytes b ∧ b.length ≤ acc.length + 31 * d + 18 ∧ i ≤ j ∧ j ≤ i + 31 * d + 20 := by
  intro d
  induction d with
  | zero =>
    intro acc i _ _ ha h0 h1
    obtain ⟨c, hc⟩ := chance_f s hb hs i 2 h0 (by omega) (by omega)
    cases c with
    | true =>
      obtain ⟨b, j, e, eb, el, j0, j1⟩ := line_ev s hb hs (i + 1) 6 (by omega) (by omega) (by omega)
      refine ⟨acc ++ b, j, ?_, ha.append eb, by simp; omega, by omega, by omega⟩
      refine Ev_shift ?_; simp only [spec_l2Draw.l0]
      refine Ev_neg (by omega) (Ev.bind (Ev_eq hc) (Ev_pos (by first | trivial | rfl | simp) ?_))
      refine Ev.bind e (Ev_pos ?_ (Ev.now _))
      show acc.length + b.length < _; omega
    | false =>
      refine ⟨acc, i + 1, ?_, ha, by omega, by omega, by omega⟩
      refine Ev_shift ?_; simp only [spec_l2Draw.l0]
      exact Ev_neg (by omega) (Ev.bind (Ev_eq hc) (Ev_neg (by simp) (Ev.now _)))
  | succ d ih =>
    intro acc i hd hl ha h0 h1
    obtain ⟨b, j, e, eb, el, j0, j1⟩ := line_ev s hb hs i 10 h0 (by omega) (by omega)
    have ten : Bytes [10] := by intro y hy; simp at hy; omega
    obtain ⟨b', j', e', eb', el', j0', j1'⟩ := ih (acc ++ b ++ [10]) j (by omega) (by simp; omega) ((ha.append eb).append ten) (by omega) (by omega)
    refine ⟨b', j', ?_, eb', by simp at el'; omega, by omega, by omega⟩
    refine Ev_shift ?_; simp only [spec_l2Draw.l0]
    refine Ev_pos (by omega) (Ev.bind e (Ev_pos (by show acc.length + b.length < _; omega) ?_))
    refine Ev.bind (Ev_eq rfl) (Ev_pos (by show (acc ++ b).length < _; simp; omega) ?_)
    rw [w64 (by omega) (by omega), show ((d + 1 : Nat) : Int) - 1 = (d : Int) by omega]
    exact e'
theorem l2Draw_ev (s : List Int) (hb : Bytes s) (hs : s.length ≤ 1048576) (i : Int) (h0 : 0 ≤ i) (h1 : i ≤ 50000) : ∃ b j, Ev (fun k => spec_l2Draw.f k s i) (b, j) ∧ Bytes b ∧ b.length ≤ 400 ∧ i ≤ j ∧ j ≤ i + 300 := by
  obtain ⟨r, hr, hr0, hr1, _⟩ := next_f s hb hs i 7 h0 (by omega) (by omega)
  have := hr1 (by omega)
  obtain ⟨d, rfl⟩ := Int.eq_ofNat_of_zero_le hr0
  obtain ⟨b, j, e, eb, el, j0, j1⟩ := l2Draw_l0 s hb hs d [] (i + 1) (by omega) (by simp; omega) Bytes.nil (by omega) (by omega)
  refine ⟨b, j, ?_, eb, by simp at el; omega, by omega, by omega⟩
  simp only [spec_l2Draw.f]
  exact Ev.bind (Ev_eq hr) e
theorem l2Bent_ev (s : List Int) (hb : Bytes s) (hs : s.length ≤ 1048576) (i : Int) (h0 : 0 ≤ i) (h1 : i ≤ 40000) : ∃ b j, Ev (fun k => spec_l2Bent.f k s i) (b, j) ∧ Bytes b ∧ b.length ≤ 401 ∧ i ≤ j ∧ j ≤ i + 400 := by
  obtain ⟨c, hc⟩ := chance_f s hb hs i 20 h0 (by omega) (by omega)
  simp only [spec_l2Bent.f]
  cases c with
  | true =>
    obtain ⟨v, hv, hm⟩ := pick_f s hb hs (i + 1) [400, 401] (by omega) (by omega) (by simp)
    have hv' : v = 400 ∨ v = 401 := by simpa using hm
    refine ⟨List.replicate v.toNat 0, i + 1 + 1, Ev.bind (Ev_eq hc) (Ev_pos (by first | trivial | rfl | simp) (Ev.bind (Ev_eq hv) ?_)), ?_, by simp; omega, by omega, by omega⟩
    · exact Ev_pos (by show 0 ≤ v; omega) (Ev_pos (by show v.toNat ≤ _; omega) (Ev.now _))
    · intro y hy; have := (List.mem_replicate.1 hy).2; omega
  | false =>
    obtain ⟨b, j, e, eb, el, j0, j1⟩ := l2Draw_ev s hb hs (i + 1) (by omega) (by omega)
    refine ⟨b, j, ?_, eb, by omega, by omega, by omega⟩
    refine Ev.bind (Ev_eq hc) (Ev_neg (by simp) ?_)
    exact Ev.bind e (Ev.now _)

def linesFrom (n : Nat) : List Int → Nat → Nat → List (S77)   -- the rest of the bytes, where it stands, where the line began
  | [], i, from_ => if from_ < n then [⟨(from_ : Int), ((n - from_ : Nat) : Int)⟩] else []
  | b :: bs, i, from_ => if b = 10 then ⟨(from_ : Int), ((i - from_ : Nat) : Int)⟩ :: linesFrom n bs (i + 1) (i + 1) else linesFrom n bs (i + 1) from_
def linesL (l : List Int) : List (S77) := linesFrom l.length l 0 0
theorem linesFrom_len (n : Nat) : ∀ (bs : List Int) (i f : Nat), (linesFrom n bs i f).length ≤ bs.length + 1
  | [], i, f => by simp only [linesFrom]; split <;> simp
  | b :: bs, i, f => by
    simp only [linesFrom]
    split
    · have := linesFrom_len n bs (i + 1) (i + 1); simp; omega
    · have := linesFrom_len n bs (i + 1) f; simp; omega
theorem spec_l2Lines_l0 (l : List Int) (hl : l.length ≤ 400) : ∀ (d i f : Nat) (x : List (S77)), i + d = l.length → f ≤ i → x.length ≤ i →
    Ev (fun k => spec_l2Lines.l0 k [(⟨l⟩ : S45)] x (f : Int) (i : Int)) (x ++ linesFrom l.length (l.drop i) i f) := by
  intro d
  induction d with
  | zero =>
    intro i f x hi hf hx
    obtain rfl : i = l.length := by omega
    refine Ev_shift ?_; simp only [spec_l2Lines.l0, rd_T45, List.length_singleton]
    rw [List.drop_length]
    simp only [linesFrom]
    refine Ev_pos (by omega) (Ev_neg (by simp) ?_)
    by_cases h : f < l.length
    · rw [if_pos h]
      refine Ev_pos (by simpa using h) (Ev_pos (by omega) ?_)
      simp only [Int.toNat_zero, List.getD_cons_zero]
      rw [w64 (by omega) (by omega)]
      have e : (l.length : Int) - (f : Int) = ((l.length - f : Nat) : Int) := by omega
      rw [e]
      exact Ev.now _
    · rw [if_neg h, List.append_nil]
      exact Ev_neg (by simpa using h) (Ev.now _)
  | succ d ih =>
    intro i f x hi hf hx
    have hlt : i < l.length := by omega
    refine Ev_shift ?_; simp only [spec_l2Lines.l0, rd_T45, List.length_singleton]
    rw [List.drop_eq_getElem_cons hlt]
    simp only [linesFrom, Int.toNat_zero, List.getD_cons_zero]
    refine Ev_pos (by omega) (Ev_pos (by omega) (Ev_pos (by omega) ?_))
    rw [rd_nat l i hlt, w64 (x := (i : Int) + 1) (by omega) (by omega), w64 (x := (i : Int) - f) (by omega) (by omega)]
    by_cases h : l[i] = 10
    · rw [if_pos h]
      refine Ev_pos h (Ev_pos (by omega) ?_)
      have := ih (i + 1) (i + 1) (x ++ [⟨(f : Int), (i : Int) - f⟩]) (by omega) (by omega) (by simp; omega)
      have e : (i : Int) - (f : Int) = ((i - f : Nat) : Int) := by omega
      rw [e] at this ⊢
      simpa only [Int.natCast_add, Int.natCast_one, List.append_assoc, List.singleton_append] using this
    · rw [if_neg h]
      refine Ev_neg h ?_
      have := ih (i + 1) f x (by omega) (by omega) (by omega)
      simpa only [Int.natCast_add, Int.natCast_one] using this
theorem spec_l2Lines_ev (l : List Int) (hl : l.length ≤ 400) : Ev (fun k => spec_l2Lines.f k [(⟨l⟩ : S45)]) (linesL l) := by
  simp only [spec_l2Lines.f]
  exact Ev.bind (Ev.now _) (spec_l2Lines_l0 l hl l.length 0 0 [] (by omega) (by omega) (by simp))
theorem impl_linesOf_l0 (l : List Int) (hl : l.length ≤ 400) : ∀ (d i f : Nat) (x : List (S77)), i + d = l.length → f ≤ i → x.length ≤ i →
    Ev (fun k => impl_linesOf.l0 k l x (f : Int) l (l.length : Int) (i : Int)) (x ++ linesFrom l.length (l.drop i) i f) := by
  intro d
  induction d with
  | zero =>
    intro i f x hi hf hx
    obtain rfl : i = l.length := by omega
    refine Ev_shift ?_; simp only [impl_linesOf.l0]
    rw [List.drop_length]
    simp only [linesFrom]
    refine Ev_neg (by omega) ?_
    by_cases h : f < l.length
    · rw [if_pos h]
      refine Ev_pos (by omega) (Ev_pos (by omega) ?_)
      rw [w64 (by omega) (by omega)]
      have e : (l.length : Int) - (f : Int) = ((l.length - f : Nat) : Int) := by omega
      rw [e]
      exact Ev.now _
    · rw [if_neg h, List.append_nil]
      exact Ev_neg (by omega) (Ev.now _)
  | succ d ih =>
    intro i f x hi hf hx
    have hlt : i < l.length := by omega
    refine Ev_shift ?_; simp only [impl_linesOf.l0]
    rw [List.drop_eq_getElem_cons hlt]
    simp only [linesFrom]
    refine Ev_pos (by omega) (Ev_pos (by omega) (Ev_pos (by omega) ?_))
    rw [rd_nat l i hlt, w64 (x := (i : Int) + 1) (by omega) (by omega), w64 (x := (i : Int) - f) (by omega) (by omega)]
    by_cases h : l[i] = 10
    · rw [if_pos h]
      refine Ev_pos h (Ev_pos (by omega) ?_)
      have := ih (i + 1) (i + 1) (x ++ [⟨(f : Int), (i : Int) - f⟩]) (by omega) (by omega) (by simp; omega)
      have e : (i : Int) - (f : Int) = ((i - f : Nat) : Int) := by omega
      rw [e] at this ⊢
      simpa only [Int.natCast_add, Int.natCast_one, List.append_assoc, List.singleton_append] using this
    · rw [if_neg h]
      refine Ev_neg h ?_
      have := ih (i + 1) f x (by omega) (by omega) (by omega)
      simpa only [Int.natCast_add, Int.natCast_one] using this
theorem impl_linesOf_ev (l : List Int) (hl : l.length ≤ 400) : Ev (fun k => impl_linesOf.f k l) (linesL l) := by
  simp only [impl_linesOf.f]
  exact impl_linesOf_l0 l hl l.length 0 0 [] (by omega) (by omega) (by simp)

theorem f_dec_eq {p q : Prop} [Decidable p] [Decidable q] (h : p ↔ q) : decide p = decide q := decide_eq_decide.mpr h
theorem f_in (a b c : Int) : spec_l1In.f a b c = some (decide (b ≤ a ∧ a ≤ c)) := by
  simp only [spec_l1In.f]
  by_cases h : a ≥ b
  · rw [if_pos h]; exact congrArg some (f_dec_eq (by omega))
  · rw [if_neg h]; exact congrArg some (decide_eq_false (by omega)).symm
theorem f_within (a b c : Int) : impl_within.f a b c = some (decide (b ≤ a ∧ a ≤ c)) := by
  simp only [impl_within.f]
  by_cases h : b ≤ a
  · rw [if_pos h]; exact congrArg some (f_dec_eq (by omega))
  · rw [if_neg h]; exact congrArg some (decide_eq_false (by omega)).symm

theorem l2Fault_f (l : List Int) : spec_l2Fault.f [(⟨l⟩ : S45)] = some (if (l.length : Int) > 400 then 2 else 0) := by
  simp only [spec_l2Fault.f, rd_T45, List.length_singleton]
  by_cases h : (l.length : Int) > 400 <;> simp [h]
theorem isLong_f (l : List Int) : impl_isLong.f l = some (decide ((l.length : Int) > 400)) := rfl
theorem l1Copy_f (l : List Int) (h : l.length ≤ 1048576) : spec_l1Copy.f l = some l := by
  simp only [spec_l1Copy.f, Option.bind_some, List.length_nil, List.nil_append]
  rw [if_pos (by omega)]
theorem cloneB_f (l : List Int) (h : l.length ≤ 1048576) : slices_Clone_byte_byte.f l = some l := by
  simp only [slices_Clone_byte_byte.f, Option.bind_some, List.length_nil, List.nil_append]
  rw [if_pos (by omega)]

def linesR (l : List Int) : Int × List (S77) := if (l.length : Int) > 400 then (2, []) else (0, linesL l)
theorem linesR_len (l : List Int) : (linesR l).2.length ≤ 401 := by
  unfold linesR
  split
  · simp
  · have := linesFrom_len l.length l 0 0
    show (linesFrom l.length l 0 0).length ≤ 401
    omega
theorem spec_LinesIn_ev (l : List Int) : Ev (fun k => spec_LinesIn.f k l) (linesR l) := by
  simp only [spec_LinesIn.f]
  refine Ev.bind (Ev_eq (l2Fault_f l)) ?_
  unfold linesR
  by_cases h : (l.length : Int) > 400
  · rw [if_pos h, if_pos h]; exact Ev_neg (by omega) (Ev.now _)
  · rw [if_neg h, if_neg h]; exact Ev_pos (by first | trivial | rfl | simp) (Ev.bind (spec_l2Lines_ev l (by omega)) (Ev.now _))
theorem impl_LinesIn_ev (l : List Int) : Ev (fun k => impl_LinesIn.f k l) (linesR l) := by
  simp only [impl_LinesIn.f]
  refine Ev.bind (Ev_eq (isLong_f l)) ?_
  unfold linesR
  by_cases h : (l.length : Int) > 400
  · rw [if_pos h]; exact Ev_pos (by simpa using h) (Ev.now _)
  · rw [if_neg h]; exact Ev_neg (by simpa using h) (Ev.bind (impl_linesOf_ev l (by omega)) (Ev.now _))

theorem linesFrom_in (n : Nat) : ∀ (bs : List Int) (i f : Nat), i + bs.length = n → f ≤ i → ∀ x ∈ linesFrom n bs i f, 0 ≤ x.f0 ∧ 0 ≤ x.f1 ∧ x.f0 + x.f1 ≤ (n : Int)
  | [], i, f, h, hf, x, hx => by
    unfold linesFrom at hx
    split at hx
    · simp only [List.mem_singleton] at hx
      subst hx
      refine ⟨?_, ?_, ?_⟩ <;> simp only <;> omega
    · cases hx
  | b :: bs, i, f, h, hf, x, hx => by
    simp only [List.length_cons] at h
    unfold linesFrom at hx
    split at hx
    · rcases List.mem_cons.1 hx with rfl | hx
      · refine ⟨?_, ?_, ?_⟩ <;> simp only <;> omega
      · exact linesFrom_in n bs (i + 1) (i + 1) (by omega) (by omega) x hx
    · exact linesFrom_in n bs (i + 1) f (by omega) (by omega) x hx
theorem rdLn (l : List (S77)) (a : Int) (h0 : 0 ≤ a) (h : a < l.length) : rd_T77 l a ∈ l := by
  obtain ⟨i, rfl⟩ := Int.eq_ofNat_of_zero_le h0
  have hi : i < l.length := by omega
  have : rd_T77 l (i : Int) = l[i] := by simp [rd_T77, hi]
  rw [this]; exact List.getElem_mem hi
def lineF (l : List Int) (a : Int) : List Int := (l.take ((rd_T77 (linesL l) a).f0 + (rd_T77 (linesL l) a).f1).toNat).drop (rd_T77 (linesL l) a).f0.toNat
def lineR (l : List Int) (a : Int) : Int × List Int := if (l.length : Int) > 400 then (2, []) else if 0 ≤ a ∧ a ≤ ((linesL l).length : Int) - 1 then (0, lineF l a) else (3, [])
theorem lineF_len (l : List Int) (a : Int) : (lineF l a).length ≤ l.length := by unfold lineF; simp; omega
theorem lineR_len (l : List Int) (a : Int) : (lineR l a).2.length ≤ l.length := by
  unfold lineR
  split
  · simp
  · split
    · exact lineF_len l a
    · simp
theorem line_in (l : List Int) (a : Int) (h0 : 0 ≤ a) (h : a < (linesL l).length) : 0 ≤ (rd_T77 (linesL l) a).f0 ∧ 0 ≤ (rd_T77 (linesL l) a).f1 ∧ (rd_T77 (linesL l) a).f0 + (rd_T77 (linesL l) a).f1 ≤ (l.length : Int) :=
  linesFrom_in l.length l 0 0 (by omega) (by omega) _ (rdLn _ a h0 h)
theorem spec_LineBytes_ev (l : List Int) (a : Int) : Ev (fun k => spec_LineBytes.f k l a) (lineR l a) := by
  have hr : rd_T45 [(⟨l⟩ : S45)] 0 = ⟨l⟩ := rfl
  simp only [spec_LineBytes.f, f_in, spec_l2Line.f, hr]
  refine Ev.bind (Ev_eq (l2Fault_f l)) ?_
  unfold lineR
  by_cases h : (l.length : Int) > 400
  · rw [if_pos h]
    exact Ev_r (if_pos h) (Ev_neg (by omega) (Ev.now _))
  · rw [if_neg h]
    refine Ev_r (if_neg h) (Ev_pos (by first | trivial | rfl | simp) ?_)
    refine Ev.bind (spec_l2Lines_ev l (by omega)) ?_
    have hn := linesFrom_len l.length l 0 0
    have hn' : (linesL l).length ≤ l.length + 1 := hn
    rw [w64 (x := ((linesL l).length : Int) - 1) (by omega) (by omega)]
    refine Ev.bind (Ev_eq rfl) ?_
    by_cases c : 0 ≤ a ∧ a ≤ ((linesL l).length : Int) - 1
    · have hl := line_in l a c.1 (by omega)
      refine Ev_r (if_pos c) (Ev_pos (decide_eq_true c) (Ev_pos c.1 (Ev_pos (by omega) ?_)))
      rw [w64 (x := (rd_T77 (linesL l) a).f0 + (rd_T77 (linesL l) a).f1) (by omega) (by omega)]
      refine Ev.bind (a := lineF l a) ?_ (Ev.now _)
      refine Ev_pos (by simp) (Ev_pos hl.1 (Ev_pos (by omega) (Ev_pos hl.2.2 ?_)))
      have := lineF_len l a
      exact Ev.bind (Ev_eq (l1Copy_f (lineF l a) (by omega))) (Ev.now _)
    · exact Ev_r (if_neg c) (Ev_neg (by simpa using c) (Ev.now _))
theorem impl_LineBytes_ev (l : List Int) (a : Int) : Ev (fun k => impl_LineBytes.f k l a) (lineR l a) := by
  simp only [impl_LineBytes.f, f_within, impl_lineBytes.f]
  refine Ev.bind (Ev_eq (isLong_f l)) ?_
  unfold lineR
  by_cases h : (l.length : Int) > 400
  · exact Ev_r (if_pos h) (Ev_pos (decide_eq_true h) (Ev.now _))
  · refine Ev_r (if_neg h) (Ev_neg (by simpa using h) ?_)
    refine Ev.bind (impl_linesOf_ev l (by omega)) ?_
    have hn := linesFrom_len l.length l 0 0
    have hn' : (linesL l).length ≤ l.length + 1 := hn
    rw [w64 (x := ((linesL l).length : Int) - 1) (by omega) (by omega)]
    refine Ev.bind (Ev_eq rfl) ?_
    by_cases c : 0 ≤ a ∧ a ≤ ((linesL l).length : Int) - 1
    · have hl := line_in l a c.1 (by omega)
      refine Ev_r (if_pos c) (Ev_pos (decide_eq_true c) (Ev_pos c.1 (Ev_pos (by omega) ?_)))
      rw [w64 (x := (rd_T77 (linesL l) a).f0 + (rd_T77 (linesL l) a).f1) (by omega) (by omega)]
      have := lineF_len l a
      refine Ev.bind (a := lineF l a) ?_ ?_
      · exact Ev_pos hl.1 (Ev_pos (by omega) (Ev_pos hl.2.2 (Ev.now _)))
      · exact Ev.bind (Ev_eq (cloneB_f _ (by omega))) (Ev.now _)
    · exact Ev_r (if_neg c) (Ev_neg (by simpa using c) (Ev.now _))

/-- The bytes of a line of a file. -/
def textOf (f : List Int) (x : S77) : List Int := (f.take (x.f0 + x.f1).toNat).drop x.f0.toNat
/-- What the lines make, one behind the other, each where the ones ahead end. -/
def runs (f : List Int) : List Int → List (S77) → List Int → Prop
  | all, [], fin => fin = all
  | all, x :: xs, fin => x.f0 = (all.length : Int) ∧ x.f1 = ((textOf f x).length : Int) ∧ (∀ y ∈ textOf f x, y ≠ 10) ∧ runs f (all ++ textOf f x ++ [10]) xs fin
def fin10 (f : List Int) : List Int := if h : 0 < f.length then (if f[f.length - 1] = 10 then f else f ++ [10]) else f
theorem lines_runs (f : List Int) : ∀ (bs : List Int) (i p : Nat), bs = f.drop i → i ≤ f.length → p ≤ i → (∀ (j : Nat) (h : j < f.length), p ≤ j → j < i → f[j] ≠ 10) → (p = 0 ∨ ∃ (h : p - 1 < f.length), f[p - 1] = 10) →
    runs f (f.take p) (linesFrom f.length bs i p) (fin10 f)
  | [], i, p, hb, hi, hp, hn, hq => by
    have hi' : f.length ≤ i := by
      have := congrArg List.length hb
      simp at this; omega
    unfold linesFrom
    split
    · rename_i h
      have ht : textOf f ⟨(p : Int), ((f.length - p : Nat) : Int)⟩ = f.drop p := by
        unfold textOf
        simp only
        rw [show ((p : Int) + ((f.length - p : Nat) : Int)).toNat = f.length by omega, List.take_length, Int.toNat_natCast]
      refine ⟨?_, ?_, ?_, ?_⟩
      · show (p : Int) = ((f.take p).length : Int); rw [List.length_take]; omega
      · rw [ht]; show ((f.length - p : Nat) : Int) = _; rw [List.length_drop]
      · rw [ht]
        intro y hy
        obtain ⟨j, hj, rfl⟩ := List.getElem_of_mem hy
        rw [List.getElem_drop]
        simp only [List.length_drop] at hj
        exact hn (p + j) (by omega) (by omega) (by omega)
      · rw [ht]
        show fin10 f = f.take p ++ f.drop p ++ [10]
        rw [List.take_append_drop]
        unfold fin10
        rw [dif_pos (by omega), if_neg (hn (f.length - 1) (by omega) (by omega) (by omega))]
    · rename_i h
      show fin10 f = f.take p
      rw [List.take_of_length_le (by omega)]
      unfold fin10
      by_cases h0 : 0 < f.length
      · rw [dif_pos h0]
        rcases hq with hq | ⟨hl, hq⟩
        · omega
        · have : p = f.length := by omega
          subst this
          rw [if_pos hq]
      · rw [dif_neg h0]
  | b :: bs, i, p, hb, hi, hp, hn, hq => by
    have hlt : i < f.length := by
      have := congrArg List.length hb
      simp at this; omega
    rw [List.drop_eq_getElem_cons hlt] at hb
    obtain ⟨hb1, hb2⟩ := List.cons.inj hb
    unfold linesFrom
    split
    · rename_i h10
      have ht : textOf f ⟨(p : Int), ((i - p : Nat) : Int)⟩ = (f.take i).drop p := by
        unfold textOf
        simp only
        rw [show ((p : Int) + ((i - p : Nat) : Int)).toNat = i by omega, Int.toNat_natCast]
      refine ⟨?_, ?_, ?_, ?_⟩
      · show (p : Int) = ((f.take p).length : Int); rw [List.length_take]; omega
      · rw [ht]; show ((i - p : Nat) : Int) = _; rw [List.length_drop, List.length_take]; omega
      · rw [ht]
        intro y hy
        obtain ⟨j, hj, rfl⟩ := List.getElem_of_mem hy
        simp only [List.length_drop, List.length_take] at hj
        rw [List.getElem_drop, List.getElem_take]
        exact hn (p + j) (by omega) (by omega) (by omega)
      · rw [ht]
        have e : f.take p ++ (f.take i).drop p ++ [10] = f.take (i + 1) := by
          rw [List.take_succ_eq_append_getElem hlt, ← hb1, h10]
          congr 1
          have := List.take_append_drop p (f.take i)
          rw [List.take_take, Nat.min_eq_left hp] at this
          exact this
        rw [e]
        refine lines_runs f bs (i + 1) (i + 1) hb2 (by omega) (by omega) (fun j h h1 h2 => by omega) (.inr ⟨by omega, ?_⟩)
        simp only [Nat.add_sub_cancel]
        rw [← hb1, h10]
    · rename_i h10
      refine lines_runs f bs (i + 1) p hb2 (by omega) (by omega) (fun j h h1 h2 => ?_) hq
      by_cases hj : j = i
      · subst hj; rw [← hb1]; exact h10
      · exact hn j h h1 (by omega)
theorem rdLn_nat (l : List (S77)) (i : Nat) (h : i < l.length) : rd_T77 l (i : Int) = l[i] := by simp [rd_T77, h]
theorem same_self (l : List Int) : laws_lwSame.f l l = some true := by simp [laws_lwSame.f]
theorem lines_end (s f : List Int) (hb : Bytes s) (hs : s.length ≤ 1048576) (hf : f.length ≤ 400) (c : Int) (L : List (S77)) (hL : L.length ≤ 1000) :
    Ev (fun k => laws_FnLines.l0 k s (fin10 f) (L.length : Int) f c L) true := by
  refine Ev_shift ?_; simp only [laws_FnLines.l0]
  refine Ev_neg (by omega) ?_
  obtain ⟨b, j, e, eb, el, j0, j1⟩ := l2Bent_ev s hb hs 0 (by omega) (by omega)
  obtain ⟨r, hr, hr0, hr1, _⟩ := next_f s hb hs j 8 (by omega) (by omega) (by omega)
  have := hr1 (by omega)
  have draw : Ev (fun k => spec_DrawLineBytes.f k s) (b, r - 1) := by
    simp only [spec_DrawLineBytes.f, spec_l1Source.f]
    refine Ev.bind (Ev_eq rfl) ?_
    refine Ev.bind e ?_
    refine Ev.bind (Ev_eq hr) ?_
    show Ev (fun _ => some (b, wrap64 (r - 1))) _
    rw [w64 (by omega) (by omega)]
    exact Ev.now _
  refine Ev.bind draw ?_
  refine Ev.bind (impl_LineBytes_ev b (r - 1)) ?_
  refine Ev.bind (spec_LineBytes_ev b (r - 1)) (Ev_pos (by first | trivial | rfl | simp) ?_)
  by_cases h0 : (f.length : Int) > 0
  · refine Ev_pos h0 ?_
    rw [w64 (x := (f.length : Int) - 1) (by omega) (by omega)]
    refine Ev_pos (by omega) (Ev_pos (by omega) ?_)
    rw [show (f.length : Int) - 1 = ((f.length - 1 : Nat) : Int) by omega, rd_nat f (f.length - 1) (by omega)]
    unfold fin10
    rw [dif_pos (by omega)]
    refine Ev_shift ?_; simp only [laws_FnLines.j3]
    by_cases h10 : f[f.length - 1] = 10
    · rw [if_pos h10, h10]
      refine Ev_neg (by simp) ?_
      exact Ev.bind (Ev_eq (same_self f)) (Ev.now _)
    · rw [if_neg h10]
      refine Ev_pos (bne_iff_ne.2 h10) ?_
      rw [w64 (x := (f.length : Int) + 1) (by omega) (by omega)]
      refine Ev_pos (by simp) (Ev_pos (by omega) (Ev_pos (by simp; omega) ?_))
      rw [Int.toNat_natCast, List.take_left]
      exact Ev.bind (Ev_eq (same_self f)) (Ev.now _)
  · refine Ev_neg h0 ?_
    unfold fin10
    rw [dif_neg (by omega)]
    refine Ev_shift ?_; simp only [laws_FnLines.j3]
    refine Ev_neg (by simp) ?_
    exact Ev.bind (Ev_eq (same_self f)) (Ev.now _)
theorem lines_loop (s f : List Int) (hb : Bytes s) (hs : s.length ≤ 1048576) (hf : f.length ≤ 400) (c : Int) : ∀ (d i : Nat) (all : List Int), i + d = (linesL f).length → all.length + 402 * d ≤ 1000000 → runs f all ((linesL f).drop i) (fin10 f) →
    Ev (fun k => laws_FnLines.l0 k s all (i : Int) f c (linesL f)) true := by
  have hL : (linesL f).length ≤ 401 := by have := linesFrom_len f.length f 0 0; show (linesFrom f.length f 0 0).length ≤ 401; omega
  intro d
  induction d with
  | zero =>
    intro i all hi ha hr
    rw [List.drop_of_length_le (by omega)] at hr
    have e : fin10 f = all := hr
    rw [← e, show i = (linesL f).length by omega]
    exact lines_end s f hb hs hf c (linesL f) (by omega)
  | succ d ih =>
    intro i all hi ha hr
    have hlt : i < (linesL f).length := by omega
    rw [List.drop_eq_getElem_cons hlt] at hr
    obtain ⟨h1, h2, h3, h4⟩ := hr
    have hx := rdLn_nat (linesL f) i hlt
    have ht : lineF f (i : Int) = textOf f (linesL f)[i] := by unfold lineF textOf; rw [hx]
    have hlr : lineR f (i : Int) = (0, textOf f (linesL f)[i]) := by
      unfold lineR; rw [if_neg (by omega), if_pos (by omega), ht]
    have hlen := lineF_len f (i : Int)
    rw [ht] at hlen
    refine Ev_shift ?_; simp only [laws_FnLines.l0]
    refine Ev_pos (by omega) ?_
    have hl := impl_LineBytes_ev f (i : Int)
    rw [hlr] at hl
    rw [hx]
    refine Ev.bind hl (Ev_pos (by show (0 : Int) = 0; rfl) (Ev_pos (by omega) (Ev_pos h1 ?_)))
    show Ev (fun k => laws_FnLines.j1 k s all (i : Int) ((linesL f)[i].f1 != ((textOf f (linesL f)[i]).length : Int)) f c (linesL f) 0 (textOf f (linesL f)[i])) true
    rw [h2]
    refine Ev_shift ?_; simp only [laws_FnLines.j1]
    refine Ev_neg (by simp) ?_
    generalize textOf f (linesL f)[i] = y at *
    have inner : ∀ (e j : Nat), j + e = y.length → Ev (fun k => laws_FnLines.l1 k s all (i : Int) (j : Int) f c (linesL f) 0 y) true := by
      intro e
      induction e with
      | zero =>
        intro j hj
        refine Ev_shift ?_; simp only [laws_FnLines.l1]
        refine Ev_neg (by omega) (Ev_pos (by omega) ?_)
        refine Ev.bind (Ev_eq rfl) (Ev_pos (by simp; omega) ?_)
        rw [w64 (by omega) (by omega)]
        have := ih (i + 1) (all ++ y ++ [10]) (by omega) (by simp; omega) h4
        simpa only [Int.natCast_add, Int.natCast_one] using this
      | succ e ihe =>
        intro j hj
        have hjl : j < y.length := by omega
        refine Ev_shift ?_; simp only [laws_FnLines.l1]
        refine Ev_pos (by omega) (Ev_pos (by omega) ?_)
        rw [rd_nat y j hjl, w64 (by omega) (by omega)]
        refine Ev_neg (h3 _ (List.getElem_mem hjl)) ?_
        have := ihe (j + 1) (by omega)
        simpa only [Int.natCast_add, Int.natCast_one] using this
    exact inner y.length 0 (by omega)
theorem FnLines : laws_FnLines.Pure := by
  intro s hl hw
  refine Ev.rounds ?_
  simp only [laws_FnLines.f, laws_lwBig.f]
  refine Ev.bind (Ev_eq rfl) ?_
  by_cases h : (s.length : Int) > 1048576
  · exact Ev_pos (decide_eq_true h) (Ev.now _)
  refine Ev_neg (by simpa using h) ?_
  have hs : s.length ≤ 1048576 := by omega
  have hb := bytes_of_wf hw
  obtain ⟨f, j, e, eb, el, j0, j1⟩ := l2Bent_ev s hb hs 0 (by omega) (by omega)
  have draw : Ev (fun k => spec_DrawLinesIn.f k s) f := by
    simp only [spec_DrawLinesIn.f, spec_l1Source.f]
    refine Ev.bind (Ev_eq rfl) ?_
    exact Ev.bind e (Ev.now _)
  refine Ev.bind draw ?_
  refine Ev.bind (impl_LinesIn_ev f) ?_
  unfold linesR
  by_cases h4 : (f.length : Int) > 400
  · rw [if_pos h4]
    refine Ev_neg (by omega) ?_
    have := spec_LinesIn_ev f
    unfold linesR at this
    rw [if_pos h4] at this
    exact Ev.bind this (Ev_eq (by simp))
  · rw [if_neg h4]
    refine Ev_pos (by first | trivial | rfl | simp) ?_
    have hr := lines_runs f f 0 0 rfl (by omega) (by omega) (fun j h h1 h2 => by omega) (.inl rfl)
    have hL : (linesL f).length ≤ 401 := by have := linesFrom_len f.length f 0 0; show (linesFrom f.length f 0 0).length ≤ 401; omega
    exact lines_loop s f hb hs (by omega) 0 (linesL f).length 0 [] (by omega) (by simp; omega) hr

end Go.Proofs.Ytljpfppkpjodiaa.Pure
