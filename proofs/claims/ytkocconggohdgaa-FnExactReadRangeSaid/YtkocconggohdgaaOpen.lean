/- What an argument reads as, kind by kind: whatever reads as a datum at a type is told by that type's kind (integers, strings, bools, slices, structs of these). Under no condition but the type's own form. -/
import Derived.Test.YtkocconggohdgaaWMore
import Derived.Test.YtkocconggohdgaaWWords
import Derived.ProofKit
import Derived.ChangeArms
set_option linter.unusedVariables false
namespace Go.Proofs.Ytkocconggohdgaa.Open
open Go.RowKit Go.Proofs.YtkocconggohdgaaW.PrintWords

/-- What reads as a datum at type t is told by K. -/
structure Opens (P : Program) (t : TypeId) {α : Type} (K : Kd α) (ok : α → Prop) : Prop where
  cells : P.cellsOf t = K.sz
  out : ∀ {H : Type} {enc : TypeId × Value → H} {w : World} {held : Bool} {fuel : Nat} {cs : List Value} {y : DataW H × List MemPlace}, DataW.trod enc P w 0 (fun _ => true) held fuel t cs = some y → ∃ x, K.K w x cs ∧ ok x

/-- The same of a run of fields that begins at a place. -/
structure OpensF (P : Program) (fs : List Field) (off : Nat) {α : Type} (K : Kd α) (ok : α → Prop) : Prop where
  out : ∀ {H : Type} {enc : TypeId × Value → H} {w : World} {held : Bool} {fuel : Nat} {cs : List Value}, cs.length = off + K.sz → (∀ f, f ∈ fs → ∃ y, DataW.trod enc P w 0 (fun _ => true) held fuel f.type ((cs.drop f.offset).take (P.cellsOf f.type)) = some y) → ∃ x, K.K w x (cs.drop off) ∧ ok x

section
variable {P : Program} {t : TypeId}
theorem opens_int {k : IntKind} (hu : P.underlying t = some (.int k)) (hc : P.cellsOf t = 1) : Opens P t (Kd.int k) (fun n => (Lit.int k n).wf = true) :=
  ⟨hc, fun h => by
    obtain ⟨n, rfl, _, hw⟩ := DataW.trod_int hu h
    exact ⟨n, rfl, hw⟩⟩
theorem opens_bool (hu : P.underlying t = some .bool) (hc : P.cellsOf t = 1) : Opens P t Kd.bool (fun _ => True) :=
  ⟨hc, fun h => by
    obtain ⟨b, rfl, _⟩ := DataW.trod_bool hu h
    exact ⟨b, rfl, trivial⟩⟩
theorem opens_string (hu : P.underlying t = some .string) (hc : P.cellsOf t = 1) : Opens P t Kd.string (fun s => s.size ≤ maxLen) :=
  ⟨hc, fun h => by
    obtain ⟨s, rfl, _, hw⟩ := DataW.trod_string hu h
    exact ⟨s, rfl, hw⟩⟩

theorem list_of {α : Type} (p : Nat → α → Prop) : ∀ n : Nat, (∀ i, i < n → ∃ x, p i x) → ∃ xs : List α, xs.length = n ∧ ∀ i x, xs[i]? = some x → p i x := by
  intro n
  induction n with
  | zero => intro _; exact ⟨[], rfl, fun i x h => by simp at h⟩
  | succ n ih =>
    intro h
    obtain ⟨xs, hl, hp⟩ := ih (fun i hi => h i (by omega))
    obtain ⟨x, hx⟩ := h n (by omega)
    refine ⟨xs ++ [x], by simp [hl], fun i y hy => ?_⟩
    by_cases hi : i < n
    · exact hp i y (by rwa [List.getElem?_append_left (by omega)] at hy)
    · have hb := (List.getElem?_eq_some_iff.1 hy).1
      simp [hl] at hb
      obtain rfl : i = n := by omega
      rw [List.getElem?_append_right (by omega), hl, Nat.sub_self] at hy
      obtain rfl : x = y := by simpa using hy
      exact hx

theorem opens_slice {e : TypeId} {α : Type} {K : Kd α} {ok : α → Prop} (hu : P.underlying t = some (.slice e)) (hc : P.cellsOf t = 1) (he : Opens P e K ok) :
    Opens P t (Kd.slice e K) (fun xs => xs.length ≤ maxLen ∧ ∀ x ∈ xs, ok x) :=
  ⟨hc, fun {H enc w held fuel cs y} h => by
    rcases DataW.trod_slice hu h with ⟨rfl, _⟩ | ⟨a, len, cap, elems, rest, n, _, rfl, _, _, hl, hm, hlen, hel, _, _⟩
    · exact ⟨[], ⟨none, 0, rfl, Nat.le_refl _, rfl, by simp, fun h => absurd h (by simp)⟩, by simp, fun x hx => by cases hx⟩
    · have each : ∀ i, i < len → ∃ x, ok x ∧ ∃ c, c.length = K.sz ∧ K.K w x c ∧ ∀ j u, c[j]? = some u → w.cell? (a.add (i * K.sz + j)) = some u := by
        intro i hi
        have h1 := hel i hi
        rw [List.getElem?_eq_getElem (by omega), Option.bind_eq_some_iff] at h1
        obtain ⟨c, hcs, hy⟩ := h1
        obtain ⟨x, hK, ho⟩ := he.out hy
        obtain ⟨_, hcl, hcell⟩ := World.cells?_some hcs
        rw [he.cells] at hcl hcell
        refine ⟨x, ho, c, hcl, hK, fun j u hj => ?_⟩
        have hjl := (List.getElem?_eq_some_iff.1 hj).1
        have := hcell j (by omega)
        rw [add_add] at this
        rw [this, hj]
      obtain ⟨xs, hxl, hx⟩ := list_of _ len each
      have hmx : maxLen ≤ 9223372036854775807 := by unfold maxLen; omega
      refine ⟨xs, ⟨some a, cap, by rw [hxl], by omega, rfl, by omega, fun _ => ⟨a, rfl, fun j p hj => (hx j p hj).2⟩⟩, by omega, fun x hx' => ?_⟩
      obtain ⟨i, hi⟩ := List.getElem?_of_mem hx'
      exact (hx i x hi).1⟩

theorem opensF_one {f : Field} {off : Nat} {α : Type} {K : Kd α} {ok : α → Prop} (ho : f.offset = off) (h : Opens P f.type K ok) : OpensF P [f] off K ok :=
  ⟨fun {H enc w held fuel cs} hl hf => by
    obtain ⟨y, hy⟩ := hf f (by simp)
    rw [ho, h.cells, List.take_of_length_le (by simp; omega)] at hy
    exact h.out hy⟩
theorem opensF_cons {f : Field} {fs : List Field} {off off' : Nat} {α β : Type} {K : Kd α} {L : Kd β} {ok : α → Prop} {ok' : β → Prop} (ho : f.offset = off) (h : Opens P f.type K ok) (ho' : off' = off + K.sz) (hr : OpensF P fs off' L ok') :
    OpensF P (f :: fs) off (Kd.pair K L) (fun x => ok x.1 ∧ ok' x.2) :=
  ⟨fun {H enc w held fuel cs} hl hf => by
    obtain ⟨y, hy⟩ := hf f (by simp)
    rw [ho, h.cells] at hy
    obtain ⟨x0, hK0, o0⟩ := h.out hy
    have hl' : cs.length = off + (K.sz + L.sz) := hl
    obtain ⟨x1, hK1, o1⟩ := hr.out (held := held) (by omega) (fun g hg => hf g (List.mem_cons_of_mem _ hg))
    refine ⟨(x0, x1), ⟨(cs.drop off).take K.sz, cs.drop off', ?_, hK0, hK1⟩, o0, o1⟩
    rw [ho', ← List.drop_drop, List.take_append_drop]⟩
theorem opens_struct {fs : Array Field} {α β : Type} {K : Kd α} {ok : α → Prop} (hu : P.underlying t = some (.struct fs)) (hc : P.cellsOf t = K.sz) (h : OpensF P fs.toList 0 K ok) (f : β → α) (g : α → β) (hfg : ∀ a, f (g a) = a) :
    Opens P t (Kd.iso K f) (fun x => ok (f x)) :=
  ⟨hc, fun {H enc w held fuel cs y} ht => by
    obtain ⟨xs, n, _, _, hl, hxl, hx⟩ := DataW.trod_struct hu ht
    obtain ⟨a, hK, ho⟩ := h.out (enc := enc) (w := w) (held := held) (fuel := n) (cs := cs) (by rw [hl, hc, Nat.zero_add]) (fun fd hm => by
      obtain ⟨i, hi⟩ := List.getElem?_of_mem hm
      have hi' : fs[i]? = some fd := by simpa using hi
      have hb : i < fs.size := (Array.getElem?_eq_some_iff.1 hi').1
      exact ⟨xs[i]'(by omega), by rw [hx i fd hi', List.getElem?_eq_getElem (by omega)]⟩)
    refine ⟨g a, ?_, ?_⟩
    · show K.K w (f (g a)) cs
      rw [hfg]
      exact hK
    · show ok (f (g a))
      rw [hfg]
      exact ho⟩
end
end Go.Proofs.Ytkocconggohdgaa.Open
