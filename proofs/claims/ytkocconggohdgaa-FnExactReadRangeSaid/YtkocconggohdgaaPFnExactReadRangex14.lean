/- Functions of the given program as plain Lean functions, each with a proof that the Go code answers just so; walked by hand. Conditions: those that each theorem names. -/
import Derived.Test.YtkocconggohdgaaPFnExactReadRangex13
namespace Go.Proofs.Ytkocconggohdgaa.PFnExactReadRange
open Go.RowKit Go.Proofs.YtkocconggohdgaaW.PrintWords Go.Proofs.YtkocconggohdgaaW.PrintLast Go.Proofs.YtkocconggohdgaaW.PrintMore
attribute [local go_sem] max2_int min2_int max_two min_two max_three min_three max_four min_four   -- for this text's walks alone
set_option linter.unusedVariables false
set_option linter.unusedSimpArgs false
theorem heap80 : Kd.Heap k80 := Kd.heap_iso _ (Kd.heap_pair (Kd.heap_int _) (Kd.heap_slice _ (Kd.heap_int _)))
theorem C0 {α : Type} (d : Kd α) (w : World) (A : Option Addr) : d.C w A ([] : List α).length [] := ⟨rfl, by simp, fun h => absurd h (Nat.lt_irrefl 0)⟩
theorem drawn_below {w w' : World} (h : Drawn0 w w') : Below w.heap.size w w' := by
  obtain ⟨n, rfl⟩ := h
  exact pw_below_drewN (Below.refl _ _) _
theorem cells5 {W : World} {g : Nat} {t : TypeId} {a b c d e : Value} (h : W.heap[g]? = some (.cells #[a, b, c, d, e] t (0, 0))) :
    (W.cell? ⟨g, 0, none⟩ = some a ∧ W.cell? ⟨g, 1, none⟩ = some b ∧ W.cell? ⟨g, 2, none⟩ = some c ∧ W.cell? ⟨g, 3, none⟩ = some d ∧ W.cell? ⟨g, 4, none⟩ = some e) ∧ (W.frozen? ⟨g, 0, none⟩ = false ∧ W.frozen? ⟨g, 1, none⟩ = false ∧ W.frozen? ⟨g, 2, none⟩ = false ∧ W.frozen? ⟨g, 3, none⟩ = false ∧ W.frozen? ⟨g, 4, none⟩ = false) :=
  ⟨⟨blk_cell h 0, blk_cell h 1, blk_cell h 2, blk_cell h 3, blk_cell h 4⟩, ⟨blk_frozen h 0, blk_frozen h 1, blk_frozen h 2, blk_frozen h 3, blk_frozen h 4⟩⟩
theorem put5 {W : World} {g : Nat} {t : TypeId} {a b c d e : Value} (h : W.heap[g]? = some (.cells #[a, b, c, d, e] t (0, 0))) (v0 v1 v2 v3 v4 : Value) :
    (((((W.setCell ⟨g, 0, none⟩ v0).setCell ⟨g, 1, none⟩ v1).setCell ⟨g, 2, none⟩ v2).setCell ⟨g, 3, none⟩ v3).setCell ⟨g, 4, none⟩ v4).heap[g]? = some (.cells #[v0, v1, v2, v3, v4] t (0, 0)) :=
  blk_put (cs := #[v0, v1, v2, v3, e]) (blk_put (cs := #[v0, v1, v2, d, e]) (blk_put (cs := #[v0, v1, c, d, e]) (blk_put (cs := #[v0, b, c, d, e]) (blk_put (cs := #[a, b, c, d, e]) h 0 v0 rfl) 1 v1 rfl) 2 v2 rfl) 3 v3 rfl) 4 v4 rfl
theorem below_put5 {W w : World} {B g : Nat} (h : Below B w W) (hg : B ≤ g) (v0 v1 v2 v3 v4 : Value) : Below B w (((((W.setCell ⟨g, 0, none⟩ v0).setCell ⟨g, 1, none⟩ v1).setCell ⟨g, 2, none⟩ v2).setCell ⟨g, 3, none⟩ v3).setCell ⟨g, 4, none⟩ v4) :=
  ((((h.setCell hg v0).setCell hg v1).setCell hg v2).setCell hg v3).setCell hg v4
theorem S_put5 {α : Type} {d : Kd α} {e : Nat} {W : World} {base g : Nat} {ok : Nat → Prop} {v : Value} {xs : List α} (h : Kd.S d e W base ok v xs) (hok : ∀ k, ok k → k ≠ g) (v0 v1 v2 v3 v4 : Value) :
    Kd.S d e (((((W.setCell ⟨g, 0, none⟩ v0).setCell ⟨g, 1, none⟩ v1).setCell ⟨g, 2, none⟩ v2).setCell ⟨g, 3, none⟩ v3).setCell ⟨g, 4, none⟩ v4) base ok v xs :=
  Kd.S_far (p := ⟨g, 4, none⟩) (Kd.S_far (p := ⟨g, 3, none⟩) (Kd.S_far (p := ⟨g, 2, none⟩) (Kd.S_far (p := ⟨g, 1, none⟩) (Kd.S_far (p := ⟨g, 0, none⟩) h hok v0) hok v1) hok v2) hok v3) hok v4
theorem R_put5 {α : Type} {d : Kd α} {e : Nat} {W : World} {base g : Nat} {ok : Nat → Prop} {v : Value} {xs : List α} (h : d.R e W base ok v xs) (hok : ∀ k, ok k → k ≠ g) (v0 v1 v2 v3 v4 : Value) :
    d.R e (((((W.setCell ⟨g, 0, none⟩ v0).setCell ⟨g, 1, none⟩ v1).setCell ⟨g, 2, none⟩ v2).setCell ⟨g, 3, none⟩ v3).setCell ⟨g, 4, none⟩ v4) base ok v xs :=
  Kd.R_far (p := ⟨g, 4, none⟩) (Kd.R_far (p := ⟨g, 3, none⟩) (Kd.R_far (p := ⟨g, 2, none⟩) (Kd.R_far (p := ⟨g, 1, none⟩) (Kd.R_far (p := ⟨g, 0, none⟩) h hok v0) hok v1) hok v2) hok v3) hok v4
/-- What FetchBlock and ReadRange hold while they run: the boxes of the cache and the file, the answer's block. -/
structure Ans (w W : World) (u s : Int) (vl vf : Value) : Prop where
  B : Below w.heap.size w W
  bc : W.heap[w.heap.size]? = some (.cells #[.int .i64 u, .int .i64 s, vl] 25 (0, 0))
  bf : W.heap[w.heap.size + 1]? = some (.cells #[vf] 44 (0, 0))
  br : W.heap[w.heap.size + 1 + 1]? = some (.cells #[.int .i64 0, .slice none 0 0, .int .i64 0, .int .i64 0, .slice none 0 0] 27 (0, 0))
theorem Ans.below {w W W' : World} {u s : Int} {vl vf : Value} (h : Ans w W u s vl vf) (hb : Below W.heap.size W W') : Ans w W' u s vl vf := ⟨below_step h.B hb, blk_below h.bc hb, blk_below h.bf hb, blk_below h.br hb⟩
theorem Ans.start (w : World) (u s : Int) (vl vf : Value) : Ans w (((w.alloc (.cells #[.int .i64 u, .int .i64 s, vl] 25)).alloc (.cells #[vf] 44)).alloc (.cells #[.int .i64 0, .slice none 0 0, .int .i64 0, .int .i64 0, .slice none 0 0] 27)) u s vl vf :=
  ⟨below_alloc (below_alloc (below_alloc (Below.refl _ _) _) _) _, blk_alloc (blk_alloc (blk_new _ _) _) _, blk_alloc (blk_new_at _ _ _ (by simp)) _, blk_new_at _ _ _ (by simp)⟩
def impl_ReadRange.f (k : Nat) (u s : Int) (l : List S80) (f : List Int) (at_ n most : Int) : Option (Int × List Int × Int × Int × List S80) :=
  (impl_cacheCode.f k u s l f).bind fun c => if c = 0 then (impl_within.f at_ 0 400).bind fun b0 => (if b0 = true then impl_within.f n 0 400 else some false).bind fun b1 => (if b1 = true then impl_isMost.f most else some false).bind fun b2 => if b2 = true then (impl_read.f k u s l f at_ n most).bind fun r => (slices_Clone_byte_byte.f r.1).bind fun b => (impl_ownCache.f k u s r.2).bind fun o => some (0, b, o.1, o.2.1, o.2.2) else some (3, [], 0, 0, []) else some (c, [], 0, 0, [])
set_option maxHeartbeats 8000000 in
set_option maxRecDepth 100000 in
theorem impl_ReadRange.calls (k : Nat) (u s : Int) (A : Option Addr) (c : Nat) (l : List (S80)) (Af : Option Addr) (cf : Nat) (f : List Int) (at_ n most : Int) (r1 : Int) (r2 : List Int) (r3 : Int) (r4 : Int) (r5 : List (S80)) (w : World) (hr0_2 : Kd.C k80 w A l.length l) (hc0_2 : l.length ≤ c) (hr1_0 : Kd.C (Kd.int .u8) w Af f.length f) (hc1_0 : f.length ≤ cf) (h : impl_ReadRange.f k u s l f at_ n most = some (r1, r2, r3, r4, r5)) :
    Calls Try.prog 33 #[.agg #[.int .i64 u, .int .i64 s, .slice A l.length c], .agg #[.slice Af f.length cf], .int .i64 at_, .int .i64 n, .int .i64 most] w fun e w' => ∃ v1_ v4_ : Value, e = .returned (.agg #[.int .i64 r1, v1_, .int .i64 r3, .int .i64 r4, v4_]) ∧ Kd.R (Kd.int .u8) 5 w' w.heap.size (fun _ => True) v1_ r2 ∧ Kd.S k80 80 w' w.heap.size (fun k_ => some k_ ≠ (v1_ : Value).ownBlock) v4_ r5 ∧ Below w.heap.size w w' := by
  have hu25 := Try.underlying25
  have hu44 := Try.underlying44
  have hu27 := Try.underlying27
  unfold impl_ReadRange.f at h
  obtain ⟨cc, hcc, h⟩ := Option.bind_eq_some_iff.1 h
  have hS0 := Ans.start w u s (.slice A l.length c) (.slice Af f.length cf)
  have hcall := impl_cacheCode.calls k u s A c l Af cf f cc _ (Kd.C_below hr0_2 hS0.B) hc0_2 (Kd.C_below hr1_0 hS0.B) hc1_0 hcc
  have HF := Aside0.mk (Kd.C_F heap80 hr0_2)
  have HFf := Aside0.mk (Kd.C_F (Kd.heap_int .u8) hr1_0)
  have HS0 := Aside0.mk hS0
  have HC := Aside0.mk hc0_2
  have HCf := Aside0.mk hc1_0
  clear hS0 hcc hr0_2 hr1_0
  by_cases hc0 : cc = 0
  · rw [if_pos hc0] at h
    subst hc0
    obtain ⟨b0, hb0, h⟩ := Option.bind_eq_some_iff.1 h
    obtain ⟨b1, hb1, h⟩ := Option.bind_eq_some_iff.1 h
    obtain ⟨b2, hb2, h⟩ := Option.bind_eq_some_iff.1 h
    have HW0 := Aside0.mk hb0
    clear hb0
    cases b0 with
    | false =>
      obtain rfl : false = b1 := by simpa using hb1
      obtain rfl : false = b2 := by simpa using hb2
      obtain ⟨rfl, rfl, rfl, rfl, rfl⟩ : 3 = r1 ∧ [] = r2 ∧ 0 = r3 ∧ 0 = r4 ∧ [] = r5 := by simpa using h
      clear h hb1 hb2
      go_enter Try.func33, Try.ntmps33
      go_wp2_with (first | (go_at_call 59; refine hcall.mono ?_; rintro e w1 ⟨rfl, hb⟩; have HS := Aside0.mk (HS0.out.below hb); obtain ⟨⟨z0, z1, z2⟩, _⟩ := cells3 HS.out.bc; have z3 := cells1 HS.out.bf; obtain ⟨⟨r0, r1, r2, r3, r4⟩, ⟨v0, v1, v2, v3, v4⟩⟩ := cells5 HS.out.br; clear hb) | (go_at_call 52; with_reducible refine (impl_within.calls at_ 0 400 false _ HW0.out).mono ?_; rintro e w2 ⟨rfl, hd⟩; replace HS := Aside0.mk (HS.out.below (drawn_below hd)); clear z0 z1 z2 z3 r0 r1 r2 r3 r4 v0 v1 v2 v3 v4; obtain ⟨⟨z0, z1, z2⟩, _⟩ := cells3 HS.out.bc; have z3 := cells1 HS.out.bf; obtain ⟨⟨r0, r1, r2, r3, r4⟩, ⟨v0, v1, v2, v3, v4⟩⟩ := cells5 HS.out.br; clear hd))
      refine bodyPost_ret (results_cell_row rfl _ _ (w.heap.size + 1 + 1) 27 #[.int .i64 3, .slice none 0 0, .int .i64 0, .int .i64 0, .slice none 0 0] (0, 0) _ rfl (put5 HS.out.br _ _ _ _ _) Try.underlying27 rfl (by kernel_rfl)) rfl ?_
      refine ⟨_, _, rfl, Kd.R_nil _ _ _ _ _, Kd.S_nil _ _ _ _ _, ?_⟩
      exact below_put5 HS.out.B (by omega) _ _ _ _ _
    | true =>
      have HW1 := Aside0.mk (show impl_within.f n 0 400 = some b1 by simpa using hb1)
      clear hb1
      cases b1 with
      | false =>
        obtain rfl : false = b2 := by simpa using hb2
        obtain ⟨rfl, rfl, rfl, rfl, rfl⟩ : 3 = r1 ∧ [] = r2 ∧ 0 = r3 ∧ 0 = r4 ∧ [] = r5 := by simpa using h
        clear h hb2
        go_enter Try.func33, Try.ntmps33
        go_wp2_with (first | (go_at_call 59; refine hcall.mono ?_; rintro e w1 ⟨rfl, hb⟩; have HS := Aside0.mk (HS0.out.below hb); obtain ⟨⟨z0, z1, z2⟩, _⟩ := cells3 HS.out.bc; have z3 := cells1 HS.out.bf; obtain ⟨⟨r0, r1, r2, r3, r4⟩, ⟨v0, v1, v2, v3, v4⟩⟩ := cells5 HS.out.br; clear hb) | (go_at_call 52; with_reducible refine (impl_within.calls at_ 0 400 true _ HW0.out).mono ?_; rintro e w2 ⟨rfl, hd⟩; replace HS := Aside0.mk (HS.out.below (drawn_below hd)); clear z0 z1 z2 z3 r0 r1 r2 r3 r4 v0 v1 v2 v3 v4; obtain ⟨⟨z0, z1, z2⟩, _⟩ := cells3 HS.out.bc; have z3 := cells1 HS.out.bf; obtain ⟨⟨r0, r1, r2, r3, r4⟩, ⟨v0, v1, v2, v3, v4⟩⟩ := cells5 HS.out.br; clear hd) | (go_at_call 52; with_reducible refine (impl_within.calls n 0 400 false _ HW1.out).mono ?_; rintro e w2 ⟨rfl, hd⟩; replace HS := Aside0.mk (HS.out.below (drawn_below hd)); clear z0 z1 z2 z3 r0 r1 r2 r3 r4 v0 v1 v2 v3 v4; obtain ⟨⟨z0, z1, z2⟩, _⟩ := cells3 HS.out.bc; have z3 := cells1 HS.out.bf; obtain ⟨⟨r0, r1, r2, r3, r4⟩, ⟨v0, v1, v2, v3, v4⟩⟩ := cells5 HS.out.br; clear hd))
        refine bodyPost_ret (results_cell_row rfl _ _ (w.heap.size + 1 + 1) 27 #[.int .i64 3, .slice none 0 0, .int .i64 0, .int .i64 0, .slice none 0 0] (0, 0) _ rfl (put5 HS.out.br _ _ _ _ _) Try.underlying27 rfl (by kernel_rfl)) rfl ?_
        refine ⟨_, _, rfl, Kd.R_nil _ _ _ _ _, Kd.S_nil _ _ _ _ _, ?_⟩
        exact below_put5 HS.out.B (by omega) _ _ _ _ _
      | true =>
        have HW2 := Aside0.mk (show impl_isMost.f most = some b2 by simpa using hb2)
        clear hb2
        cases b2 with
        | false =>
          obtain ⟨rfl, rfl, rfl, rfl, rfl⟩ : 3 = r1 ∧ [] = r2 ∧ 0 = r3 ∧ 0 = r4 ∧ [] = r5 := by simpa using h
          clear h
          go_enter Try.func33, Try.ntmps33
          go_wp2_with (first | (go_at_call 59; refine hcall.mono ?_; rintro e w1 ⟨rfl, hb⟩; have HS := Aside0.mk (HS0.out.below hb); obtain ⟨⟨z0, z1, z2⟩, _⟩ := cells3 HS.out.bc; have z3 := cells1 HS.out.bf; obtain ⟨⟨r0, r1, r2, r3, r4⟩, ⟨v0, v1, v2, v3, v4⟩⟩ := cells5 HS.out.br; clear hb) | (go_at_call 52; with_reducible refine (impl_within.calls at_ 0 400 true _ HW0.out).mono ?_; rintro e w2 ⟨rfl, hd⟩; replace HS := Aside0.mk (HS.out.below (drawn_below hd)); clear z0 z1 z2 z3 r0 r1 r2 r3 r4 v0 v1 v2 v3 v4; obtain ⟨⟨z0, z1, z2⟩, _⟩ := cells3 HS.out.bc; have z3 := cells1 HS.out.bf; obtain ⟨⟨r0, r1, r2, r3, r4⟩, ⟨v0, v1, v2, v3, v4⟩⟩ := cells5 HS.out.br; clear hd) | (go_at_call 52; with_reducible refine (impl_within.calls n 0 400 true _ HW1.out).mono ?_; rintro e w2 ⟨rfl, hd⟩; replace HS := Aside0.mk (HS.out.below (drawn_below hd)); clear z0 z1 z2 z3 r0 r1 r2 r3 r4 v0 v1 v2 v3 v4; obtain ⟨⟨z0, z1, z2⟩, _⟩ := cells3 HS.out.bc; have z3 := cells1 HS.out.bf; obtain ⟨⟨r0, r1, r2, r3, r4⟩, ⟨v0, v1, v2, v3, v4⟩⟩ := cells5 HS.out.br; clear hd) | (go_at_call 67; refine (impl_isMost.calls most false _ HW2.out).mono ?_; rintro e w3 ⟨rfl, hd⟩; replace HS := Aside0.mk (HS.out.below (drawn_below hd)); clear z0 z1 z2 z3 r0 r1 r2 r3 r4 v0 v1 v2 v3 v4; obtain ⟨⟨z0, z1, z2⟩, _⟩ := cells3 HS.out.bc; have z3 := cells1 HS.out.bf; obtain ⟨⟨r0, r1, r2, r3, r4⟩, ⟨v0, v1, v2, v3, v4⟩⟩ := cells5 HS.out.br; clear hd))
          refine bodyPost_ret (results_cell_row rfl _ _ (w.heap.size + 1 + 1) 27 #[.int .i64 3, .slice none 0 0, .int .i64 0, .int .i64 0, .slice none 0 0] (0, 0) _ rfl (put5 HS.out.br _ _ _ _ _) Try.underlying27 rfl (by kernel_rfl)) rfl ?_
          refine ⟨_, _, rfl, Kd.R_nil _ _ _ _ _, Kd.S_nil _ _ _ _ _, ?_⟩
          exact below_put5 HS.out.B (by omega) _ _ _ _ _
        | true =>
          rw [if_pos rfl] at h
          obtain ⟨⟨rb, rl⟩, h1, h⟩ := Option.bind_eq_some_iff.1 h
          obtain ⟨b, h2, h⟩ := Option.bind_eq_some_iff.1 h
          obtain ⟨⟨o1, o2, o3⟩, h3, h⟩ := Option.bind_eq_some_iff.1 h
          obtain ⟨rfl, rfl, rfl, rfl, rfl⟩ : 0 = r1 ∧ b = r2 ∧ o1 = r3 ∧ o2 = r4 ∧ o3 = r5 := by simpa using h
          have H1 := Aside0.mk h1
          have H2 := Aside0.mk h2
          have H3 := Aside0.mk h3
          clear h h1 h2 h3
          go_enter Try.func33, Try.ntmps33
          go_wp2_with (first | (go_at_call 59; refine hcall.mono ?_; rintro e w1 ⟨rfl, hb⟩; have HS := Aside0.mk (HS0.out.below hb); obtain ⟨⟨z0, z1, z2⟩, _⟩ := cells3 HS.out.bc; have z3 := cells1 HS.out.bf; obtain ⟨⟨r0, r1, r2, r3, r4⟩, ⟨v0, v1, v2, v3, v4⟩⟩ := cells5 HS.out.br; clear hb) | (go_at_call 52; with_reducible refine (impl_within.calls at_ 0 400 true _ HW0.out).mono ?_; rintro e w2 ⟨rfl, hd⟩; replace HS := Aside0.mk (HS.out.below (drawn_below hd)); clear z0 z1 z2 z3 r0 r1 r2 r3 r4 v0 v1 v2 v3 v4; obtain ⟨⟨z0, z1, z2⟩, _⟩ := cells3 HS.out.bc; have z3 := cells1 HS.out.bf; obtain ⟨⟨r0, r1, r2, r3, r4⟩, ⟨v0, v1, v2, v3, v4⟩⟩ := cells5 HS.out.br; clear hd) | (go_at_call 52; with_reducible refine (impl_within.calls n 0 400 true _ HW1.out).mono ?_; rintro e w2 ⟨rfl, hd⟩; replace HS := Aside0.mk (HS.out.below (drawn_below hd)); clear z0 z1 z2 z3 r0 r1 r2 r3 r4 v0 v1 v2 v3 v4; obtain ⟨⟨z0, z1, z2⟩, _⟩ := cells3 HS.out.bc; have z3 := cells1 HS.out.bf; obtain ⟨⟨r0, r1, r2, r3, r4⟩, ⟨v0, v1, v2, v3, v4⟩⟩ := cells5 HS.out.br; clear hd) | (go_at_call 67; refine (impl_isMost.calls most true _ HW2.out).mono ?_; rintro e w3 ⟨rfl, hd⟩; replace HS := Aside0.mk (HS.out.below (drawn_below hd)); clear z0 z1 z2 z3 r0 r1 r2 r3 r4 v0 v1 v2 v3 v4; obtain ⟨⟨z0, z1, z2⟩, _⟩ := cells3 HS.out.bc; have z3 := cells1 HS.out.bf; obtain ⟨⟨r0, r1, r2, r3, r4⟩, ⟨v0, v1, v2, v3, v4⟩⟩ := cells5 HS.out.br; clear hd) | (go_at_call 72; refine (impl_read.calls k u s l f at_ n most rb rl w.heap.size A c Af cf w w3 HS.out.B (Nat.le_refl _) HS.out.bc (Kd.F_mono (Kd.F_step HF.out (fun k hk hlt => HS.out.B.block k hlt)) (fun k hk => by omega)) HC.out (Kd.F_mono (Kd.F_step HFf.out (fun k hk hlt => HS.out.B.block k hlt)) (fun k hk => by omega)) HCf.out H1.out).mono ?_; rintro e w4 ⟨Bb, cb, Ar, cr, rfl, hg4, hF4, hc4, hFb4, hcb4, hK4, hB4⟩; have HS4 : Aside0 (Ans w w4 u s (.slice Ar rl.length cr) (.slice Af f.length cf)) := ⟨⟨hB4, hg4, blk_kept HS.out.bf hK4 (by omega), blk_kept HS.out.br hK4 (by omega)⟩⟩; have HF4 := Aside0.mk (Kd.F_now hF4); have HFb4 := Aside0.mk (Kd.F_now hFb4); have HC4 := Aside0.mk hc4; have HCb4 := Aside0.mk hcb4; clear z0 z1 z2 z3 r0 r1 r2 r3 r4 v0 v1 v2 v3 v4 hg4 hF4 hc4 hFb4 hcb4 hK4 hB4; obtain ⟨⟨z0, z1, z2⟩, _⟩ := cells3 HS4.out.bc; obtain ⟨⟨r0, r1, r2, r3, r4⟩, ⟨v0, v1, v2, v3, v4⟩⟩ := cells5 HS4.out.br))
          clear z0 z1 z2 r0 r1 r2 r3 r4 v0 v1 v2 v3 v4
          replace HS4 := Aside0.mk (HS4.out.below (below_drew (Below.refl _ _)))
          replace HF4 := Aside0.mk (Kd.C_drew HF4.out)
          replace HFb4 := Aside0.mk (Kd.C_drew HFb4.out)
          refine start_ (n := 6) (S := fun w' => w'.cell? ⟨w.heap.size, 0, none⟩ = some (.int .i64 u) ∧ w'.cell? ⟨w.heap.size, 1, none⟩ = some (.int .i64 s) ∧ w'.cell? ⟨w.heap.size, 2, none⟩ = some (.slice Ar rl.length cr)) (ds := [5]) #[false, false, false, false, false, false] (by kernel_rfl) rfl rfl ⟨(blk_cell HS4.out.bc 0).trans rfl, (blk_cell HS4.out.bc 1).trans rfl, (blk_cell HS4.out.bc 2).trans rfl⟩ (fun hHeld => ?_)
          generalize w4.drew = w5 at HS4 HF4 HFb4 hHeld ⊢
          have hw5 := Nat.lt_of_lt_of_le (blk_lt HS4.out.br) (Nat.le_refl _)
          refine pure_ (i := 0) (N := some 39) (v := ?_) (a' := ?_) #[true, false, false, false, false, false] rfl rfl (by kernel_rfl) (fun _ _ _ h => h) (Or.inl ⟨by rfl, ?_⟩) ?_ ?_
          rotate_left; (intro w'; go_simp; with_reducible rfl); rotate_left; (simp only [Act.put, List.setIfInBounds_toArray, List.set_cons_zero, List.set_cons_succ, i64_w, i32_w]; rfl)
          refine take_ (i := 2) (N := some 41) (v := ?_) (a' := ?_) #[true, false, true, false, false, false] rfl rfl (by kernel_rfl) (fun _ _ _ h => h) (Or.inl ⟨by rfl, ?_⟩) hHeld ?_ ?_
          rotate_left; (rintro w' ⟨s0, s1, s2⟩; go_simp; with_reducible rfl); rotate_left; (simp only [Act.put, List.setIfInBounds_toArray, List.set_cons_zero, List.set_cons_succ, i64_w, i32_w]; rfl)
          refine one_ (i := 1) (N := some 40) #[true, true, true, false, false, false] rfl rfl (by kernel_rfl) (by decide) (fun K hK => ?_)
          refine goes_ Try.func69 (by kernel_rfl) rfl #[.slice Bb rb.length cb] (by rfl) rfl rfl (by simp only [List.map_toArray, List.map_cons, List.map_nil]; rfl) ?_
          with_reducible refine (slices_Clone_byte_byte.calls Bb cb rb b _ HFb4.out HCb4.out H2.out).mono ?_
          rintro e w6 ⟨v6, rfl, hR6, hb6⟩
          refine ⟨_, rfl, ?_⟩
          obtain ⟨A6, c6, ev6⟩ := Kd.R_slice hR6
          subst ev6
          replace HS4 := Aside0.mk (HS4.out.below hb6)
          replace HF4 := Aside0.mk (Kd.C_below HF4.out hb6)
          have HR6 := Aside0.mk hR6
          have HL6 := Aside0.mk hb6.size
          clear hR6 hb6
          refine hK.out _ _ ⟨(blk_cell HS4.out.bc 0).trans rfl, (blk_cell HS4.out.bc 1).trans rfl, (blk_cell HS4.out.bc 2).trans rfl⟩ (fun hHeld => ?_)
          clear hK K
          refine norm_ (a' := ?_) ?_ ?_
          rotate_left
          · show Act.put _ (some 40) _ = _
            simp only [Act.put, List.setIfInBounds_toArray, List.set_cons_zero, List.set_cons_succ, i64_w, i32_w]
            rfl
          refine one_ (i := 3) (N := some 42) #[true, true, true, true, false, false] rfl rfl (by kernel_rfl) (by decide) (fun K hK => ?_)
          refine goes_ Try.func62 (by kernel_rfl) rfl #[.agg #[.int .i64 u, .int .i64 s, .slice Ar rl.length cr]] (by rfl) rfl rfl (by simp only [List.map_toArray, List.map_cons, List.map_nil]; rfl) ?_
          with_reducible refine (impl_ownCache.calls k u s Ar cr rl o1 o2 o3 _ HF4.out HC4.out H3.out).mono ?_
          rintro e w7 ⟨v7, rfl, hS7, hb7⟩
          refine ⟨_, rfl, ?_⟩
          obtain ⟨A7, c7, ev7⟩ := Kd.S_slice hS7
          subst ev7
          have hlt6 := Kd.R_lt HR6.out
          replace HS4 := Aside0.mk (HS4.out.below hb7)
          have HR7 := Aside0.mk (Kd.R_below HR6.out hb7)
          have HS7 := Aside0.mk (Kd.S_new' (u := .slice A6 b.length c6) hS7 hlt6)
          clear hS7 hb7 hlt6
          refine hK.out _ _ ⟨(blk_cell HS4.out.bc 0).trans rfl, (blk_cell HS4.out.bc 1).trans rfl, (blk_cell HS4.out.bc 2).trans rfl⟩ (fun hHeld => ?_)
          clear hK K
          refine norm_ (a' := ?_) ?_ ?_
          rotate_left
          · show Act.put _ (some 42) _ = _
            simp only [Act.put, List.setIfInBounds_toArray, List.set_cons_zero, List.set_cons_succ, i64_w, i32_w]
            rfl
          refine pure_ (i := 4) (N := some 43) (v := ?_) (a' := ?_) #[true, true, true, true, true, false] rfl rfl (by kernel_rfl) (fun _ _ _ h => h) (Or.inl ⟨by rfl, ?_⟩) ?_ ?_
          rotate_left; (intro w'; go_simp; with_reducible rfl); rotate_left; (simp only [Act.put, List.setIfInBounds_toArray, List.set_cons_zero, List.set_cons_succ, i64_w, i32_w]; rfl)
          refine last_ (i := 5) (N := none) #[true, true, true, true, true, true] rfl rfl (by kernel_rfl) (by decide) (fun K hK => ?_)
          obtain ⟨⟨r0, r1, r2, r3, r4⟩, ⟨v0, v1, v2, v3, v4⟩⟩ := cells5 HS4.out.br
          refine skip_ (w1 := ?_) (by rfl) rfl ?_ ?_
          rotate_left
          · go_simp
            rfl
          refine hK.out _ _ ?_
          clear hK K
          refine done_ (by kernel_rfl) ?_
          go_wp2
          refine bodyPost_ret (results_cell_row rfl _ _ (w.heap.size + 1 + 1) 27 #[.int .i64 0, .slice A6 b.length c6, .int .i64 o1, .int .i64 o2, .slice A7 o3.length c7] (0, 0) _ rfl (put5 HS4.out.br _ _ _ _ _) Try.underlying27 rfl (by kernel_rfl)) rfl ?_
          refine ⟨_, _, rfl, Kd.R_mono (Kd.R_lower (R_put5 (g := w.heap.size + 1 + 1) (Kd.R_bound HR7.out) (fun k hk => by have := hk.2.1; omega) _ _ _ _ _) (by omega)) (fun k _ => trivial), Kd.S_mono (Kd.S_lower (S_put5 (g := w.heap.size + 1 + 1) (Kd.S_bound HS7.out) (fun k hk => by have := hk.2.1; have := HL6.out; omega) _ _ _ _ _) (by have := HL6.out; omega)) (fun k hk => hk.1.2), below_put5 HS4.out.B (by omega) _ _ _ _ _⟩
  · rw [if_neg hc0] at h
    obtain ⟨rfl, rfl, rfl, rfl, rfl⟩ : cc = r1 ∧ [] = r2 ∧ 0 = r3 ∧ 0 = r4 ∧ [] = r5 := by simpa using h
    have hcb : (cc != 0) = true := bne_iff_ne.2 hc0
    have hcb2 : (cc == 0) = false := beq_eq_false_iff_ne.2 hc0
    clear h
    go_enter Try.func33, Try.ntmps33
    go_wp2_with (go_at_call 59; refine hcall.mono ?_; rintro e w1 ⟨rfl, hb⟩; have HS := Aside0.mk (HS0.out.below hb); obtain ⟨⟨z0, z1, z2⟩, _⟩ := cells3 HS.out.bc; have z3 := cells1 HS.out.bf; obtain ⟨⟨r0, r1, r2, r3, r4⟩, ⟨v0, v1, v2, v3, v4⟩⟩ := cells5 HS.out.br; clear hb)
    refine bodyPost_ret (results_cell_row rfl _ _ (w.heap.size + 1 + 1) 27 #[.int .i64 cc, .slice none 0 0, .int .i64 0, .int .i64 0, .slice none 0 0] (0, 0) _ rfl (put5 HS.out.br _ _ _ _ _) Try.underlying27 rfl (by kernel_rfl)) rfl ?_
    refine ⟨_, _, rfl, Kd.R_nil _ _ _ _ _, Kd.S_nil _ _ _ _ _, ?_⟩
    exact below_put5 HS.out.B (by omega) _ _ _ _ _
/-- laws.markBlockS: each block's number, then its bytes. -/
def laws_markBlockS.f (k : Nat) : List S80 → Int → Option (Int × List S80)
  | [], m => some (m, [])
  | b :: bs, m => (laws_markByteS.f k b.f1 (wrap64 (m + 1))).bind fun r => (laws_markBlockS.f k bs r.1).bind fun q => some (q.1, (⟨m, r.2⟩ : S80) :: q.2)
theorem grown_of {w0 W w1 : World} {b : Nat} {row : Option Nat} (h0 : Below b w0 W) (h1 : Below b w0 w1) (hk : Kept W w1 (fun k => some k = row)) : W.grownBy w1 row :=
  ⟨h1.os.trans h0.os.symm, h1.tape.trans h0.tape.symm, h1.output.trans h0.output.symm, hk.1, fun k hl hn => hk.2 k hl hn⟩
set_option maxHeartbeats 8000000 in
set_option maxRecDepth 100000 in
theorem laws_markBlockS.calls (k : Nat) (v : Value) (l0 : List S80) (a1 : Int) (r1 : Int) (r2 : List S80) (w0 w : World) (ok : Nat → Prop) (hB : Below w0.heap.size w0 w) (hS : Kd.S k80 80 w w0.heap.size ok v l0) (h : laws_markBlockS.f k l0 a1 = some (r1, r2)) :
    Calls Try.prog 65 #[v, .int .i64 a1] w fun e w' => e = .returned (.int .i64 r1) ∧ Kd.S k80 80 w' w0.heap.size ok v r2 ∧ Below w0.heap.size w0 w' ∧ Kept w w' ok := by
  have HS0 := Aside0.mk hS
  have HB0 := Aside0.mk hB
  have HH := Aside0.mk h
  obtain ⟨A0, c0, rfl⟩ := Kd.S_slice hS
  obtain ⟨_, hlc, hC⟩ := Kd.S_reads' hS
  have hmax := Kd.C_max hC
  clear hC hS hB h
  go_enter Try.func65, Try.ntmps65
  go_wp2
  go_loopg [1, 5] l0.length (fun gg s1 s5 wr => ∃ (i : Nat) (m : Int) (done rest tail : List S80), s1 = .int .i64 m ∧ s5 = .int .i64 i ∧ i = done.length ∧ done.length + rest.length = l0.length ∧ l0.length - i ≤ gg ∧ Aside0 (laws_markBlockS.f k rest m = some (r1, tail)) ∧ r2 = done ++ tail ∧ Aside0 (Kd.S k80 80 wr w0.heap.size ok (.slice A0 l0.length c0) (done ++ rest)) ∧ Aside0 (Below w0.heap.size w0 wr) ∧ Aside0 (Kept w wr ok))
  case atStart => exact ⟨0, a1, [], l0, r2, rfl, rfl, rfl, by simp, by omega, HH, rfl, HS0, HB0, ⟨Kept.refl _ _⟩⟩
  case round =>
    clear HH HS0
    obtain ⟨i, m, done, rest, tail, rfl, rfl, hi, hlen, hgg, HM, rfl, HS, HB, HK⟩ := hrel
    match rest, HM with
    | [], HM =>
      obtain ⟨rfl, rfl⟩ : m = r1 ∧ [] = tail := by simpa [laws_markBlockS.f] using HM.out
      obtain rfl : i = l0.length := by simp at hlen; omega
      have HLN := Aside0.mk hlen
      have HIN := Aside0.mk hi
      clear hlen hi
      have hltz : ¬ (l0.length : Int) < (l0.length : Int) := by omega
      go_wp2
      go_ret
      have h := HS.out
      rw [List.append_nil] at h
      exact ⟨rfl, h, HB.out, HK.out⟩
    | b :: bs, HM =>
      obtain ⟨⟨m1, b1⟩, hb1, hq⟩ := Option.bind_eq_some_iff.1 HM.out
      obtain ⟨⟨m2, t2⟩, ht2, hq2⟩ := Option.bind_eq_some_iff.1 hq
      obtain ⟨rfl, rfl⟩ : m2 = r1 ∧ (⟨m, b1⟩ : S80) :: t2 = tail := by simpa using hq2
      have hlt : i < l0.length := by simp at hlen; omega
      have hltz : (i : Int) < (l0.length : Int) := by omega
      obtain ⟨gb, cap, hv, hgb, hgl, _⟩ := Kd.S_form HS.out (by simp at hlen ⊢; omega)
      obtain ⟨rfl, rfl⟩ : A0 = some ⟨gb, 0, none⟩ ∧ c0 = cap := by simp at hv; exact ⟨hv.1, hv.2.2⟩
      clear hv hq hq2
      obtain ⟨oki, cs, hcsl, hM, hcc, hfz, hoki, hH⟩ := Kd.S_elem HS.out z80 (i : Int) (by omega) (by omega)
      have hgd : (done ++ b :: bs).getD ((i : Int).toNat) z80 = b := by subst hi; simp
      rw [hgd] at hM
      rw [Int.toNat_natCast] at hcc hfz
      obtain ⟨vb, rfl, hRb⟩ := k80_openM hM
      have q0 : wr.cell? ⟨gb, i * 2, none⟩ = some (.int .i64 b.f0) := hcc 0 _ rfl
      have q1 : wr.cell? ⟨gb, i * 2 + 1, none⟩ = some vb := hcc 1 _ rfl
      have f0 : wr.frozen? ⟨gb, i * 2, none⟩ = false := hfz 0
      obtain ⟨hS1, hg1⟩ := Kd.S_seg (okg := fun _ => False) (Kd.H_mono hH (fun k hk => ⟨hk, id⟩)) (by omega) (by omega) (seg := [.int .i64 m]) (j := 0) (x' := (⟨m, b.f1⟩ : S80)) (okp := oki) (by show 0 + 1 ≤ 2; omega) (k80_mkM wr w0.heap.size oki (⟨m, b.f1⟩ : S80) hRb) (fun k hk => .inl hk) (fun k hk => hk.elim)
      rw [Int.toNat_natCast] at hS1 hg1
      have hset : (done ++ b :: bs).set i (⟨m, b.f1⟩ : S80) = done ++ (⟨m, b.f1⟩ : S80) :: bs := by subst hi; simp
      rw [hset] at hS1
      have hB1 : Below w0.heap.size w0 (wr.setCells gb (i * 2 + 0) [.int .i64 m]) := HB.out.grown hg1 HB.out.size (fun k hk => by injection hk with hk; omega)
      have hK1 : Kept w (wr.setCells gb (i * 2 + 0) [.int .i64 m]) ok := Kept.of_grown hg1 HK.out (fun k hk => .inl ((Kd.S_R HS.out).1 k hk))
      obtain ⟨oki2, c2, hcsl2, hM2, hcc2, hoki2, hback⟩ := Kd.S_borrow hS1 z80 (i : Int) (by omega) (by omega)
      have hgd2 : (done ++ (⟨m, b.f1⟩ : S80) :: bs).getD ((i : Int).toNat) z80 = ⟨m, b.f1⟩ := by subst hi; simp
      rw [hgd2] at hM2
      obtain ⟨vb2, rfl, hRb2⟩ := k80_openM hM2
      have hW : wr.setCells gb (i * 2 + 0) [.int .i64 m] = wr.setCell ⟨gb, i * 2, none⟩ (.int .i64 m) := rfl
      have e1 : (wr.setCell ⟨gb, i * 2, none⟩ (.int .i64 m)).cell? ⟨gb, i * 2 + 1, none⟩ = some vb2 := by
        have h := hcc2 1 _ rfl
        rw [Int.toNat_natCast, add_plain] at h
        exact h
      have e2 : (wr.setCell ⟨gb, i * 2, none⟩ (.int .i64 m)).cell? ⟨gb, i * 2 + 1, none⟩ = some vb := (World.cell?_setCell_other _ _ _ _ (by intro h; simp only [Addr.mk.injEq] at h; omega)).trans q1
      obtain rfl : vb2 = vb := by rw [e1] at e2; exact Option.some.inj e2
      rw [Int.toNat_natCast] at hback
      have hset2 : (done ++ (⟨m, b.f1⟩ : S80) :: bs).set i (⟨m, b1⟩ : S80) = (done ++ [(⟨m, b1⟩ : S80)]) ++ bs := by subst hi; simp
      have hcall := laws_markByteS.calls k (fun k => some k = vb2.ownBlock) vb2 b.f1 (wrap64 (m + 1)) m1 b1 w0 _ hB1 (Kd.R_tight rfl hRb2) hb1
      rw [hW] at hcall hK1 hB1
      have HBK := Aside0.mk (fun (w1 : World) => @hback w1 vb2.ownBlock (⟨m, b1⟩ : S80))
      have HK1 := Aside0.mk hK1
      have HB1 := Aside0.mk hB1
      have HR2 := Aside0.mk hRb2.1
      have HO2 := Aside0.mk hoki2
      have HIN := Aside0.mk hi
      have HLN := Aside0.mk hlen
      clear hi hlen
      clear hcc hfz hoki hH hM hRb hS1 hg1 hM2 hcc2 hoki2 hback e1 e2 hRb2 hK1 hB1 hcsl hcsl2 hgd hgd2
      go_wp2_with (go_at_call 46; refine hcall.mono ?_; rintro e w2 ⟨rfl, hR3, hB3, hK3⟩; have hg2 := grown_of HB1.out hB3 hK3; have hS2 := HBK.out w2 hg2 (fun k hk => HR2.out k hk) (k80_mkM w2 w0.heap.size oki2 (⟨m, b1⟩ : S80) (Kd.R_mono (Kd.R_tight rfl hR3) (fun k hk => HR2.out k hk.symm))); have HS2 := Aside0.mk hS2; have HB3 := Aside0.mk hB3; have HK3 := Aside0.mk (Kept.of_grown hg2 HK1.out (fun k hk => .inl (HO2.out k (HR2.out k hk)).1)); clear hR3 hB3 hK3 hg2 hS2)
      go_roundg (l0.length - (i + 1))
      case measure => omega
      case rel =>
        refine ⟨i + 1, m1, done ++ [(⟨m, b1⟩ : S80)], bs, t2, rfl, by go_num, by have := HIN.out; simp; omega, by have hlen := HLN.out; simp at hlen ⊢; omega, by omega, ⟨ht2⟩, by simp, ?_, HB3, HK3⟩
        rw [← hset2]
        exact HS2
set_option maxHeartbeats 4000000 in
theorem laws_markCache.calls (k : Nat) (a b : Int) (v : Value) (l0 : List S80) (a1 : Int) (r1 : Int) (r2 : List S80) (w0 w : World) (ok : Nat → Prop) (hB : Below w0.heap.size w0 w) (hS : Kd.S k80 80 w w0.heap.size ok v l0) (h : laws_markBlockS.f k l0 a1 = some (r1, r2)) :
    Calls Try.prog 28 #[.agg #[.int .i64 a, .int .i64 b, v], .int .i64 a1] w fun e w' => e = .returned (.int .i64 r1) ∧ Kd.S k80 80 w' w0.heap.size ok v r2 ∧ Below w0.heap.size w0 w' ∧ Kept w w' ok := by
  have hu := Try.underlying25
  obtain ⟨A, c, rfl⟩ := Kd.S_slice hS
  have hcall := laws_markBlockS.calls k _ l0 a1 r1 r2 w0 (w.alloc (.cells #[.int .i64 a, .int .i64 b, .slice A l0.length c] 25)) ok (hB.alloc hB.size _) (Kd.S_alloc hS _) h
  clear hS h
  have HB := Aside0.mk hB
  clear hB
  go_enter Try.func28, Try.ntmps28
  go_wp2_with (go_at_call 65; refine hcall.mono ?_; rintro e w1 ⟨rfl, hs, hb, hk⟩; have HS := Aside0.mk hs; have HB1 := Aside0.mk hb; have HK := Aside0.mk hk; clear hs hb hk)
  go_ret
  exact ⟨rfl, HS.out, HB1.out, ((Kept.refl w ok).alloc _).then_ HK.out (fun k hk => .inl hk)⟩
theorem cells5b {W : World} {g : Nat} {t : TypeId} {a b c d e : Value} (h : W.heap[g]? = some (.cells #[a, b, c, d, e] t (0, 0))) :
    W.cell? ⟨g, 0, none⟩ = some a ∧ W.cell? ⟨g, 1, none⟩ = some b ∧ W.cell? ⟨g, 2, none⟩ = some c ∧ W.cell? ⟨g, 3, none⟩ = some d ∧ W.cell? ⟨g, 4, none⟩ = some e :=
  (cells5 h).1
set_option maxHeartbeats 4000000 in
theorem laws_markCacheResult.calls (k : Nat) (c : Int) (vb : Value) (lb : List Int) (a b : Int) (v : Value) (l0 : List S80) (a1 : Int) (m1 : Int) (rb : List Int) (r1 : Int) (r2 : List S80) (w0 w : World) (okb ok : Nat → Prop) (hap : ∀ k, okb k → ¬ ok k) (hB : Below w0.heap.size w0 w) (hR : Kd.R (Kd.int .u8) 5 w w0.heap.size okb vb lb) (hS : Kd.S k80 80 w w0.heap.size ok v l0) (hb : laws_markByteS.f k lb a1 = some (m1, rb)) (h : laws_markBlockS.f k l0 m1 = some (r1, r2)) :
    Calls Try.prog 14 #[.agg #[.int .i64 c, vb, .int .i64 a, .int .i64 b, v], .int .i64 a1] w fun e w' => e = .returned (.int .i64 r1) ∧ Kd.R (Kd.int .u8) 5 w' w0.heap.size okb vb rb ∧ Kd.S k80 80 w' w0.heap.size ok v r2 ∧ Below w0.heap.size w0 w' ∧ Kept w w' (fun k => okb k ∨ ok k) := by
  have hu := Try.underlying27
  have hu25 := Try.underlying25
  obtain ⟨A, ca, rfl⟩ := Kd.S_slice hS
  obtain ⟨A2, ca2, rfl⟩ := Kd.R_slice hR
  have hok := hR.1
  have hcall := laws_markByteS.calls k (fun k => some k = (Value.slice A2 lb.length ca2).ownBlock) _ lb a1 m1 rb w0 (w.alloc (.cells #[.int .i64 c, .slice A2 lb.length ca2, .int .i64 a, .int .i64 b, .slice A l0.length ca] 27)) (hB.alloc hB.size _) (Kd.R_tight rfl (Kd.R_alloc hR _)) hb
  have HS := Aside0.mk hS
  have HB := Aside0.mk hB
  have HOK := Aside0.mk hok
  have HAP := Aside0.mk hap
  have hbn := blk_new w (.cells #[.int .i64 c, .slice A2 lb.length ca2, .int .i64 a, .int .i64 b, .slice A l0.length ca] 27)
  have hne : ∀ k, some k = (Value.slice A2 lb.length ca2).ownBlock → k < w.heap.size := fun k hk => Kd.R_lt hR k hk.symm
  have HNE := Aside0.mk hne
  have HBN := Aside0.mk hbn
  clear hS hB hok hap hbn hne hR
  go_enter Try.func14, Try.ntmps14
  go_wp2_with (first | (go_at_call 46; refine hcall.mono ?_; rintro e w1 ⟨rfl, hr, hb1, hk1⟩; have hbk := blk_kept HBN.out hk1 (fun hh => by have := HNE.out _ hh; omega); obtain ⟨z0, z1, z2, z3, z4⟩ := cells5b hbk; have HR1 := Aside0.mk (Kd.R_tight rfl hr); have HB1 := Aside0.mk hb1; have HK1 := Aside0.mk hk1; have HS1 := Aside0.mk (Kd.S_kept (Kd.S_alloc HS.out _) hk1 (fun k hk hh => HAP.out k (HOK.out k hh.symm) hk)); clear hr hb1 hk1 hbk) | (go_at_call 28; refine (laws_markCache.calls k a b _ l0 m1 r1 r2 w0 w1 ok HB1.out HS1.out h).mono ?_; rintro e w2 ⟨rfl, hs2, hb2, hk2⟩; have HR2 := Aside0.mk (Kd.R_kept HR1.out hk2 (fun k hk hh => HAP.out k (HOK.out k hk.symm) hh)); have HS2 := Aside0.mk hs2; have HB2 := Aside0.mk hb2; have HK2 := Aside0.mk hk2; clear hs2 hb2 hk2))
  go_ret
  exact ⟨rfl, Kd.R_mono HR2.out (fun k hk => HOK.out k hk.symm), HS2.out, HB2.out, ((((Kept.refl w (fun k => okb k ∨ ok k)).alloc _).then_ HK1.out (fun k hk => .inl (.inl (HOK.out k hk.symm)))).then_ HK2.out (fun k hk => .inl (.inr hk)))⟩
end Go.Proofs.Ytkocconggohdgaa.PFnExactReadRange
