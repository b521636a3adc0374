/- Functions of the given program as plain Lean functions, each with a proof that the Go code answers just so; made by a program of this session out of the translation. Conditions: those that each theorem names. -/
import Derived.Test.YtkocconggohdgaaPFnExactNewCachex1
import Derived.Test.YtkocconggohdgaaPFnExactNewCachex2
import Derived.Test.YtkocconggohdgaaPFnExactNewCachex3
namespace Go.Proofs.Ytkocconggohdgaa.PFnExactNewCache
open Go.RowKit Go.Proofs.YtkocconggohdgaaW.PrintWords Go.Proofs.YtkocconggohdgaaW.PrintLast Go.Proofs.YtkocconggohdgaaW.PrintMore
attribute [local go_sem] max2_int min2_int max_two min_two max_three min_three max_four min_four   -- for this text's walks alone
set_option linter.unusedVariables false
set_option linter.unusedVariables false
set_option linter.unusedSimpArgs false
theorem C0 {α : Type} (d : Kd α) (w : World) (A : Option Addr) : d.C w A ([] : List α).length [] := ⟨rfl, by simp, fun h => absurd h (Nat.lt_irrefl 0)⟩
set_option maxHeartbeats 8000000 in
theorem mark0_46 (A : Option Addr) (c : Nat) (k : Int) (w : World) : Calls Try.prog 46 #[.slice A 0 c, .int .i64 k] w fun e w' => e = .returned (.int .i64 k) ∧ w' = w := by
  go_enter Try.func46, Try.ntmps46
  go_wp2_with fail
  go_loop [1, 5] (fun a i => a = .int .i64 k ∧ i = .int .i64 0) (fun _ _ => 0)
  case atStart => exact ⟨rfl, rfl⟩
  case round =>
    obtain ⟨rfl, rfl⟩ := hrel
    go_wp2
    go_ret
    exact ⟨rfl, rfl⟩
set_option maxHeartbeats 8000000 in
theorem mark0_65 (A : Option Addr) (c : Nat) (k : Int) (w : World) : Calls Try.prog 65 #[.slice A 0 c, .int .i64 k] w fun e w' => e = .returned (.int .i64 k) ∧ w' = w := by
  go_enter Try.func65, Try.ntmps65
  go_wp2_with fail
  go_loop [1, 5] (fun a i => a = .int .i64 k ∧ i = .int .i64 0) (fun _ _ => 0)
  case atStart => exact ⟨rfl, rfl⟩
  case round =>
    obtain ⟨rfl, rfl⟩ := hrel
    go_wp2
    go_ret
    exact ⟨rfl, rfl⟩
set_option maxHeartbeats 8000000 in
theorem mark0_28 (a b : Int) (A : Option Addr) (c : Nat) (k : Int) (w : World) : Calls Try.prog 28 #[.agg #[.int .i64 a, .int .i64 b, .slice A 0 c], .int .i64 k] w fun e w' => e = .returned (.int .i64 k) ∧ Below w.heap.size w w' := by
  have hu := Try.underlying25
  go_enter Try.func28, Try.ntmps28
  go_wp2_with (go_at_call 65; refine (mark0_65 _ _ _ _).mono ?_; rintro e w1 ⟨rfl, rfl⟩)
  go_ret
  exact ⟨rfl, below_alloc (Below.refl _ _) _⟩
set_option maxHeartbeats 8000000 in
theorem mark0_14 (a b d : Int) (A A' : Option Addr) (c c' : Nat) (k : Int) (w : World) : Calls Try.prog 14 #[.agg #[.int .i64 a, .slice A 0 c, .int .i64 b, .int .i64 d, .slice A' 0 c'], .int .i64 k] w fun e w' => e = .returned (.int .i64 k) ∧ Below w.heap.size w w' := by
  have hu := Try.underlying27
  go_enter Try.func14, Try.ntmps14
  go_wp2_with (first | (go_at_call 46; refine (mark0_46 _ _ _ _).mono ?_; rintro e w1 ⟨rfl, rfl⟩) | (go_at_call 28; refine (mark0_28 _ _ _ _ _ _).mono ?_; rintro e w1 ⟨rfl, hB⟩))
  go_ret
  exact ⟨rfl, below_then (below_alloc (Below.refl _ _) _) (by simp) hB⟩
/-! ### laws_FnExactNewCache: function 3 -/
/-- THE ONE PURE STATEMENT of laws_FnExactNewCache. -/
def laws_FnExactNewCache.Pure : Prop := ∀ (a0 : Int) (a1 : Int), (Lit.int .i64 a0).wf = true → (Lit.int .i64 a1).wf = true → ∃ (k : Nat) (c u s : Int), spec_NewCache.f a0 a1 = some (c, [], u, s, []) ∧ impl_NewCache.f k a0 a1 = some (c, [], u, s, []) ∧ laws_eqCacheResult.f k c [] u s [] c [] u s [] = some true ∧ laws_heldCacheResult.f k c [] u s [] 1 = some 1
set_option maxHeartbeats 8000000 in
set_option maxRecDepth 100000 in
theorem laws_FnExactNewCache.walk (P : laws_FnExactNewCache.Pure) (a0 : Int) (a1 : Int) (w : World) (y0 : (Lit.int .i64 a0).wf = true) (y1 : (Lit.int .i64 a1).wf = true) :
    Calls Try.prog 3 #[.int .i64 a0, .int .i64 a1] w fun e w' => e = .returned (.bool true) ∧ Below w.heap.size w w' := by
  obtain ⟨k, c, u, s, h1, h2, h3, h4⟩ := P a0 a1 y0 y1
  have H1 := Aside0.mk h1
  have H2 := Aside0.mk h2
  have H3 := Aside0.mk h3
  have H4 := Aside0.mk h4
  clear h1 h2 h3 h4 P y0 y1
  have hu := Try.underlying27
  go_enter Try.func3, Try.ntmps3
  go_wp2_with (go_at_call 11; refine (spec_NewCache.calls a0 a1 c [] u s [] _ H1.out).mono ?_; rintro e w1 ⟨v1, v4, rfl, hR, hS, hB⟩; obtain ⟨Ap, cp, rfl⟩ := Kd.R_slice hR; obtain ⟨Aq, cq, rfl⟩ := Kd.S_slice hS; have HB := Aside0.mk hB; clear hR hS hB)
  go_wp2_with (go_at_call 12; refine (impl_NewCache.calls k a0 a1 c [] u s [] _ H2.out).mono ?_; rintro e w2 ⟨v1, v4, rfl, hR, hS, hB⟩; obtain ⟨Bp, dp, rfl⟩ := Kd.R_slice hR; obtain ⟨Bq, dq, rfl⟩ := Kd.S_slice hS; have hk1 : w2.heap[w1.heap.size]? = some (.cells #[.int .i64 c, .slice Ap 0 cp, .int .i64 u, .int .i64 s, .slice Aq 0 cq] 27 (0, 0)) := blk_below (blk_new _ _) hB; have HK1 := Aside0.mk hk1; replace HB := Aside0.mk (below_step (below_alloc HB.out _) hB); clear hR hS hB hk1; have p0 := fun o => (blk_cell (blk_alloc HK1.out o) 0).trans (rfl : _ = some (Value.int .i64 c)); have pf0 := fun o => blk_frozen (blk_alloc HK1.out o) 0; have p1 := fun o => (blk_cell (blk_alloc HK1.out o) 1).trans (rfl : _ = some (Value.slice Ap 0 cp)); have pf1 := fun o => blk_frozen (blk_alloc HK1.out o) 1; have p2 := fun o => (blk_cell (blk_alloc HK1.out o) 2).trans (rfl : _ = some (Value.int .i64 u)); have pf2 := fun o => blk_frozen (blk_alloc HK1.out o) 2; have p3 := fun o => (blk_cell (blk_alloc HK1.out o) 3).trans (rfl : _ = some (Value.int .i64 s)); have pf3 := fun o => blk_frozen (blk_alloc HK1.out o) 3; have p4 := fun o => (blk_cell (blk_alloc HK1.out o) 4).trans (rfl : _ = some (Value.slice Aq 0 cq)); have pf4 := fun o => blk_frozen (blk_alloc HK1.out o) 4; skip)
  go_wp2_with (go_at_call 13; refine (laws_eqCacheResult.calls k c Bp dp [] u s Bq dq [] c Ap cp [] u s Aq cq [] true _ (C0 _ _ _) (Nat.zero_le _) (C0 _ _ _) (Nat.zero_le _) (C0 _ _ _) (Nat.zero_le _) (C0 _ _ _) (Nat.zero_le _) H3.out).mono ?_; rintro e w3 ⟨rfl, hB⟩; have hk2 : w3.heap[w2.heap.size]? = some (.cells #[.int .i64 c, .slice Bp 0 dp, .int .i64 u, .int .i64 s, .slice Bq 0 dq] 27 (0, 0)) := blk_below (blk_new _ _) hB; have HK2 := Aside0.mk hk2; replace HK1 := Aside0.mk (blk_below (blk_alloc HK1.out _) hB); replace HB := Aside0.mk (below_step (below_alloc HB.out _) hB); clear hB hk2; clear p0 pf0 p1 pf1 p2 pf2 p3 pf3 p4 pf4; have q0 := (blk_cell HK2.out 0).trans (rfl : _ = some (Value.int .i64 c)); have qf0 := blk_frozen HK2.out 0; have q1 := (blk_cell HK2.out 1).trans (rfl : _ = some (Value.slice Bp 0 dp)); have qf1 := blk_frozen HK2.out 1; have q2 := (blk_cell HK2.out 2).trans (rfl : _ = some (Value.int .i64 u)); have qf2 := blk_frozen HK2.out 2; have q3 := (blk_cell HK2.out 3).trans (rfl : _ = some (Value.int .i64 s)); have qf3 := blk_frozen HK2.out 3; have q4 := (blk_cell HK2.out 4).trans (rfl : _ = some (Value.slice Bq 0 dq)); have qf4 := blk_frozen HK2.out 4; skip)
  go_wp2_with (go_at_call 14; refine (mark0_14 c u s Bp Bq dp dq 1 _).mono ?_; rintro e w4 ⟨rfl, hB⟩; replace HK1 := Aside0.mk (blk_below HK1.out hB); replace HK2 := Aside0.mk (blk_below HK2.out hB); replace HB := Aside0.mk (below_step HB.out hB); clear hB; clear q0 qf0 q1 qf1 q2 qf2 q3 qf3 q4 qf4; have p0 := (blk_cell HK2.out 0).trans (rfl : _ = some (Value.int .i64 c)); have pf0 := blk_frozen HK2.out 0; have p1 := (blk_cell HK2.out 1).trans (rfl : _ = some (Value.slice Bp 0 dp)); have pf1 := blk_frozen HK2.out 1; have p2 := (blk_cell HK2.out 2).trans (rfl : _ = some (Value.int .i64 u)); have pf2 := blk_frozen HK2.out 2; have p3 := (blk_cell HK2.out 3).trans (rfl : _ = some (Value.int .i64 s)); have pf3 := blk_frozen HK2.out 3; have p4 := (blk_cell HK2.out 4).trans (rfl : _ = some (Value.slice Bq 0 dq)); have pf4 := blk_frozen HK2.out 4; skip)
  go_wp2_with (go_at_call 15; refine (laws_heldCacheResult.calls k c Bp dp [] u s Bq dq [] 1 1 _ (C0 _ _ _) (Nat.zero_le _) (C0 _ _ _) (Nat.zero_le _) H4.out).mono ?_; rintro e w5 ⟨rfl, hB⟩; replace HK1 := Aside0.mk (blk_below HK1.out hB); replace HK2 := Aside0.mk (blk_below HK2.out hB); replace HB := Aside0.mk (below_step HB.out hB); clear hB; clear p0 pf0 p1 pf1 p2 pf2 p3 pf3 p4 pf4; skip)
  go_wp2_with (go_at_call 12; refine (impl_NewCache.calls k a0 a1 c [] u s [] _ H2.out).mono ?_; rintro e w6 ⟨v1, v4, rfl, hR, hS, hB⟩; obtain ⟨Cp, ep, rfl⟩ := Kd.R_slice hR; obtain ⟨Cq, eq, rfl⟩ := Kd.S_slice hS; replace HK1 := Aside0.mk (blk_below HK1.out hB); replace HK2 := Aside0.mk (blk_below HK2.out hB); replace HB := Aside0.mk (below_step HB.out hB); clear hR hS hB; have p0 := fun o => (blk_cell (blk_alloc HK1.out o) 0).trans (rfl : _ = some (Value.int .i64 c)); have pf0 := fun o => blk_frozen (blk_alloc HK1.out o) 0; have p1 := fun o => (blk_cell (blk_alloc HK1.out o) 1).trans (rfl : _ = some (Value.slice Ap 0 cp)); have pf1 := fun o => blk_frozen (blk_alloc HK1.out o) 1; have p2 := fun o => (blk_cell (blk_alloc HK1.out o) 2).trans (rfl : _ = some (Value.int .i64 u)); have pf2 := fun o => blk_frozen (blk_alloc HK1.out o) 2; have p3 := fun o => (blk_cell (blk_alloc HK1.out o) 3).trans (rfl : _ = some (Value.int .i64 s)); have pf3 := fun o => blk_frozen (blk_alloc HK1.out o) 3; have p4 := fun o => (blk_cell (blk_alloc HK1.out o) 4).trans (rfl : _ = some (Value.slice Aq 0 cq)); have pf4 := fun o => blk_frozen (blk_alloc HK1.out o) 4; skip)
  go_wp2_with (go_at_call 13; refine (laws_eqCacheResult.calls k c Cp ep [] u s Cq eq [] c Ap cp [] u s Aq cq [] true _ (C0 _ _ _) (Nat.zero_le _) (C0 _ _ _) (Nat.zero_le _) (C0 _ _ _) (Nat.zero_le _) (C0 _ _ _) (Nat.zero_le _) H3.out).mono ?_; rintro e w7 ⟨rfl, hB⟩; replace HK1 := Aside0.mk (blk_below (blk_alloc HK1.out _) hB); replace HK2 := Aside0.mk (blk_below (blk_alloc HK2.out _) hB); replace HB := Aside0.mk (below_step (below_alloc HB.out _) hB); clear hB; clear p0 pf0 p1 pf1 p2 pf2 p3 pf3 p4 pf4; have q0 := (blk_cell HK2.out 0).trans (rfl : _ = some (Value.int .i64 c)); have qf0 := blk_frozen HK2.out 0; have q1 := (blk_cell HK2.out 1).trans (rfl : _ = some (Value.slice Bp 0 dp)); have qf1 := blk_frozen HK2.out 1; have q2 := (blk_cell HK2.out 2).trans (rfl : _ = some (Value.int .i64 u)); have qf2 := blk_frozen HK2.out 2; have q3 := (blk_cell HK2.out 3).trans (rfl : _ = some (Value.int .i64 s)); have qf3 := blk_frozen HK2.out 3; have q4 := (blk_cell HK2.out 4).trans (rfl : _ = some (Value.slice Bq 0 dq)); have qf4 := blk_frozen HK2.out 4; skip)
  go_wp2_with (go_at_call 15; refine (laws_heldCacheResult.calls k c Bp dp [] u s Bq dq [] 1 1 _ (C0 _ _ _) (Nat.zero_le _) (C0 _ _ _) (Nat.zero_le _) H4.out).mono ?_; rintro e w8 ⟨rfl, hB⟩; replace HB := Aside0.mk (below_step HB.out hB); clear hB)
  go_ret
  exact ⟨rfl, HB.out⟩
end Go.Proofs.Ytkocconggohdgaa.PFnExactNewCache
