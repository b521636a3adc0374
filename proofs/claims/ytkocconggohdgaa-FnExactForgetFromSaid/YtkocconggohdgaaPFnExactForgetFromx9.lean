/- Functions of the given program as plain Lean functions, each with a proof that the Go code answers just so; walked by hand. Conditions: those that each theorem names. -/
import Derived.Test.YtkocconggohdgaaPFnExactForgetFromx8
namespace Go.Proofs.Ytkocconggohdgaa.PFnExactForgetFrom
open Go.RowKit Go.Proofs.YtkocconggohdgaaW.PrintWords Go.Proofs.YtkocconggohdgaaW.PrintLast Go.Proofs.YtkocconggohdgaaW.PrintMore
attribute [local go_sem] max2_int min2_int max_two min_two max_three min_three max_four min_four   -- for this text's walks alone
set_option linter.unusedVariables false
set_option linter.unusedSimpArgs false
theorem heap_size_alloc_ (w : World) (o : Obj) : (w.alloc o).heap.size = w.heap.size + 1 := by simp
theorem blk_new_at (w : World) (o : Obj) (k : Nat) (h : w.heap.size = k) : (w.alloc o).heap[k]? = some o := by subst h; exact blk_new w o
theorem C0 {α : Type} (d : Kd α) (w : World) (A : Option Addr) : d.C w A ([] : List α).length [] := ⟨rfl, by simp, fun h => absurd h (Nat.lt_irrefl 0)⟩
set_option maxHeartbeats 2000000 in
theorem past_num (W : World) (n u s : Int) (Ax : Option Addr) (nx cx G1 G2 : Nat) (hb1 : W.heap[G1]? = some (.cells #[.int .i64 n] 2 (0, 0))) (hb2 : W.heap[G2]? = some (.cells #[.int .i64 u, .int .i64 s, .slice Ax nx cx] 25 (0, 0))) (hu : u ≠ 0) (x : S80) (A1 : Option Addr) (c1 : Nat) :
    Calls Try.prog 64 (#[.agg #[.int .i64 x.f0, .slice A1 x.f1.length c1]] ++ #[.pointer (some ⟨G1, 0, none⟩), .pointer (some ⟨G2, 0, none⟩)]) W fun e w' => e = .returned (.bool (decide (wrap64 (Int.tdiv n u) ≤ x.f0))) ∧ Below W.heap.size W w' := by
  have hl1 := blk_lt hb1
  have hl2 := blk_lt hb2
  have hn1 : G1 ≠ W.heap.size := by omega
  have hn2 : G2 ≠ W.heap.size := by omega
  have hu0 : (u == 0) = false := beq_eq_false_iff_ne.2 hu
  have hu1 : decide (u = 0) = false := decide_eq_false hu
  have p0 : W.cell? ⟨G1, 0, none⟩ = some (.int .i64 n) := (blk_cell hb1 0).trans rfl
  have q0 : W.cell? ⟨G2, 0, none⟩ = some (.int .i64 u) := (blk_cell hb2 0).trans rfl
  clear hb1 hb2
  show Calls Try.prog 64 #[.agg #[.int .i64 x.f0, .slice A1 x.f1.length c1], .pointer (some ⟨G1, 0, none⟩), .pointer (some ⟨G2, 0, none⟩)] W _
  go_enter Try.func64, Try.ntmps64
  go_wp2
  repeat (go_quiet (fail); try go_wp2)
  go_ret
  exact ⟨rfl, pw_below_drewN (below_alloc (Below.refl _ _) _) _⟩
theorem cells5 {W : World} {g : Nat} {t : TypeId} {a b c d e : Value} (h : W.heap[g]? = some (.cells #[a, b, c, d, e] t (0, 0))) :
    (W.cell? ⟨g, 0, none⟩ = some a ∧ W.cell? ⟨g, 1, none⟩ = some b ∧ W.cell? ⟨g, 2, none⟩ = some c ∧ W.cell? ⟨g, 3, none⟩ = some d ∧ W.cell? ⟨g, 4, none⟩ = some e) ∧ (W.frozen? ⟨g, 0, none⟩ = false ∧ W.frozen? ⟨g, 1, none⟩ = false ∧ W.frozen? ⟨g, 2, none⟩ = false ∧ W.frozen? ⟨g, 3, none⟩ = false ∧ W.frozen? ⟨g, 4, none⟩ = false) :=
  ⟨⟨blk_cell h 0, blk_cell h 1, blk_cell h 2, blk_cell h 3, blk_cell h 4⟩, ⟨blk_frozen h 0, blk_frozen h 1, blk_frozen h 2, blk_frozen h 3, blk_frozen h 4⟩⟩
theorem cells3 {W : World} {g : Nat} {t : TypeId} {a b c : Value} (h : W.heap[g]? = some (.cells #[a, b, c] t (0, 0))) :
    (W.cell? ⟨g, 0, none⟩ = some a ∧ W.cell? ⟨g, 1, none⟩ = some b ∧ W.cell? ⟨g, 2, none⟩ = some c) ∧ (W.frozen? ⟨g, 0, none⟩ = false ∧ W.frozen? ⟨g, 1, none⟩ = false ∧ W.frozen? ⟨g, 2, none⟩ = false) :=
  ⟨⟨blk_cell h 0, blk_cell h 1, blk_cell h 2⟩, ⟨blk_frozen h 0, blk_frozen h 1, blk_frozen h 2⟩⟩
theorem put5 {W : World} {g : Nat} {t : TypeId} {a b c d e : Value} (h : W.heap[g]? = some (.cells #[a, b, c, d, e] t (0, 0))) (v0 v1 v2 v3 v4 : Value) :
    (((((W.setCell ⟨g, 0, none⟩ v0).setCell ⟨g, 1, none⟩ v1).setCell ⟨g, 2, none⟩ v2).setCell ⟨g, 3, none⟩ v3).setCell ⟨g, 4, none⟩ v4).heap[g]? = some (.cells #[v0, v1, v2, v3, v4] t (0, 0)) :=
  blk_put (cs := #[v0, v1, v2, v3, e]) (blk_put (cs := #[v0, v1, v2, d, e]) (blk_put (cs := #[v0, v1, c, d, e]) (blk_put (cs := #[v0, b, c, d, e]) (blk_put (cs := #[a, b, c, d, e]) h 0 v0 rfl) 1 v1 rfl) 2 v2 rfl) 3 v3 rfl) 4 v4 rfl
theorem below_put5 {W w : World} {B g : Nat} (h : Below B w W) (hg : B ≤ g) (v0 v1 v2 v3 v4 : Value) : Below B w (((((W.setCell ⟨g, 0, none⟩ v0).setCell ⟨g, 1, none⟩ v1).setCell ⟨g, 2, none⟩ v2).setCell ⟨g, 3, none⟩ v3).setCell ⟨g, 4, none⟩ v4) :=
  ((((h.setCell hg v0).setCell hg v1).setCell hg v2).setCell hg v3).setCell hg v4
theorem S_put5 {α : Type} {d : Kd α} {e : Nat} {W : World} {base g : Nat} {ok : Nat → Prop} {v : Value} {xs : List α} (h : Kd.S d e W base ok v xs) (hok : ∀ k, ok k → k ≠ g) (v0 v1 v2 v3 v4 : Value) :
    Kd.S d e (((((W.setCell ⟨g, 0, none⟩ v0).setCell ⟨g, 1, none⟩ v1).setCell ⟨g, 2, none⟩ v2).setCell ⟨g, 3, none⟩ v3).setCell ⟨g, 4, none⟩ v4) base ok v xs :=
  Kd.S_far (p := ⟨g, 4, none⟩) (Kd.S_far (p := ⟨g, 3, none⟩) (Kd.S_far (p := ⟨g, 2, none⟩) (Kd.S_far (p := ⟨g, 1, none⟩) (Kd.S_far (p := ⟨g, 0, none⟩) h hok v0) hok v1) hok v2) hok v3) hok v4
def impl_ForgetFrom.f (k : Nat) (a0_0 : Int) (a0_1 : Int) (l0_2 : List S80) (a1 : Int) : Option (Int × List Int × Int × Int × (List S80)) :=
  (impl_CacheFault.f k a0_0 a0_1 l0_2).bind fun c => if c = 0 then (if a1 < 0 then some (3, [], 0, 0, []) else (impl_ownCache.f k a0_0 a0_1 l0_2).bind fun o => if a0_0 = 0 then none else some (0, [], o.1, o.2.1, o.2.2.filter fun x => !decide (wrap64 (Int.tdiv a1 a0_0) ≤ x.f0))) else some (c, [], 0, 0, [])
set_option maxHeartbeats 8000000 in
set_option maxRecDepth 100000 in
theorem impl_ForgetFrom.calls (k : Nat) (a0_0 : Int) (a0_1 : Int) (A0_2 : Option Addr) (c0_2 : Nat) (l0_2 : List (S80)) (a1 : Int) (r1 : Int) (r2 : List Int) (r3 : Int) (r4 : Int) (r5 : List (S80)) (w : World) (hr0_2 : Kd.C k80 w A0_2 l0_2.length l0_2) (hc0_2 : l0_2.length ≤ c0_2) (h : impl_ForgetFrom.f k a0_0 a0_1 l0_2 a1 = some (r1, r2, r3, r4, r5)) :
    Calls Try.prog 27 #[.agg #[.int .i64 a0_0, .int .i64 a0_1, .slice A0_2 l0_2.length c0_2], .int .i64 a1] w fun e w' => ∃ v1_ v4_ : Value, e = .returned (.agg #[.int .i64 r1, v1_, .int .i64 r3, .int .i64 r4, v4_]) ∧ Kd.R (Kd.int .u8) 5 w' w.heap.size (fun _ => True) v1_ r2 ∧ Kd.S k80 80 w' w.heap.size (fun k_ => some k_ ≠ (v1_ : Value).ownBlock) v4_ r5 ∧ Below w.heap.size w w' := by
  have hu25 := Try.underlying25
  have hu27 := Try.underlying27
  have HR := Aside0.mk hr0_2
  clear hr0_2
  unfold impl_ForgetFrom.f at h
  obtain ⟨c, hc, h⟩ := Option.bind_eq_some_iff.1 h
  have HC := Aside0.mk hc
  clear hc
  have hcall := impl_CacheFault.calls k a0_0 a0_1 A0_2 c0_2 l0_2 c (((w.alloc (.cells #[.int .i64 a0_0, .int .i64 a0_1, .slice A0_2 l0_2.length c0_2] 25)).alloc (.cells #[.int .i64 a1] 2)).alloc (.cells #[.int .i64 0, .slice none 0 0, .int .i64 0, .int .i64 0, .slice none 0 0] 27)) (by repeat (first | exact HR.out | apply Kd.C_alloc)) hc0_2 HC.out
  have g0 : ((((w.alloc (.cells #[.int .i64 a0_0, .int .i64 a0_1, .slice A0_2 l0_2.length c0_2] 25)).alloc (.cells #[.int .i64 a1] 2)).alloc (.cells #[.int .i64 0, .slice none 0 0, .int .i64 0, .int .i64 0, .slice none 0 0] 27))).heap[w.heap.size]? = some (.cells #[.int .i64 a0_0, .int .i64 a0_1, .slice A0_2 l0_2.length c0_2] 25 (0, 0)) := blk_alloc (blk_alloc (blk_new _ _) _) _
  have g1 : ((((w.alloc (.cells #[.int .i64 a0_0, .int .i64 a0_1, .slice A0_2 l0_2.length c0_2] 25)).alloc (.cells #[.int .i64 a1] 2)).alloc (.cells #[.int .i64 0, .slice none 0 0, .int .i64 0, .int .i64 0, .slice none 0 0] 27))).heap[w.heap.size + 1]? = some (.cells #[.int .i64 a1] 2 (0, 0)) := blk_alloc (blk_new_at _ _ _ (by simp)) _
  have g2 : ((((w.alloc (.cells #[.int .i64 a0_0, .int .i64 a0_1, .slice A0_2 l0_2.length c0_2] 25)).alloc (.cells #[.int .i64 a1] 2)).alloc (.cells #[.int .i64 0, .slice none 0 0, .int .i64 0, .int .i64 0, .slice none 0 0] 27))).heap[w.heap.size + 2]? = some (.cells #[.int .i64 0, .slice none 0 0, .int .i64 0, .int .i64 0, .slice none 0 0] 27 (0, 0)) := blk_new_at _ _ _ (by simp)
  have G0 := Aside0.mk g0
  have G1 := Aside0.mk g1
  have G2 := Aside0.mk g2
  clear g0 g1 g2
  by_cases hc0 : c = 0
  · rw [if_pos hc0] at h
    subst hc0
    by_cases hn : a1 < 0
    · rw [if_pos hn] at h
      obtain ⟨rfl, rfl, rfl, rfl, rfl⟩ : 3 = r1 ∧ [] = r2 ∧ 0 = r3 ∧ 0 = r4 ∧ [] = r5 := by simpa using h
      have hnb : decide (a1 < 0) = true := decide_eq_true hn
      clear h
      go_enter Try.func27, Try.ntmps27
      go_wp2_with (go_at_call 19; refine hcall.mono ?_; rintro e w1 ⟨rfl, hb⟩; have z1 : w1.cell? ⟨w.heap.size + 1, 0, none⟩ = some (.int .i64 a1) := blk_cell (blk_below G1.out hb) 0; obtain ⟨⟨z20, z21, z22, z23, z24⟩, ⟨y20, y21, y22, y23, y24⟩⟩ := cells5 (blk_below G2.out hb); have HB := Aside0.mk hb; clear hb)
      refine bodyPost_ret (results_cell_row rfl _ _ (w.heap.size + 1 + 1) 27 #[.int .i64 3, .slice none 0 0, .int .i64 0, .int .i64 0, .slice none 0 0] (0, 0) _ rfl (put5 (blk_below G2.out HB.out) _ _ _ _ _) Try.underlying27 rfl (by kernel_rfl)) rfl ?_
      refine ⟨_, _, rfl, Kd.R_nil _ _ _ _ _, Kd.S_nil _ _ _ _ _, ?_⟩
      exact below_put5 (below_then (by repeat (first | exact Below.refl _ _ | apply below_alloc)) (by simp; omega) HB.out) (by omega) _ _ _ _ _
    · rw [if_neg hn] at h
      obtain ⟨⟨u, s, bs⟩, ho, h⟩ := Option.bind_eq_some_iff.1 h
      by_cases hu : a0_0 = 0
      · rw [if_pos hu] at h; cases h
      · rw [if_neg hu] at h
        obtain ⟨rfl, rfl, rfl, rfl, rfl⟩ : 0 = r1 ∧ [] = r2 ∧ u = r3 ∧ s = r4 ∧ (bs.filter fun x => !decide (wrap64 (Int.tdiv a1 a0_0) ≤ x.f0)) = r5 := by simpa using h
        have hnb : decide (a1 < 0) = false := decide_eq_false hn
        have HO := Aside0.mk ho
        clear h ho
        go_enter Try.func27, Try.ntmps27
        go_wp2_with (first | (go_at_call 19; refine hcall.mono ?_; rintro e w1 ⟨rfl, hb⟩; have z1 : w1.cell? ⟨w.heap.size + 1, 0, none⟩ = some (.int .i64 a1) := blk_cell (blk_below G1.out hb) 0; obtain ⟨⟨z20, z21, z22, z23, z24⟩, ⟨y20, y21, y22, y23, y24⟩⟩ := cells5 (blk_below G2.out hb); obtain ⟨⟨z00, z01, z02⟩, _⟩ := cells3 (blk_below G0.out hb); have HB := Aside0.mk hb; clear hb) | (go_at_call 62; refine (impl_ownCache.calls k a0_0 a0_1 A0_2 c0_2 l0_2 u s bs w1 (Kd.C_below (by repeat (first | exact HR.out | apply Kd.C_alloc)) HB.out) hc0_2 HO.out).mono ?_; rintro e w2 ⟨v2, rfl, hS, hb2⟩; obtain ⟨Ao, co, rfl⟩ := Kd.S_slice hS; have HB2 := Aside0.mk hb2; have HS2 := Aside0.mk hS; clear hb2 hS) | (go_at_call 63; refine (del_run 64 #[.pointer (some ⟨w.heap.size + 1, 0, none⟩), .pointer (some ⟨w.heap.size, 0, none⟩)] (fun x => decide (wrap64 (Int.tdiv a1 a0_0) ≤ x.f0)) (enters_of Try.func64 (by kernel_rfl) rfl) (.slice Ao bs.length co) bs w1 (w2.alloc (.cells #[.int .i64 u, .int .i64 s, .slice Ao bs.length co] 25)) w1.heap.size (fun k => True ∧ k ≠ w2.heap.size) (fun W x A1 c1 hW _ => past_num W a1 a0_0 a0_1 A0_2 l0_2.length c0_2 (w.heap.size + 1) w.heap.size ((hW.block _ (blk_lt (blk_below G1.out HB.out))).trans (blk_below G1.out HB.out)) ((hW.block _ (blk_lt (blk_below G0.out HB.out))).trans (blk_below G0.out HB.out)) hu x A1 c1) (Kd.S_alloc (Kd.S_elderB HS2.out _ (Nat.le_refl _)) _) (below_alloc HB2.out _) (by simp; have := HB2.out.size; omega)).mono ?_; rintro e w3 ⟨v3, rfl, hS3, hB3, hle3, hK3⟩; obtain ⟨A3, c3, rfl⟩ := Kd.S_slice hS3; have hg2 := (hB3.block _ (blk_lt (blk_below G2.out HB.out))).trans (blk_below G2.out HB.out); have hg3 := blk_kept (blk_new w2 _) hK3 (fun h => h.2 rfl); clear z20 z21 z22 z23 z24 y20 y21 y22 y23 y24; obtain ⟨⟨z20, z21, z22, z23, z24⟩, ⟨y20, y21, y22, y23, y24⟩⟩ := cells5 hg2; obtain ⟨⟨z30, z31, z32⟩, ⟨y30, y31, y32⟩⟩ := cells3 hg3; have HG2 := Aside0.mk hg2; have HG3 := Aside0.mk hg3; have HS3 := Aside0.mk hS3; have HB3 := Aside0.mk hB3; have hne : w.heap.size + 1 + 1 ≠ w2.heap.size := (by have h1 := blk_lt (blk_below G2.out HB.out); have h2 := HB2.out.size; omega); have HL3 := Aside0.mk hle3; clear hS3 hB3 hg2 hg3 hK3 hle3))
        generalize (bs.filter fun x => !decide (wrap64 (Int.tdiv a1 a0_0) ≤ x.f0)) = ys at *
        have hS4 := Kd.S_far (p := ⟨w2.heap.size, 2, none⟩) HS3.out (fun k hk => hk.2) (.slice A3 ys.length c3)
        have hlt : w.heap.size + 1 + 1 < w1.heap.size := blk_lt (blk_below G2.out HB.out)
        have hS5 := S_put5 (g := w.heap.size + 1 + 1) (Kd.S_bound hS4) (fun k hk => by have := hk.2.1; omega) (.int .i64 0) (.slice none 0 0) (.int .i64 u) (.int .i64 s) (.slice A3 ys.length c3)
        refine bodyPost_ret (results_cell_row rfl _ _ (w.heap.size + 1 + 1) 27 #[.int .i64 0, .slice none 0 0, .int .i64 u, .int .i64 s, .slice A3 ys.length c3] (0, 0) _ rfl (put5 (a := .int .i64 0) (b := .slice none 0 0) (c := .int .i64 0) (d := .int .i64 0) (e := .slice none 0 0) ((Below.heap_setCell w3 ⟨w2.heap.size, 2, none⟩ _ _ hne).trans HG2.out) _ _ _ _ _) Try.underlying27 rfl (by kernel_rfl)) rfl ?_
        refine ⟨_, _, rfl, Kd.R_nil _ _ _ _ _, Kd.S_mono (Kd.S_lower hS5 (by omega)) (fun k _ => by simp [Value.ownBlock]), ?_⟩
        have h1 : Below w.heap.size w w1 := below_then (by repeat (first | exact Below.refl _ _ | apply below_alloc)) (by simp; omega) HB.out
        exact below_put5 ((h1.trans (HB3.out.mono h1.size)).setCell (by have := h1.size; have := HB2.out.size; show w.heap.size ≤ w2.heap.size; omega) _) (by omega) _ _ _ _ _
  · rw [if_neg hc0] at h
    obtain ⟨rfl, rfl, rfl, rfl, rfl⟩ : c = r1 ∧ [] = r2 ∧ 0 = r3 ∧ 0 = r4 ∧ [] = r5 := by simpa using h
    have hcb : (c != 0) = true := bne_iff_ne.2 hc0
    have hcb2 : (c == 0) = false := beq_eq_false_iff_ne.2 hc0
    clear h
    go_enter Try.func27, Try.ntmps27
    go_wp2_with (go_at_call 19; refine hcall.mono ?_; rintro e w1 ⟨rfl, hb⟩; have z1 : w1.cell? ⟨w.heap.size + 1, 0, none⟩ = some (.int .i64 a1) := blk_cell (blk_below G1.out hb) 0; obtain ⟨⟨z20, z21, z22, z23, z24⟩, ⟨y20, y21, y22, y23, y24⟩⟩ := cells5 (blk_below G2.out hb); have HB := Aside0.mk hb; clear hb)
    refine bodyPost_ret (results_cell_row rfl _ _ (w.heap.size + 1 + 1) 27 #[.int .i64 c, .slice none 0 0, .int .i64 0, .int .i64 0, .slice none 0 0] (0, 0) _ rfl (put5 (blk_below G2.out HB.out) _ _ _ _ _) Try.underlying27 rfl (by kernel_rfl)) rfl ?_
    refine ⟨_, _, rfl, Kd.R_nil _ _ _ _ _, Kd.S_nil _ _ _ _ _, ?_⟩
    exact below_put5 (below_then (by repeat (first | exact Below.refl _ _ | apply below_alloc)) (by simp; omega) HB.out) (by omega) _ _ _ _ _
/-- laws.markBlockS: each block's number, then its bytes. -/
def laws_markBlockS.f (k : Nat) : List S80 → Int → Option (Int × List S80)
  | [], m => some (m, [])
  | b :: bs, m => (laws_markByteS.f k b.f1 (wrap64 (m + 1))).bind fun r => (laws_markBlockS.f k bs r.1).bind fun q => some (q.1, (⟨m, r.2⟩ : S80) :: q.2)
theorem grown_of {w0 W w1 : World} {b : Nat} {row : Option Nat} (h0 : Below b w0 W) (h1 : Below b w0 w1) (hk : Kept W w1 (fun k => some k = row)) : W.grownBy w1 row :=
  ⟨h1.os.trans h0.os.symm, h1.tape.trans h0.tape.symm, h1.output.trans h0.output.symm, hk.1, fun k hl hn => hk.2 k hl hn⟩
set_option maxHeartbeats 8000000 in
set_option maxRecDepth 100000 in
theorem laws_markBlockS.calls (k : Nat) (v : Value) (l0 : List S80) (a1 : Int) (r1 : Int) (r2 : List S80) (w0 w : World) (ok : Nat → Prop) (hB : Below w0.heap.size w0 w) (hS : Kd.S k80 80 w w0.heap.size ok v l0) (h : laws_markBlockS.f k l0 a1 = some (r1, r2)) :
    Calls Try.prog 65 #[v, .int .i64 a1] w fun e w' => e = .returned (.int .i64 r1) ∧ Kd.S k80 80 w' w0.heap.size ok v r2 ∧ Below w0.heap.size w0 w' ∧ Kept w w' ok := by
  have HS0 := Aside0.mk hS
  have HB0 := Aside0.mk hB
  have HH := Aside0.mk h
  obtain ⟨A0, c0, rfl⟩ := Kd.S_slice hS
  obtain ⟨_, hlc, hC⟩ := Kd.S_reads' hS
  have hmax := Kd.C_max hC
  clear hC hS hB h
  go_enter Try.func65, Try.ntmps65
  go_wp2
  go_loopg [1, 5] l0.length (fun gg s1 s5 wr => ∃ (i : Nat) (m : Int) (done rest tail : List S80), s1 = .int .i64 m ∧ s5 = .int .i64 i ∧ i = done.length ∧ done.length + rest.length = l0.length ∧ l0.length - i ≤ gg ∧ Aside0 (laws_markBlockS.f k rest m = some (r1, tail)) ∧ r2 = done ++ tail ∧ Aside0 (Kd.S k80 80 wr w0.heap.size ok (.slice A0 l0.length c0) (done ++ rest)) ∧ Aside0 (Below w0.heap.size w0 wr) ∧ Aside0 (Kept w wr ok))
  case atStart => exact ⟨0, a1, [], l0, r2, rfl, rfl, rfl, by simp, by omega, HH, rfl, HS0, HB0, ⟨Kept.refl _ _⟩⟩
  case round =>
    clear HH HS0
    obtain ⟨i, m, done, rest, tail, rfl, rfl, hi, hlen, hgg, HM, rfl, HS, HB, HK⟩ := hrel
    match rest, HM with
    | [], HM =>
      obtain ⟨rfl, rfl⟩ : m = r1 ∧ [] = tail := by simpa [laws_markBlockS.f] using HM.out
      obtain rfl : i = l0.length := by simp at hlen; omega
      have HLN := Aside0.mk hlen
      have HIN := Aside0.mk hi
      clear hlen hi
      have hltz : ¬ (l0.length : Int) < (l0.length : Int) := by omega
      go_wp2
      go_ret
      have h := HS.out
      rw [List.append_nil] at h
      exact ⟨rfl, h, HB.out, HK.out⟩
    | b :: bs, HM =>
      obtain ⟨⟨m1, b1⟩, hb1, hq⟩ := Option.bind_eq_some_iff.1 HM.out
      obtain ⟨⟨m2, t2⟩, ht2, hq2⟩ := Option.bind_eq_some_iff.1 hq
      obtain ⟨rfl, rfl⟩ : m2 = r1 ∧ (⟨m, b1⟩ : S80) :: t2 = tail := by simpa using hq2
      have hlt : i < l0.length := by simp at hlen; omega
      have hltz : (i : Int) < (l0.length : Int) := by omega
      obtain ⟨gb, cap, hv, hgb, hgl, _⟩ := Kd.S_form HS.out (by simp at hlen ⊢; omega)
      obtain ⟨rfl, rfl⟩ : A0 = some ⟨gb, 0, none⟩ ∧ c0 = cap := by simp at hv; exact ⟨hv.1, hv.2.2⟩
      clear hv hq hq2
      obtain ⟨oki, cs, hcsl, hM, hcc, hfz, hoki, hH⟩ := Kd.S_elem HS.out z80 (i : Int) (by omega) (by omega)
      have hgd : (done ++ b :: bs).getD ((i : Int).toNat) z80 = b := by subst hi; simp
      rw [hgd] at hM
      rw [Int.toNat_natCast] at hcc hfz
      obtain ⟨vb, rfl, hRb⟩ := k80_openM hM
      have q0 : wr.cell? ⟨gb, i * 2, none⟩ = some (.int .i64 b.f0) := hcc 0 _ rfl
      have q1 : wr.cell? ⟨gb, i * 2 + 1, none⟩ = some vb := hcc 1 _ rfl
      have f0 : wr.frozen? ⟨gb, i * 2, none⟩ = false := hfz 0
      obtain ⟨hS1, hg1⟩ := Kd.S_seg (okg := fun _ => False) (Kd.H_mono hH (fun k hk => ⟨hk, id⟩)) (by omega) (by omega) (seg := [.int .i64 m]) (j := 0) (x' := (⟨m, b.f1⟩ : S80)) (okp := oki) (by show 0 + 1 ≤ 2; omega) (k80_mkM wr w0.heap.size oki (⟨m, b.f1⟩ : S80) hRb) (fun k hk => .inl hk) (fun k hk => hk.elim)
      rw [Int.toNat_natCast] at hS1 hg1
      have hset : (done ++ b :: bs).set i (⟨m, b.f1⟩ : S80) = done ++ (⟨m, b.f1⟩ : S80) :: bs := by subst hi; simp
      rw [hset] at hS1
      have hB1 : Below w0.heap.size w0 (wr.setCells gb (i * 2 + 0) [.int .i64 m]) := HB.out.grown hg1 HB.out.size (fun k hk => by injection hk with hk; omega)
      have hK1 : Kept w (wr.setCells gb (i * 2 + 0) [.int .i64 m]) ok := Kept.of_grown hg1 HK.out (fun k hk => .inl ((Kd.S_R HS.out).1 k hk))
      obtain ⟨oki2, c2, hcsl2, hM2, hcc2, hoki2, hback⟩ := Kd.S_borrow hS1 z80 (i : Int) (by omega) (by omega)
      have hgd2 : (done ++ (⟨m, b.f1⟩ : S80) :: bs).getD ((i : Int).toNat) z80 = ⟨m, b.f1⟩ := by subst hi; simp
      rw [hgd2] at hM2
      obtain ⟨vb2, rfl, hRb2⟩ := k80_openM hM2
      have hW : wr.setCells gb (i * 2 + 0) [.int .i64 m] = wr.setCell ⟨gb, i * 2, none⟩ (.int .i64 m) := rfl
      have e1 : (wr.setCell ⟨gb, i * 2, none⟩ (.int .i64 m)).cell? ⟨gb, i * 2 + 1, none⟩ = some vb2 := by
        have h := hcc2 1 _ rfl
        rw [Int.toNat_natCast, add_plain] at h
        exact h
      have e2 : (wr.setCell ⟨gb, i * 2, none⟩ (.int .i64 m)).cell? ⟨gb, i * 2 + 1, none⟩ = some vb := (World.cell?_setCell_other _ _ _ _ (by intro h; simp only [Addr.mk.injEq] at h; omega)).trans q1
      obtain rfl : vb2 = vb := by rw [e1] at e2; exact Option.some.inj e2
      rw [Int.toNat_natCast] at hback
      have hset2 : (done ++ (⟨m, b.f1⟩ : S80) :: bs).set i (⟨m, b1⟩ : S80) = (done ++ [(⟨m, b1⟩ : S80)]) ++ bs := by subst hi; simp
      have hcall := laws_markByteS.calls k (fun k => some k = vb2.ownBlock) vb2 b.f1 (wrap64 (m + 1)) m1 b1 w0 _ hB1 (Kd.R_tight rfl hRb2) hb1
      rw [hW] at hcall hK1 hB1
      have HBK := Aside0.mk (fun (w1 : World) => @hback w1 vb2.ownBlock (⟨m, b1⟩ : S80))
      have HK1 := Aside0.mk hK1
      have HB1 := Aside0.mk hB1
      have HR2 := Aside0.mk hRb2.1
      have HO2 := Aside0.mk hoki2
      have HIN := Aside0.mk hi
      have HLN := Aside0.mk hlen
      clear hi hlen
      clear hcc hfz hoki hH hM hRb hS1 hg1 hM2 hcc2 hoki2 hback e1 e2 hRb2 hK1 hB1 hcsl hcsl2 hgd hgd2
      go_wp2_with (go_at_call 46; refine hcall.mono ?_; rintro e w2 ⟨rfl, hR3, hB3, hK3⟩; have hg2 := grown_of HB1.out hB3 hK3; have hS2 := HBK.out w2 hg2 (fun k hk => HR2.out k hk) (k80_mkM w2 w0.heap.size oki2 (⟨m, b1⟩ : S80) (Kd.R_mono (Kd.R_tight rfl hR3) (fun k hk => HR2.out k hk.symm))); have HS2 := Aside0.mk hS2; have HB3 := Aside0.mk hB3; have HK3 := Aside0.mk (Kept.of_grown hg2 HK1.out (fun k hk => .inl (HO2.out k (HR2.out k hk)).1)); clear hR3 hB3 hK3 hg2 hS2)
      go_roundg (l0.length - (i + 1))
      case measure => omega
      case rel =>
        refine ⟨i + 1, m1, done ++ [(⟨m, b1⟩ : S80)], bs, t2, rfl, by go_num, by have := HIN.out; simp; omega, by have hlen := HLN.out; simp at hlen ⊢; omega, by omega, ⟨ht2⟩, by simp, ?_, HB3, HK3⟩
        rw [← hset2]
        exact HS2
set_option maxHeartbeats 4000000 in
theorem laws_markCache.calls (k : Nat) (a b : Int) (v : Value) (l0 : List S80) (a1 : Int) (r1 : Int) (r2 : List S80) (w0 w : World) (ok : Nat → Prop) (hB : Below w0.heap.size w0 w) (hS : Kd.S k80 80 w w0.heap.size ok v l0) (h : laws_markBlockS.f k l0 a1 = some (r1, r2)) :
    Calls Try.prog 28 #[.agg #[.int .i64 a, .int .i64 b, v], .int .i64 a1] w fun e w' => e = .returned (.int .i64 r1) ∧ Kd.S k80 80 w' w0.heap.size ok v r2 ∧ Below w0.heap.size w0 w' ∧ Kept w w' ok := by
  have hu := Try.underlying25
  obtain ⟨A, c, rfl⟩ := Kd.S_slice hS
  have hcall := laws_markBlockS.calls k _ l0 a1 r1 r2 w0 (w.alloc (.cells #[.int .i64 a, .int .i64 b, .slice A l0.length c] 25)) ok (hB.alloc hB.size _) (Kd.S_alloc hS _) h
  clear hS h
  have HB := Aside0.mk hB
  clear hB
  go_enter Try.func28, Try.ntmps28
  go_wp2_with (go_at_call 65; refine hcall.mono ?_; rintro e w1 ⟨rfl, hs, hb, hk⟩; have HS := Aside0.mk hs; have HB1 := Aside0.mk hb; have HK := Aside0.mk hk; clear hs hb hk)
  go_ret
  exact ⟨rfl, HS.out, HB1.out, ((Kept.refl w ok).alloc _).then_ HK.out (fun k hk => .inl hk)⟩
theorem cells5b {W : World} {g : Nat} {t : TypeId} {a b c d e : Value} (h : W.heap[g]? = some (.cells #[a, b, c, d, e] t (0, 0))) :
    W.cell? ⟨g, 0, none⟩ = some a ∧ W.cell? ⟨g, 1, none⟩ = some b ∧ W.cell? ⟨g, 2, none⟩ = some c ∧ W.cell? ⟨g, 3, none⟩ = some d ∧ W.cell? ⟨g, 4, none⟩ = some e :=
  (cells5 h).1
set_option maxHeartbeats 4000000 in
theorem laws_markCacheResult.calls (k : Nat) (c : Int) (vb : Value) (lb : List Int) (a b : Int) (v : Value) (l0 : List S80) (a1 : Int) (m1 : Int) (rb : List Int) (r1 : Int) (r2 : List S80) (w0 w : World) (okb ok : Nat → Prop) (hap : ∀ k, okb k → ¬ ok k) (hB : Below w0.heap.size w0 w) (hR : Kd.R (Kd.int .u8) 5 w w0.heap.size okb vb lb) (hS : Kd.S k80 80 w w0.heap.size ok v l0) (hb : laws_markByteS.f k lb a1 = some (m1, rb)) (h : laws_markBlockS.f k l0 m1 = some (r1, r2)) :
    Calls Try.prog 14 #[.agg #[.int .i64 c, vb, .int .i64 a, .int .i64 b, v], .int .i64 a1] w fun e w' => e = .returned (.int .i64 r1) ∧ Kd.R (Kd.int .u8) 5 w' w0.heap.size okb vb rb ∧ Kd.S k80 80 w' w0.heap.size ok v r2 ∧ Below w0.heap.size w0 w' ∧ Kept w w' (fun k => okb k ∨ ok k) := by
  have hu := Try.underlying27
  have hu25 := Try.underlying25
  obtain ⟨A, ca, rfl⟩ := Kd.S_slice hS
  obtain ⟨A2, ca2, rfl⟩ := Kd.R_slice hR
  have hok := hR.1
  have hcall := laws_markByteS.calls k (fun k => some k = (Value.slice A2 lb.length ca2).ownBlock) _ lb a1 m1 rb w0 (w.alloc (.cells #[.int .i64 c, .slice A2 lb.length ca2, .int .i64 a, .int .i64 b, .slice A l0.length ca] 27)) (hB.alloc hB.size _) (Kd.R_tight rfl (Kd.R_alloc hR _)) hb
  have HS := Aside0.mk hS
  have HB := Aside0.mk hB
  have HOK := Aside0.mk hok
  have HAP := Aside0.mk hap
  have hbn := blk_new w (.cells #[.int .i64 c, .slice A2 lb.length ca2, .int .i64 a, .int .i64 b, .slice A l0.length ca] 27)
  have hne : ∀ k, some k = (Value.slice A2 lb.length ca2).ownBlock → k < w.heap.size := fun k hk => Kd.R_lt hR k hk.symm
  have HNE := Aside0.mk hne
  have HBN := Aside0.mk hbn
  clear hS hB hok hap hbn hne hR
  go_enter Try.func14, Try.ntmps14
  go_wp2_with (first | (go_at_call 46; refine hcall.mono ?_; rintro e w1 ⟨rfl, hr, hb1, hk1⟩; have hbk := blk_kept HBN.out hk1 (fun hh => by have := HNE.out _ hh; omega); obtain ⟨z0, z1, z2, z3, z4⟩ := cells5b hbk; have HR1 := Aside0.mk (Kd.R_tight rfl hr); have HB1 := Aside0.mk hb1; have HK1 := Aside0.mk hk1; have HS1 := Aside0.mk (Kd.S_kept (Kd.S_alloc HS.out _) hk1 (fun k hk hh => HAP.out k (HOK.out k hh.symm) hk)); clear hr hb1 hk1 hbk) | (go_at_call 28; refine (laws_markCache.calls k a b _ l0 m1 r1 r2 w0 w1 ok HB1.out HS1.out h).mono ?_; rintro e w2 ⟨rfl, hs2, hb2, hk2⟩; have HR2 := Aside0.mk (Kd.R_kept HR1.out hk2 (fun k hk hh => HAP.out k (HOK.out k hk.symm) hh)); have HS2 := Aside0.mk hs2; have HB2 := Aside0.mk hb2; have HK2 := Aside0.mk hk2; clear hs2 hb2 hk2))
  go_ret
  exact ⟨rfl, Kd.R_mono HR2.out (fun k hk => HOK.out k hk.symm), HS2.out, HB2.out, ((((Kept.refl w (fun k => okb k ∨ ok k)).alloc _).then_ HK1.out (fun k hk => .inl (.inl (HOK.out k hk.symm)))).then_ HK2.out (fun k hk => .inl (.inr hk)))⟩
end Go.Proofs.Ytkocconggohdgaa.PFnExactForgetFrom
