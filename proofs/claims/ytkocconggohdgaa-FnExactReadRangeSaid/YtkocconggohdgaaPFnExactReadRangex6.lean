/- Functions of the given program as plain Lean functions, each with a proof that the Go code answers just so; made by a program of this session out of the translation. Conditions: those that each theorem names. -/
import Derived.Test.YtkocconggohdgaaPFnExactReadRangex0
import Derived.Test.YtkocconggohdgaaPFnExactReadRangex3
import Derived.Test.YtkocconggohdgaaPFnExactReadRangex4
import Derived.Test.YtkocconggohdgaaPFnExactReadRangex5
namespace Go.Proofs.Ytkocconggohdgaa.PFnExactReadRange
open Go.RowKit Go.Proofs.YtkocconggohdgaaW.PrintWords Go.Proofs.YtkocconggohdgaaW.PrintLast Go.Proofs.YtkocconggohdgaaW.PrintMore
attribute [local go_sem] max2_int min2_int max_two min_two max_three min_three max_four min_four   -- for this text's walks alone
set_option linter.unusedVariables false
set_option linter.unusedSimpArgs false

/-! ### spec_l3Fetch: function 66 -/
def spec_l3Fetch.j0 : Nat → Int → Int → List Int → Int → Int → List (S80) → Option (List Int × Int × Int × (List (S80)))
  | 0, _, _, _, _, _, _ => none
  | k + 1, x2, x10, x11, x232000, x232001, x232002 => (spec_l3Less.f k x232000 x232001 x232002 x10).bind fun bt244 => (if (x11.length : Int) > 0 then ((spec_l1Copy.f x11).bind fun t250 => (if bt244.2.2.length < 4398046511104 then ((some (bt244.2.2 ++ [(⟨x2, t250⟩ : S80)] : List (S80))).bind fun y253 => (if (y253.length : Int) > x232001 then ((spec_l3Less.f k bt244.1 bt244.2.1 y253 0).bind fun bt256 => (some (x11, bt256.1, bt256.2.1, bt256.2.2))) else (some (x11, bt244.1, bt244.2.1, y253)))) else (none))) else (if (bt244.2.2.length : Int) > x232001 then ((spec_l3Less.f k bt244.1 bt244.2.1 bt244.2.2 0).bind fun bt261 => (some (x11, bt261.1, bt261.2.1, bt261.2.2))) else (some (x11, bt244.1, bt244.2.1, bt244.2.2))))
def spec_l3Fetch.f (k : Nat) (a0_0 : Int) (a0_1 : Int) (l0_2 : List (S80)) (l1 : List (S44)) (a2 : Int) (a3 : Int) : Option (List Int × Int × Int × (List (S80))) := (spec_l3At.f k [(⟨a0_0, a0_1, l0_2⟩ : S25)] a2).bind fun t233 => (if t233 ≥ 0 then (if 0 ≤ t233 then (if t233 < (l0_2.length : Int) then ((spec_l1Copy.f ((rd_T80 l0_2 t233).f1)).bind fun t238 => (spec_l3Fetch.j0 k a2 t233 t238 a0_0 a0_1 l0_2)) else (none)) else (none)) else ((spec_l3Load.f k l1 (wrap64 (a2 * a0_0)) a0_0 a3).bind fun t241 => (spec_l3Fetch.j0 k a2 t233 t241 a0_0 a0_1 l0_2)))
theorem spec_l3Fetch.mono_l : ∀ k, (∀ y0 y1 y2 y3 y4 y5, LeO (spec_l3Fetch.j0 k y0 y1 y2 y3 y4 y5) (spec_l3Fetch.j0 (k + 1) y0 y1 y2 y3 y4 y5))
  | 0 => fun _ _ _ _ _ _ r h => by simp [spec_l3Fetch.j0] at h
  | k + 1 => by
    have ih0 := spec_l3Fetch.mono_l k
    · intro y0 y1 y2 y3 y4 y5
      unfold spec_l3Fetch.j0
      repeat' first
      | (with_reducible exact ih0 _ _ _ _ _ _)
      | (with_reducible exact spec_l3At.mono _ _ _)
      | (with_reducible exact spec_l3Less.mono _ _ _ _ _)
      | (with_reducible exact spec_l3Load.mono _ _ _ _ _)
      | (with_reducible exact LeO.refl _)
      | (with_reducible exact LeO.none _)
      | (with_reducible refine LeO.ite ?_ ?_)
      | (with_reducible refine LeO.bind ?_ (fun _ => ?_))
      | exact ih0 _ _ _ _ _ _
      | exact spec_l3At.mono _ _ _
      | exact spec_l3Less.mono _ _ _ _ _
      | exact spec_l3Load.mono _ _ _ _ _
      | exact LeO.none _
      | refine LeO.ite ?_ ?_
      | refine LeO.bind ?_ (fun _ => ?_)
theorem spec_l3Fetch.mono : ∀ a0 a1 a2 a3 a4 a5 k, LeO (spec_l3Fetch.f k a0 a1 a2 a3 a4 a5) (spec_l3Fetch.f (k + 1) a0 a1 a2 a3 a4 a5) := by
  intro a0 a1 a2 a3 a4 a5 k
  have ih0 := spec_l3Fetch.mono_l k
  unfold spec_l3Fetch.f
  repeat' first
      | (with_reducible exact ih0 _ _ _ _ _ _)
      | (with_reducible exact spec_l3At.mono _ _ _)
      | (with_reducible exact spec_l3Less.mono _ _ _ _ _)
      | (with_reducible exact spec_l3Load.mono _ _ _ _ _)
      | (with_reducible exact LeO.refl _)
      | (with_reducible exact LeO.none _)
      | (with_reducible refine LeO.ite ?_ ?_)
      | (with_reducible refine LeO.bind ?_ (fun _ => ?_))
      | exact ih0 _ _ _ _ _ _
      | exact spec_l3At.mono _ _ _
      | exact spec_l3Less.mono _ _ _ _ _
      | exact spec_l3Load.mono _ _ _ _ _
      | exact LeO.none _
      | refine LeO.ite ?_ ?_
      | refine LeO.bind ?_ (fun _ => ?_)
def spec_l3Fetch.T8 : Bool × List (List Nat × List Nat) := (true, [([], []), ([0], [0]), ([], []), ([], []), ([3], [3]), ([2, 4], [2, 4]), ([5], [5]), ([1, 6, 4], [1, 6]), ([0, 1, 2, 3, 4, 5, 6, 7], []), ([8, 7, 7, 0, 1, 2, 3, 4, 5, 6, 7], [7, 8])])
def spec_l3Fetch.B8 : List Nat := [0, 1, 0, 0, 8, 28, 60, 127, 255, 511]
theorem spec_l3Fetch.tab8 : rtab .any (opsOf Try.f66 8) = spec_l3Fetch.T8 := by kernel_rfl
theorem spec_l3Fetch.bits8 : waitsOk spec_l3Fetch.T8.2 spec_l3Fetch.B8 = true := by kernel_rfl
set_option maxHeartbeats 8000000 in
set_option maxRecDepth 100000 in
theorem spec_l3Fetch.calls (k : Nat) (a0_0 : Int) (a0_1 : Int) (A0_2 : Option Addr) (c0_2 : Nat) (l0_2 : List (S80)) (A1 : Option Addr) (c1 : Nat) (l1 : List (S44)) (a2 : Int) (a3 : Int) (r1 : List Int) (r2 : Int) (r3 : Int) (r4 : List (S80)) (w : World) (hr0_2 : Kd.C k80 w A0_2 l0_2.length l0_2) (hc0_2 : l0_2.length ≤ c0_2) (hr1 : Kd.C k44 w A1 l1.length l1) (hc1 : l1.length ≤ c1) (h : spec_l3Fetch.f k a0_0 a0_1 l0_2 l1 a2 a3 = some (r1, r2, r3, r4)) :
    Calls Try.prog 66 #[.agg #[.int .i64 a0_0, .int .i64 a0_1, .slice A0_2 l0_2.length c0_2], .pointer A1, .int .i64 a2, .int .i64 a3] w fun e w' => ∃ v0_ v3_ : Value, e = .returned (.tuple #[v0_, .agg #[.int .i64 r2, .int .i64 r3, v3_]]) ∧ Kd.R (Kd.int .u8) 5 w' w.heap.size (fun _ => True) v0_ r1 ∧ Kd.S k80 80 w' w.heap.size (fun k_ => some k_ ≠ (v0_ : Value).ownBlock) v3_ r4 ∧ Below w.heap.size w w' := by
  have hu25 := Try.underlying25
  have hu80 := Try.underlying80
  have HR0_2 := Aside0.mk hr0_2
  have HC0_2 := Aside0.mk hc0_2
  clear hr0_2 hc0_2
  have HR1 := Aside0.mk hr1
  have HC1 := Aside0.mk hc1
  clear hr1 hc1
  have HB := Aside0.mk (Below.refl w.heap.size w)
  have H : ((spec_l3At.f k [(⟨a0_0, a0_1, l0_2⟩ : S25)] a2).bind fun t233 => (if t233 ≥ 0 then (if 0 ≤ t233 then (if t233 < (l0_2.length : Int) then ((spec_l1Copy.f ((rd_T80 l0_2 t233).f1)).bind fun t238 => (spec_l3Fetch.j0 k a2 t233 t238 a0_0 a0_1 l0_2)) else (none)) else (none)) else ((spec_l3Load.f k l1 (wrap64 (a2 * a0_0)) a0_0 a3).bind fun t241 => (spec_l3Fetch.j0 k a2 t233 t241 a0_0 a0_1 l0_2)))) = some (r1, r2, r3, r4) := h
  clear h
  replace H := Option.bind_eq_some_iff.mp H
  obtain ⟨t233, A50, H⟩ := H
  try dsimp only at H
  have A5 := Aside0.mk A50
  clear A50
  obtain ⟨y234, hy234⟩ : ∃ y_ : List Int, y_ = (([] : List Int)) := ⟨_, rfl⟩
  replace H : (if t233 ≥ 0 then (if 0 ≤ t233 then (if t233 < (l0_2.length : Int) then ((spec_l1Copy.f ((rd_T80 l0_2 t233).f1)).bind fun t238 => (spec_l3Fetch.j0 k a2 t233 t238 a0_0 a0_1 l0_2)) else (none)) else (none)) else ((spec_l3Load.f k l1 (wrap64 (a2 * a0_0)) a0_0 a3).bind fun t241 => (spec_l3Fetch.j0 k a2 t233 t241 a0_0 a0_1 l0_2))) = some (r1, r2, r3, r4) := by first | (rw [hy234]; with_reducible exact H) | (have H2_ := (Option.bind_some _ _).symm.trans H; rw [hy234]; with_reducible exact H2_) | (have H2_ := (Option.bind_some _ _).symm.trans H; with_reducible exact H2_) | with_reducible exact H | (rw [hy234]; exact H) | exact H
  have Ny234 := Aside0.mk hy234
  clear hy234
  have HC6 := Aside0.mk H
  clear H
  go_enter Try.func66, Try.ntmps66
  go_upto_if 17 with (first | ((with_reducible refine gate_dst (N := 4) rfl ?_); refine box_event ?hg (N := 4) ?hd (cs := #[.int .i64 a0_0, .int .i64 a0_1, .slice A0_2 l0_2.length c0_2]) (t := 25) ?hr ?_; (case hd => rfl); (case hg => rfl); (case hr => first | (go_simp; done) | (go_simp; rfl)); intro gb231 hg w7 hbox hb; have BK231 := Aside0.mk (hbox); have GW231 := Aside0.mk ((by rw [hg]; exact (below_size (bz HB)) : w.heap.size ≤ gb231)); have GE231 := Aside0.mk ((by rw [hg]; exact (below_size (bz HB)) : w.heap.size ≤ gb231)); replace HB := Aside0.mk (below_step (bz HB) hb); clear hb hbox hg) | ((with_reducible refine gate_dst (N := 9) rfl ?_); refine box_event ?hg (N := 9) ?hd (cs := #[.int .i64 0, .int .i64 0, .slice none 0 0]) (t := 25) ?hr ?_; (case hd => rfl); (case hg => rfl); (case hr => first | (go_simp; done) | (go_simp; rfl)); intro gb232 hg w8 hbox hb; have BK232 := Aside0.mk (hbox); have GW232 := Aside0.mk ((by rw [hg]; exact (below_size (bz HB)) : w.heap.size ≤ gb232)); have GE232 := Aside0.mk ((by rw [hg]; exact (below_size (bz HB)) : w.heap.size ≤ gb232)); replace HB := Aside0.mk (below_step (bz HB) hb); have NB231_232 := nb BK231 hg; have NB232_231 := nc BK231 hg; replace BK231 := bk BK231 hb; clear hb hbox hg) | ((with_reducible refine gate_callee (f := 81) rfl ?_); refine goesL_ (some 14) rfl rfl Try.func81 (by kernel_rfl) rfl #[.pointer (some ⟨gb231, 0, none⟩), .int .i64 a2] rfl (by (try simp only [List.map_toArray, List.map_cons, List.map_nil]); first | done | rfl | (simp only [List.length_drop, List.length_take]; rfl)) ?_; (with_reducible refine (spec_l3At.calls k _ ([(⟨a0_0, a0_1, l0_2⟩ : S25)]).length [(⟨a0_0, a0_1, l0_2⟩ : S25)] a2 t233 _ ?side1 ?side2 A5.out).mono ?_); (case side1 => refine box_C (d := k25) (cs := #[.int .i64 a0_0, .int .i64 a0_1, .slice A0_2 l0_2.length c0_2]) (t := 25) rfl (k25_mk _ _ ?_ ?_) ?_; (· exact HC0_2.out); (· repeat (first | exact (Kd.C_below HR0_2.out HB.out) | (with_reducible refine Kd.C_alloc ?_ _) | (with_reducible refine Kd.C_drewN ?_ _) | (with_reducible refine Kd.C_drew ?_))); exact by (with_reducible repeat (first | refine blk_drewN ?_ _ | refine blk_drew ?_ | refine blk_alloc ?_ _)); exact BK231.out); (case side2 => exact Nat.le_refl _); rintro e w' ⟨rfl, ⟨nd, rfl⟩⟩; refine ⟨_, rfl, ?_⟩) | ((with_reducible refine gate_dst (N := 15) rfl ?_); refine Kd.R_lit (Kd.int .u8) _ 5 ?hg (N := 15) ?hd (xs := ([] : List Int)) (inner := []) (ok := fun _ => True) (okp := fun _ => True) ?hr ?hp (fun _ hk => hk) trivial (Below.refl _ _) (Nat.le_refl _) (by simp) ?_; (case hd => rfl); (case hg => rfl); (case hr => first | (go_simp; done) | (go_simp; rfl)); (case hp => exact (Reps.none _ _)); intro v235 w9 ho10 hb hg_ hnew_; clear hg_ hnew_; (first | rw [← Ny234.out] at ho10 | (simp only [Int.reduceToNat] at ho10; rw [← Ny234.out] at ho10)); have HO236 := Aside0.mk (Kd.R_lower ho10 (below_size (bz HB))); replace BK231 := bk BK231 hb; replace BK232 := bk BK232 hb; replace HB := Aside0.mk (below_step (bz HB) hb); clear hb ho10))
  (try simp only [Act.put, List.setIfInBounds_toArray, List.set_cons_zero, List.set_cons_succ])
  go_cut [11] (fun v11 wc => ∃ (kq : Nat) (x11_5 : List Int), Aside0 (spec_l3Fetch.j0 kq a2 t233 x11_5 a0_0 a0_1 l0_2 = some (r1, r2, r3, r4)) ∧ Aside0 (kq ≤ k) ∧ Aside0 (Kd.R (Kd.int .u8) 5 wc w.heap.size (fun _ => True) v11 x11_5) ∧ Aside0 (wc.heap[gb231]? = some (.cells #[.int .i64 a0_0, .int .i64 a0_1, (.slice A0_2 l0_2.length c0_2)] 25 (0, 0))) ∧ Aside0 (wc.heap[gb232]? = some (.cells #[.int .i64 0, .int .i64 0, (.slice none 0 0)] 25 (0, 0))) ∧ Aside0 (Below w.heap.size w wc))
  case first =>
    have H := HC6.out
    clear HC6
    by_cases c11 : t233 ≥ 0
    · rw [if_pos c11] at H
      have c11b0 : decide (0 ≤ t233) = true := decide_eq_true c11
      clear c11
      (first | rw [c11b0] | (simp only [i64_w, i32_w]; rw [c11b0]) | skip)
      by_cases c12 : 0 ≤ t233
      · rw [if_pos c12] at H
        have c12b0 : decide (0 ≤ t233) = true := decide_eq_true c12
        clear c12
        by_cases c13 : t233 < (l0_2.length : Int)
        · rw [if_pos c13] at H
          have c13b0 : decide (t233 < (l0_2.length : Int)) = true := decide_eq_true c13
          clear c13
          replace H := Option.bind_eq_some_iff.mp H
          obtain ⟨t238, A140, H⟩ := H
          try dsimp only at H
          have A14 := Aside0.mk A140
          clear A140
          have H' := Aside0.mk H
          clear H
          have hnb15 := NB231_232.out
          have hnc15 := NB232_231.out
          have hcz16_0 : w9.cell? ⟨gb231, 0, none⟩ = some (.int .i64 a0_0) := (blk_cell BK231.out 0).trans rfl
          have hcz16_1 : w9.cell? ⟨gb231, 1, none⟩ = some (.int .i64 a0_1) := (blk_cell BK231.out 1).trans rfl
          have hcz16_2 : w9.cell? ⟨gb231, 2, none⟩ = some (.slice A0_2 l0_2.length c0_2) := (blk_cell BK231.out 2).trans rfl
          have hfz16_0 := blk_frozen BK231.out 0
          have hfz16_1 := blk_frozen BK231.out 1
          have hfz16_2 := blk_frozen BK231.out 2
          have p237 : 0 ≤ (t233 : Int) := of_decide_eq_true (by first | (with_reducible assumption) | assumption)
          have q237 : t233 < (l0_2.length : Int) := of_decide_eq_true (by first | (with_reducible assumption) | assumption)
          obtain ⟨ad237, A237_1, c237_1, e237, hx237_0, hx237_1, hl237_1, hi237_1⟩ := at_T80 HR0_2.out t233 p237 q237
          cases e237
          replace hx237_0 := (HB.out.cell (World.block_lt_of_cell? w _ hx237_0)).trans hx237_0
          replace hx237_1 := (HB.out.cell (World.block_lt_of_cell? w _ hx237_1)).trans hx237_1
          have HR237_1 := Aside0.mk hi237_1
          have HC237_1 := Aside0.mk hl237_1
          clear hi237_1 hl237_1
          replace p237 := eq_true p237
          replace q237 := eq_true q237
          go_wp2_with (first | ((with_reducible refine gate_callee (f := 89) rfl ?_); refine goesL_ (some 24) rfl rfl Try.func89 (by kernel_rfl) rfl #[.slice A237_1 ((rd_T80 l0_2 t233).f1).length c237_1] rfl (by (try simp only [List.map_toArray, List.map_cons, List.map_nil]); first | done | rfl | (simp only [List.length_drop, List.length_take]; rfl)) ?_; (with_reducible refine (spec_l1Copy.calls _ _ ((rd_T80 l0_2 t233).f1) t238 _ ?side1 ?side2 A14.out).mono ?_); (case side1 => repeat (first | exact (Kd.C_below HR237_1.out HB.out) | (with_reducible refine Kd.C_alloc ?_ _) | (with_reducible refine Kd.C_drewN ?_ _) | (with_reducible refine Kd.C_drew ?_))); (case side2 => exact HC237_1.out); rintro e w17 ⟨v239, rfl, ho0, hb⟩; refine ⟨_, rfl, ?_⟩; have HO240 := Aside0.mk (Kd.R_lower (Kd.R_new' ho0 (Kd.R_lt (by (with_reducible repeat (first | apply Kd.R_alloc | apply Kd.R_drewN | apply Kd.R_drew)); exact HO236.out))) (below_size (bz HB))); replace HO236 := Aside0.mk (Kd.R_elder' (by (with_reducible repeat (first | apply Kd.R_alloc | apply Kd.R_drewN | apply Kd.R_drew)); exact HO236.out) (Kd.R_base ho0) hb); replace BK231 := bk BK231 hb; replace BK232 := bk BK232 hb; replace HB := Aside0.mk (below_step (bz HB) hb); (try clear hb); (try clear hb2); (try clear hk); (try clear hi); (try clear ho0)))
          go_meet
          case rel => exact ⟨_, (t238), H', ⟨by first | omega | exact Nat.le_refl _⟩, ⟨by (with_reducible repeat (first | apply Kd.R_alloc | apply Kd.R_drewN | apply Kd.R_drew)); exact Kd.R_mono HO240.out (fun _ hk => trivial)⟩, ⟨by (with_reducible repeat (first | refine blk_drewN ?_ _ | refine blk_drew ?_ | refine blk_alloc ?_ _)); exact BK231.out⟩, ⟨by (with_reducible repeat (first | refine blk_drewN ?_ _ | refine blk_drew ?_ | refine blk_alloc ?_ _)); exact BK232.out⟩, ⟨by repeat (first | (with_reducible first | exact HB.out | apply below_alloc | apply pw_below_drewN | apply below_drew1 | refine below_set ?_ GE231.out | refine below_set ?_ GE232.out) | exact HB.out)⟩⟩
        · rw [if_neg c13] at H
          exact absurd H (by simp)
      · rw [if_neg c12] at H
        exact absurd H (by simp)
    · rw [if_neg c11] at H
      have c11b0 : decide (0 ≤ t233) = false := decide_eq_false c11
      clear c11
      (first | rw [c11b0] | (simp only [i64_w, i32_w]; rw [c11b0]) | skip)
      replace H := Option.bind_eq_some_iff.mp H
      obtain ⟨t241, A180, H⟩ := H
      try dsimp only at H
      have A18 := Aside0.mk A180
      clear A180
      have H' := Aside0.mk H
      clear H
      have hnb19 := NB231_232.out
      have hnc19 := NB232_231.out
      have hcz20_0 : w9.cell? ⟨gb231, 0, none⟩ = some (.int .i64 a0_0) := (blk_cell BK231.out 0).trans rfl
      have hcz20_1 : w9.cell? ⟨gb231, 1, none⟩ = some (.int .i64 a0_1) := (blk_cell BK231.out 1).trans rfl
      have hcz20_2 : w9.cell? ⟨gb231, 2, none⟩ = some (.slice A0_2 l0_2.length c0_2) := (blk_cell BK231.out 2).trans rfl
      have hfz20_0 := blk_frozen BK231.out 0
      have hfz20_1 := blk_frozen BK231.out 1
      have hfz20_2 := blk_frozen BK231.out 2
      go_wp2_with (first | ((with_reducible refine gate_callee (f := 91) rfl ?_); refine goesL_ (some 33) rfl rfl Try.func91 (by kernel_rfl) rfl #[.pointer A1, .int .i64 (wrap64 (a2 * a0_0)), .int .i64 a0_0, .int .i64 a3] rfl (by (try simp only [List.map_toArray, List.map_cons, List.map_nil]); first | done | rfl | (simp only [List.length_drop, List.length_take]; rfl)) ?_; (with_reducible refine (spec_l3Load.calls k _ (l1).length l1 (wrap64 (a2 * a0_0)) a0_0 a3 t241 _ ?side1 ?side2 A18.out).mono ?_); (case side1 => repeat (first | exact (Kd.C_below HR1.out HB.out) | (with_reducible refine Kd.C_alloc ?_ _) | (with_reducible refine Kd.C_drewN ?_ _) | (with_reducible refine Kd.C_drew ?_))); (case side2 => exact Nat.le_refl _); rintro e w21 ⟨v242, rfl, ho0, hb⟩; refine ⟨_, rfl, ?_⟩; have HO243 := Aside0.mk (Kd.R_lower (Kd.R_new' ho0 (Kd.R_lt (by (with_reducible repeat (first | apply Kd.R_alloc | apply Kd.R_drewN | apply Kd.R_drew)); exact HO236.out))) (below_size (bz HB))); replace HO236 := Aside0.mk (Kd.R_elder' (by (with_reducible repeat (first | apply Kd.R_alloc | apply Kd.R_drewN | apply Kd.R_drew)); exact HO236.out) (Kd.R_base ho0) hb); replace BK231 := bk BK231 hb; replace BK232 := bk BK232 hb; replace HB := Aside0.mk (below_step (bz HB) hb); (try clear hb); (try clear hb2); (try clear hk); (try clear hi); (try clear ho0)))
      go_meet
      case rel => exact ⟨_, (t241), H', ⟨by first | omega | exact Nat.le_refl _⟩, ⟨by (with_reducible repeat (first | apply Kd.R_alloc | apply Kd.R_drewN | apply Kd.R_drew)); exact Kd.R_mono HO243.out (fun _ hk => trivial)⟩, ⟨by (with_reducible repeat (first | refine blk_drewN ?_ _ | refine blk_drew ?_ | refine blk_alloc ?_ _)); exact BK231.out⟩, ⟨by (with_reducible repeat (first | refine blk_drewN ?_ _ | refine blk_drew ?_ | refine blk_alloc ?_ _)); exact BK232.out⟩, ⟨by repeat (first | (with_reducible first | exact HB.out | apply below_alloc | apply pw_below_drewN | apply below_drew1 | refine below_set ?_ GE231.out | refine below_set ?_ GE232.out) | exact HB.out)⟩⟩
  case rest =>
    clear HC6
    try clear c1
    try clear c2
    try clear p2
    try clear q2
    try clear hx2
    try clear c6
    try clear p6
    try clear c8
    try clear c9
    try clear c11
    try clear c11b0
    try clear c12
    try clear c12b0
    try clear c13
    try clear c13b0
    try clear c15
    try clear c19
    try clear hcz16_0
    try clear hcz16_1
    try clear hcz16_2
    try clear hcz20_0
    try clear hcz20_1
    try clear hcz20_2
    try clear hfz16_0
    try clear hfz16_1
    try clear hfz16_2
    try clear hfz20_0
    try clear hfz20_1
    try clear hfz20_2
    try clear hx237_0
    try clear hx237_1
    try clear p237
    try clear q237
    obtain ⟨kq, x11_5, HA, HJ5, HO_11, BK231, BK232, HB⟩ := hcut
    cases kq with
    | zero => exact absurd HA.out (by simp [spec_l3Fetch.j0])
    | succ kj5 =>
      have H := HA.out
      clear HA
      simp only [spec_l3Fetch.j0] at H
      replace H := Option.bind_eq_some_iff.mp H
      obtain ⟨⟨t244, t245, t246⟩, A220, H⟩ := H
      try dsimp only at H
      have A22 := Aside0.mk A220
      clear A220
      by_cases c23 : (x11_5.length : Int) > 0
      · rw [if_pos c23] at H
        have c23b0 : decide (0 < (x11_5.length : Int)) = true := decide_eq_true c23
        have c23b1 : decide (0 < x11_5.length) = true := decide_eq_true (by omega)
        clear c23
        replace H := Option.bind_eq_some_iff.mp H
        obtain ⟨t250, A240, H⟩ := H
        try dsimp only at H
        have A24 := Aside0.mk A240
        clear A240
        by_cases c25 : t246.length < 4398046511104
        · rw [if_pos c25] at H
          have LMc25 := Aside0.mk c25
          clear c25
          obtain ⟨y253, hy253⟩ : ∃ y_ : List (S80), y_ = (t246 ++ [(⟨a2, t250⟩ : S80)]) := ⟨_, rfl⟩
          replace H : (if (y253.length : Int) > a0_1 then ((spec_l3Less.f kj5 t244 t245 y253 0).bind fun bt256 => (some (x11_5, bt256.1, bt256.2.1, bt256.2.2))) else (some (x11_5, t244, t245, y253))) = some (r1, r2, r3, r4) := by first | (rw [hy253]; with_reducible exact H) | (have H2_ := (Option.bind_some _ _).symm.trans H; rw [hy253]; with_reducible exact H2_) | (have H2_ := (Option.bind_some _ _).symm.trans H; with_reducible exact H2_) | with_reducible exact H | (rw [hy253]; exact H) | exact H
          have Ny253 := Aside0.mk hy253
          clear hy253
          by_cases c26 : (y253.length : Int) > a0_1
          · rw [if_pos c26] at H
            have c26b0 : decide (a0_1 < (y253.length : Int)) = true := decide_eq_true c26
            clear c26
            replace H := Option.bind_eq_some_iff.mp H
            obtain ⟨⟨t256, t257, t258⟩, A270, H⟩ := H
            try dsimp only at H
            have A27 := Aside0.mk A270
            clear A270
            simp only [Option.some.injEq, Prod.mk.injEq] at H
            obtain ⟨rfl, rfl, rfl, rfl⟩ := H
            have hnb28 := NB231_232.out
            have hnc28 := NB232_231.out
            have hcz29_0 : wc.cell? ⟨gb231, 0, none⟩ = some (.int .i64 a0_0) := (blk_cell BK231.out 0).trans rfl
            have hcz29_1 : wc.cell? ⟨gb231, 1, none⟩ = some (.int .i64 a0_1) := (blk_cell BK231.out 1).trans rfl
            have hcz29_2 : wc.cell? ⟨gb231, 2, none⟩ = some (.slice A0_2 l0_2.length c0_2) := (blk_cell BK231.out 2).trans rfl
            have hfz29_0 := blk_frozen BK231.out 0
            have hfz29_1 := blk_frozen BK231.out 1
            have hfz29_2 := blk_frozen BK231.out 2
            try go_wp2_with (first | ((with_reducible refine gate_callee (f := 71) rfl ?_); refine goesL_ (some 36) rfl rfl Try.func71 (by kernel_rfl) rfl #[.agg #[.int .i64 a0_0, .int .i64 a0_1, .slice A0_2 l0_2.length c0_2], .int .i64 t233] rfl (by (try simp only [List.map_toArray, List.map_cons, List.map_nil]); first | done | rfl | (simp only [List.length_drop, List.length_take]; rfl)) ?_; (with_reducible refine (spec_l3Less.calls kj5 a0_0 a0_1 _ _ l0_2 t233 t244 t245 t246 _ ?side1 ?side2 A22.out).mono ?_); (case side1 => repeat (first | exact (Kd.C_below HR0_2.out HB.out) | (with_reducible refine Kd.C_alloc ?_ _) | (with_reducible refine Kd.C_drewN ?_ _) | (with_reducible refine Kd.C_drew ?_))); (case side2 => exact HC0_2.out); rintro e w30 ⟨v247, rfl, ho0, hb⟩; refine ⟨_, rfl, ?_⟩; have HO248 := Aside0.mk (Kd.S_lower (Kd.S_new' ho0 (Kd.R_lt (by (with_reducible repeat (first | apply Kd.R_alloc | apply Kd.R_drewN | apply Kd.R_drew)); exact HO_11.out))) (below_size (bz HB))); replace HO_11 := rb HO_11 hb; replace BK231 := bk BK231 hb; replace BK232 := bk BK232 hb; replace HB := Aside0.mk (below_step (bz HB) hb); (try clear hb); (try clear hb2); (try clear hk); (try clear hi); (try clear ho0)) | ((with_reducible refine gate_dst (N := 12) rfl ?_); refine box_event ?hg (N := 12) ?hd (cs := #[.int .i64 0, .int .i64 0, .slice none 0 0]) (t := 25) ?hr ?_; (case hd => rfl); (case hg => rfl); (case hr => first | (go_simp; done) | (go_simp; rfl)); intro gb249 hg w31 hbox hb; replace HO_11 := rb HO_11 hb; replace HO248 := Aside0.mk (Kd.S_below (by (with_reducible repeat (first | apply Kd.S_alloc | apply Kd.S_drewN | apply Kd.S_drew)); exact HO248.out) hb); have BK249 := Aside0.mk (hbox); have GW249 := Aside0.mk ((by rw [hg]; exact (below_size (bz HB)) : w.heap.size ≤ gb249)); have GE249 := Aside0.mk ((by rw [hg]; exact (below_size (bz HB)) : w.heap.size ≤ gb249)); replace HB := Aside0.mk (below_step (bz HB) hb); have NB231_249 := nb BK231 hg; have NB249_231 := nc BK231 hg; replace BK231 := bk BK231 hb; have NB232_249 := nb BK232 hg; have NB249_232 := nc BK232 hg; replace BK232 := bk BK232 hb; clear hb hbox hg; have hnb32 := NB249_231.out; have hnc32 := NB231_249.out; have hnb33 := NB249_232.out; have hnc33 := NB232_249.out; have hcz34_0 : w31.cell? ⟨gb249, 0, none⟩ = some (.int .i64 0) := (blk_cell BK249.out 0).trans rfl; have hcz34_1 : w31.cell? ⟨gb249, 1, none⟩ = some (.int .i64 0) := (blk_cell BK249.out 1).trans rfl; have hcz34_2 : w31.cell? ⟨gb249, 2, none⟩ = some (.slice none 0 0) := (blk_cell BK249.out 2).trans rfl; have hfz34_0 := blk_frozen BK249.out 0; have hfz34_1 := blk_frozen BK249.out 1; have hfz34_2 := blk_frozen BK249.out 2; obtain ⟨Ao35, co35, eo35⟩ := Kd.S_slice HO248.out; subst eo35; obtain ⟨Ao36, co36, eo36⟩ := Kd.R_slice HO_11.out; subst eo36))
            have n0_ : Aside0 (Kd.R (Kd.int .u8) 5 (((w31.setCell ⟨gb249, 0, none⟩ (.int .i64 t244)).setCell ⟨gb249, 1, none⟩ (.int .i64 t245)).setCell ⟨gb249, 2, none⟩ (.slice Ao35 t246.length co35)) w.heap.size (fun _ => True) (.slice Ao36 x11_5.length co36) x11_5) := ⟨by (with_reducible repeat (first | apply Kd.R_alloc | apply Kd.R_drewN | apply Kd.R_drew)); exact Kd.R_mono (Kd.R_far (p := ⟨gb249, 2, none⟩) (Kd.R_far (p := ⟨gb249, 1, none⟩) (Kd.R_far (p := ⟨gb249, 0, none⟩) (Kd.R_types HO_11.out BK249.out (by decide)) (fun _ hk => hk.2) (.int .i64 t244)) (fun _ hk => hk.2) (.int .i64 t245)) (fun _ hk => hk.2) (.slice Ao35 t246.length co35)) (fun _ hk => trivial)⟩
            have n1_ : Aside0 (Kd.S k80 80 (((w31.setCell ⟨gb249, 0, none⟩ (.int .i64 t244)).setCell ⟨gb249, 1, none⟩ (.int .i64 t245)).setCell ⟨gb249, 2, none⟩ (.slice Ao35 t246.length co35)) w.heap.size (fun k_ => some k_ ≠ (.slice Ao36 x11_5.length co36 : Value).ownBlock) (.slice Ao35 t246.length co35) t246) := ⟨by (with_reducible repeat (first | apply Kd.S_alloc | apply Kd.S_drewN | apply Kd.S_drew)); exact Kd.S_mono (Kd.S_far (p := ⟨gb249, 2, none⟩) (Kd.S_far (p := ⟨gb249, 1, none⟩) (Kd.S_far (p := ⟨gb249, 0, none⟩) (Kd.S_types HO248.out BK249.out (by decide)) (fun _ hk => hk.2) (.int .i64 t244)) (fun _ hk => hk.2) (.int .i64 t245)) (fun _ hk => hk.2) (.slice Ao35 t246.length co35)) (fun _ hk => hk.1.2)⟩
            have n2_ : Aside0 ((((w31.setCell ⟨gb249, 0, none⟩ (.int .i64 t244)).setCell ⟨gb249, 1, none⟩ (.int .i64 t245)).setCell ⟨gb249, 2, none⟩ (.slice Ao35 t246.length co35)).heap[gb231]? = some (.cells #[.int .i64 a0_0, .int .i64 a0_1, .slice A0_2 l0_2.length c0_2] 25 (0, 0))) := ⟨by (with_reducible repeat (first | refine blk_drewN ?_ _ | refine blk_drew ?_ | refine blk_alloc ?_ _)); refine blk_far ?_ NB231_249.out _; refine blk_far ?_ NB231_249.out _; refine blk_far ?_ NB231_249.out _; (with_reducible repeat (first | refine blk_drewN ?_ _ | refine blk_drew ?_ | refine blk_alloc ?_ _)); exact BK231.out⟩
            have n3_ : Aside0 ((((w31.setCell ⟨gb249, 0, none⟩ (.int .i64 t244)).setCell ⟨gb249, 1, none⟩ (.int .i64 t245)).setCell ⟨gb249, 2, none⟩ (.slice Ao35 t246.length co35)).heap[gb232]? = some (.cells #[.int .i64 0, .int .i64 0, .slice none 0 0] 25 (0, 0))) := ⟨by (with_reducible repeat (first | refine blk_drewN ?_ _ | refine blk_drew ?_ | refine blk_alloc ?_ _)); refine blk_far ?_ NB232_249.out _; refine blk_far ?_ NB232_249.out _; refine blk_far ?_ NB232_249.out _; (with_reducible repeat (first | refine blk_drewN ?_ _ | refine blk_drew ?_ | refine blk_alloc ?_ _)); exact BK232.out⟩
            have n4_ : Aside0 ((((w31.setCell ⟨gb249, 0, none⟩ (.int .i64 t244)).setCell ⟨gb249, 1, none⟩ (.int .i64 t245)).setCell ⟨gb249, 2, none⟩ (.slice Ao35 t246.length co35)).heap[gb249]? = some (.cells #[.int .i64 t244, .int .i64 t245, .slice Ao35 t246.length co35] 25 (0, 0))) := ⟨by (with_reducible repeat (first | refine blk_drewN ?_ _ | refine blk_drew ?_ | refine blk_alloc ?_ _)); refine blk_put (cs := #[.int .i64 t244, .int .i64 t245, .slice none 0 0]) ?_ 2 _ rfl; refine blk_put (cs := #[.int .i64 t244, .int .i64 0, .slice none 0 0]) ?_ 1 _ rfl; refine blk_put (cs := #[.int .i64 0, .int .i64 0, .slice none 0 0]) ?_ 0 _ rfl; (with_reducible repeat (first | refine blk_drewN ?_ _ | refine blk_drew ?_ | refine blk_alloc ?_ _)); exact BK249.out⟩
            have n5_ : Aside0 (Below w.heap.size w (((w31.setCell ⟨gb249, 0, none⟩ (.int .i64 t244)).setCell ⟨gb249, 1, none⟩ (.int .i64 t245)).setCell ⟨gb249, 2, none⟩ (.slice Ao35 t246.length co35))) := ⟨by repeat (first | (with_reducible first | exact HB.out | apply below_alloc | apply pw_below_drewN | apply below_drew1 | refine below_set ?_ GE231.out | refine below_set ?_ GE232.out | refine below_set ?_ GE249.out) | exact HB.out)⟩
            (try clear HO_11)
            (try clear HO248)
            (try clear BK231)
            (try clear BK232)
            (try clear BK249)
            (try clear HB)
            generalize (((w31.setCell ⟨gb249, 0, none⟩ (.int .i64 t244)).setCell ⟨gb249, 1, none⟩ (.int .i64 t245)).setCell ⟨gb249, 2, none⟩ (.slice Ao35 t246.length co35)) = w37 at n0_ n1_ n2_ n3_ n4_ n5_ ⊢
            have HO_11 := n0_
            have HO248 := n1_
            have BK231 := n2_
            have BK232 := n3_
            have BK249 := n4_
            have HB := n5_
            clear n0_ n1_ n2_ n3_ n4_ n5_
            replace HO_11 := Aside0.mk (Kd.R_drew HO_11.out)
            replace HO248 := Aside0.mk (Kd.S_drew HO248.out)
            replace BK231 := Aside0.mk (blk_drew BK231.out)
            replace BK232 := Aside0.mk (blk_drew BK232.out)
            replace BK249 := Aside0.mk (blk_drew BK249.out)
            replace HB := Aside0.mk (below_drew1 HB.out)
            refine start_ (n := 10) (S := fun w' => w'.cell? ⟨gb249, 0, none⟩ = some (.int .i64 t244) ∧ w'.cell? ⟨gb249, 1, none⟩ = some (.int .i64 t245) ∧ w'.cell? ⟨gb249, 2, none⟩ = some (.slice Ao35 t246.length co35)) (ds := [9]) #[false, false, false, false, false, false, false, false, false, false] (by kernel_rfl) rfl rfl ⟨(blk_cell BK249.out 0).trans rfl, (blk_cell BK249.out 1).trans rfl, (blk_cell BK249.out 2).trans rfl⟩ (fun hHeld => ?_); refine with_tabW spec_l3Fetch.tab8 spec_l3Fetch.bits8 (fun HT_ HW_ => ?_)
            generalize w37.drew = w38 at HO_11 HO248 BK231 BK232 BK249 HB hHeld ⊢
            refine pure_ (i := 0) (N := some 40) (v := ?_) (a' := ?_) #[true, false, false, false, false, false, false, false, false, false] rfl rfl (any_of HT_.out (by kernel_rfl)) (fun _ _ _ h => h) (Or.inl ⟨by rfl, ?_⟩) ?_ ?_
            rotate_left; (intro w'; go_simp; with_reducible rfl); rotate_left; (simp only [Act.put, List.setIfInBounds_toArray, List.set_cons_zero, List.set_cons_succ, i64_w, i32_w]; rfl)
            refine pure_ (i := 2) (N := some 42) (v := ?_) (a' := ?_) #[true, false, true, false, false, false, false, false, false, false] rfl rfl (any_of HT_.out (by kernel_rfl)) (fun _ _ _ h => h) (Or.inl ⟨by rfl, ?_⟩) ?_ ?_
            rotate_left; (intro w'; go_simp; with_reducible rfl); rotate_left; (simp only [Act.put, List.setIfInBounds_toArray, List.set_cons_zero, List.set_cons_succ, i64_w, i32_w]; rfl)
            refine pure_ (i := 3) (N := some 43) (v := ?_) (a' := ?_) #[true, false, true, true, false, false, false, false, false, false] rfl rfl (any_of HT_.out (by kernel_rfl)) (fun _ _ _ h => h) (Or.inl ⟨by rfl, ?_⟩) ?_ ?_
            rotate_left; (intro w'; go_simp; with_reducible rfl); rotate_left; (simp only [Act.put, List.setIfInBounds_toArray, List.set_cons_zero, List.set_cons_succ, i64_w, i32_w]; rfl)
            refine take_ (i := 1) (N := some 41) (v := ?_) (a' := ?_) #[true, true, true, true, false, false, false, false, false, false] rfl rfl (take_ofW HT_.out HW_.out (by kernel_rfl)) (fun _ _ _ h => h) (Or.inl ⟨by rfl, ?_⟩) hHeld ?_ ?_
            rotate_left; (rintro w' ⟨s0, s1, s2⟩; go_simp; with_reducible rfl); rotate_left; (simp only [Act.put, List.setIfInBounds_toArray, List.set_cons_zero, List.set_cons_succ, i64_w, i32_w]; rfl)
            refine one_ (i := 4) (N := some 44) #[true, true, true, true, true, false, false, false, false, false] rfl rfl (one_of HT_.out (by kernel_rfl)) (by decide) (fun K hK => ?_)
            refine goes_ Try.func89 (by kernel_rfl) rfl #[.slice Ao36 x11_5.length co36] (by rfl) rfl rfl (by (try simp only [List.map_toArray, List.map_cons, List.map_nil]); first | done | rfl | (simp only [List.length_drop, List.length_take]; rfl)) ?_
            with_reducible refine (spec_l1Copy.calls _ _ x11_5 t250 _ ?side1 ?side2 A24.out).mono ?_
            (case side1 => repeat (first | exact (Kd.R_reads' HO_11.out).2.2 | (with_reducible refine Kd.C_alloc ?_ _) | (with_reducible refine Kd.C_drewN ?_ _) | (with_reducible refine Kd.C_drew ?_)))
            (case side2 => exact (Kd.R_reads' HO_11.out).2.1)
            rintro e w39 ⟨v251, rfl, ho0, hb⟩
            refine ⟨_, rfl, ?_⟩
            replace HO248 := Aside0.mk (Kd.S_elder' (by (with_reducible repeat (first | apply Kd.S_alloc | apply Kd.S_drewN | apply Kd.S_drew)); exact HO248.out) (Kd.R_base ho0) hb)
            have HO252 := Aside0.mk (Kd.R_lower (Kd.R_new' ho0 (Kd.R_lt (by (with_reducible repeat (first | apply Kd.R_alloc | apply Kd.R_drewN | apply Kd.R_drew)); exact HO_11.out))) (below_size (bz HB)))
            replace HO_11 := Aside0.mk (Kd.R_elder' (by (with_reducible repeat (first | apply Kd.R_alloc | apply Kd.R_drewN | apply Kd.R_drew)); exact HO_11.out) (Kd.R_base ho0) hb)
            replace BK231 := bk BK231 hb
            replace BK232 := bk BK232 hb
            replace BK249 := bk BK249 hb
            replace HB := Aside0.mk (below_step (bz HB) hb)
            (try clear hb)
            (try clear hb2)
            (try clear hk)
            (try clear hi)
            (try clear ho0)
            obtain ⟨Ao40, co40, eo40⟩ := Kd.R_slice HO252.out
            (first | subst eo40 | (injection eo40 with f1_ f2_ f3_; have f4_ := f1_.symm; have f5_ := f3_.symm; clear f1_ f2_ f3_; subst f4_; subst f5_))
            refine hK.out _ _ ⟨(blk_cell BK249.out 0).trans rfl, (blk_cell BK249.out 1).trans rfl, (blk_cell BK249.out 2).trans rfl⟩ (fun hHeld => ?_)
            clear hK K
            refine norm_ (a' := ?_) ?_ ?_
            rotate_left
            · show Act.put _ (some 44) _ = _
              simp only [Act.put, List.setIfInBounds_toArray, List.set_cons_zero, List.set_cons_succ, i64_w, i32_w]
              rfl
            refine pure_ (i := 5) (N := some 45) (v := ?_) (a' := ?_) #[true, true, true, true, true, true, false, false, false, false] rfl rfl (any_of HT_.out (by kernel_rfl)) (fun _ _ _ h => h) (Or.inl ⟨by rfl, ?_⟩) ?_ ?_
            rotate_left; (intro w'; go_simp; with_reducible rfl); rotate_left; (simp only [Act.put, List.setIfInBounds_toArray, List.set_cons_zero, List.set_cons_succ, i64_w, i32_w]; rfl)
            refine one_ (i := 6) (N := some 46) #[true, true, true, true, true, true, true, false, false, false] rfl rfl (one_of HT_.out (by kernel_rfl)) (by decide) (fun K hK => ?_)
            refine value_ (w1 := ?_) (v := ?_) (by rfl) rfl ?_ ?_
            rotate_left 2
            · go_simp
              constructor
              · rfl
              · rfl
            refine hK.out _ _ ⟨(blk_cell (blk_alloc BK249.out _) 0).trans rfl, (blk_cell (blk_alloc BK249.out _) 1).trans rfl, (blk_cell (blk_alloc BK249.out _) 2).trans rfl⟩ (fun hHeld => ?_)
            clear hK K
            refine norm_ (a' := ?_) ?_ ?_
            rotate_left
            · show Act.put _ (some 46) _ = _
              simp only [Act.put, List.setIfInBounds_toArray, List.set_cons_zero, List.set_cons_succ, i64_w, i32_w]
              rfl
            refine one_ (i := 7) (N := some 47) #[true, true, true, true, true, true, true, true, false, false] rfl rfl (one_of HT_.out (by kernel_rfl)) (by decide) (fun K hK => ?_)
            refine Kd.S_append_step k80 (w0 := w) w.heap.size (by rfl) (.tmp 41) (.tmp 46) 23 80 (.agg #[(.int .i64 0), (.slice none 0 0)]) 32 rfl Try.underlying23 info80 rfl (by decide) (by omega) (.slice Ao35 t246.length co35) t246 (⟨a2, t250⟩ : S80) [.int .i64 a2, .slice Ao40 t250.length co40] (fun k_ => some k_ ≠ (.slice Ao36 x11_5.length co36 : Value).ownBlock) (fun k_ => some k_ = (.slice Ao40 t250.length co40 : Value).ownBlock) rfl rfl ?aP (fun k_ hk_ => ((Kd.R_mono (ok' := fun k_ => ((fun k_ => some k_ ≠ (.slice Ao36 x11_5.length co36 : Value).ownBlock)) k_ ∧ some k_ ≠ (.slice Ao35 t246.length co35 : Value).ownBlock) (Kd.R_apart' (HO252.out) (Kd.S_typed HO248.out) (by decide)) (fun k_ hk => ⟨hk.1.2, hk.2⟩))).1 k_ hk_.symm) ?aF ?aO ?aB ?aS ?aL ?_
            (case aP => exact k80_mkM _ _ _ (⟨a2, t250⟩ : S80) (Kd.R_mono (Kd.R_tight rfl (Kd.R_mono (ok' := fun k_ => ((fun k_ => some k_ ≠ (.slice Ao36 x11_5.length co36 : Value).ownBlock)) k_ ∧ some k_ ≠ (.slice Ao35 t246.length co35 : Value).ownBlock) (Kd.R_apart' (HO252.out) (Kd.S_typed HO248.out) (by decide)) (fun k_ hk => ⟨hk.1.2, hk.2⟩))) (fun _ h_ => h_)))
            (case aB => exact (bz HB))
            (case aF => exact (fun k_ hk => Kd.fresh' (Kd.R_lt (by (with_reducible repeat (first | apply Kd.R_alloc | apply Kd.R_drewN | apply Kd.R_drew)); exact HO_11.out)) k_ hk))
            (case aO => exact (by (with_reducible repeat (first | apply Kd.S_alloc | apply Kd.S_drewN | apply Kd.S_drew)); exact Kd.S_mono HO248.out (fun k_ hk => ⟨hk.1, fun e_ => hk.2 e_⟩)))
            (case aS => exact (below_size (bz HB)))
            (case aL => have := LMc25.out; omega)
            intro v254 w41 ho hb hg hat
            rw [← Ny253.out] at ho
            have n0_ := Aside0.mk (Kd.R_over' (by (with_reducible repeat (first | apply Kd.R_alloc | apply Kd.R_drewN | apply Kd.R_drew)); exact HO_11.out) (Kd.S_typed (by (with_reducible repeat (first | apply Kd.S_alloc | apply Kd.S_drewN | apply Kd.S_drew)); exact HO248.out)) (by decide) hg)
            have n1_ := Aside0.mk (blk_grown (g := gb231) (o := .cells #[.int .i64 a0_0, .int .i64 a0_1, .slice A0_2 l0_2.length c0_2] 25 (0, 0)) (by (with_reducible repeat (first | refine blk_drewN ?_ _ | refine blk_drew ?_ | refine blk_alloc ?_ _)); exact BK231.out) hg (Kd.S_ne HO248.out BK231.out (by decide)))
            have n2_ := Aside0.mk (blk_grown (g := gb232) (o := .cells #[.int .i64 0, .int .i64 0, .slice none 0 0] 25 (0, 0)) (by (with_reducible repeat (first | refine blk_drewN ?_ _ | refine blk_drew ?_ | refine blk_alloc ?_ _)); exact BK232.out) hg (Kd.S_ne HO248.out BK232.out (by decide)))
            have n3_ := Aside0.mk (blk_grown (g := gb249) (o := .cells #[.int .i64 t244, .int .i64 t245, .slice Ao35 t246.length co35] 25 (0, 0)) (by (with_reducible repeat (first | refine blk_drewN ?_ _ | refine blk_drew ?_ | refine blk_alloc ?_ _)); exact BK249.out) hg (Kd.S_ne HO248.out BK249.out (by decide)))
            have n4_ := Aside0.mk (hb)
            have n5_ := Aside0.mk (ho)
            clear HO_11
            clear BK231
            clear BK232
            clear BK249
            clear HB
            clear HO248
            clear HO252
            have HO_11 := n0_
            have BK231 := n1_
            have BK232 := n2_
            have BK249 := n3_
            have HB := n4_
            have HO255 := n5_
            clear n0_ n1_ n2_ n3_ n4_ n5_
            clear ho hb hg hat
            obtain ⟨Ao42, co42, eo42⟩ := Kd.S_slice HO255.out
            (first | subst eo42 | (injection eo42 with f1_ f2_ f3_; have f4_ := f1_.symm; have f5_ := f3_.symm; clear f1_ f2_ f3_; subst f4_; subst f5_))
            refine hK.out _ _ ⟨(blk_cell BK249.out 0).trans rfl, (blk_cell BK249.out 1).trans rfl, (blk_cell BK249.out 2).trans rfl⟩ (fun hHeld => ?_)
            clear hK K
            refine norm_ (a' := ?_) ?_ ?_
            rotate_left
            · show Act.put _ (some 47) _ = _
              simp only [Act.put, List.setIfInBounds_toArray, List.set_cons_zero, List.set_cons_succ, i64_w, i32_w]
              rfl
            refine pure_ (i := 8) (N := some 48) (v := ?_) (a' := ?_) #[true, true, true, true, true, true, true, true, true, false] rfl rfl (any_of HT_.out (by kernel_rfl)) (fun _ _ _ h => h) (Or.inl ⟨by rfl, ?_⟩) ?_ ?_
            rotate_left; (intro w'; go_simp; with_reducible rfl); rotate_left; (simp only [Act.put, List.setIfInBounds_toArray, List.set_cons_zero, List.set_cons_succ, i64_w, i32_w]; rfl)
            refine last_ (i := 9) (N := none) #[true, true, true, true, true, true, true, true, true, true] rfl rfl (one_of HT_.out (by kernel_rfl)) (by decide) (fun K hK => ?_)
            have hs43 : w41.cell? ⟨gb249, 2, none⟩ = some (.slice Ao35 t246.length co35) := (blk_cell BK249.out 2).trans rfl
            have hfs43 := blk_frozen BK249.out 2
            have hns43_0 := NB231_249.out
            have hns43_1 := NB232_249.out
            have hms43_0 := NB249_231.out
            have hms43_1 := NB249_232.out
            refine skip_ (w1 := ?_) (by rfl) rfl ?_ ?_
            rotate_left
            · go_simp
              rfl
            refine hK.out _ _ ?_
            clear hK K
            refine done_ (done_of HT_.out (by kernel_rfl)) ?_
            have hcz44_0 : w41.cell? ⟨gb249, 0, none⟩ = some (.int .i64 t244) := (blk_cell BK249.out 0).trans rfl
            have hcz44_1 : w41.cell? ⟨gb249, 1, none⟩ = some (.int .i64 t245) := (blk_cell BK249.out 1).trans rfl
            have hcz44_2 : w41.cell? ⟨gb249, 2, none⟩ = some (.slice Ao35 t246.length co35) := (blk_cell BK249.out 2).trans rfl
            have hfz44_0 := blk_frozen BK249.out 0
            have hfz44_1 := blk_frozen BK249.out 1
            have hfz44_2 := blk_frozen BK249.out 2
            have hcz45_0 : w41.cell? ⟨gb231, 0, none⟩ = some (.int .i64 a0_0) := (blk_cell BK231.out 0).trans rfl
            have hcz45_1 : w41.cell? ⟨gb231, 1, none⟩ = some (.int .i64 a0_1) := (blk_cell BK231.out 1).trans rfl
            have hcz45_2 : w41.cell? ⟨gb231, 2, none⟩ = some (.slice A0_2 l0_2.length c0_2) := (blk_cell BK231.out 2).trans rfl
            have hfz45_0 := blk_frozen BK231.out 0
            have hfz45_1 := blk_frozen BK231.out 1
            have hfz45_2 := blk_frozen BK231.out 2
            try go_wp2_with (first | ((with_reducible refine gate_callee (f := 71) rfl ?_); refine goesL_ (some 56) rfl rfl Try.func71 (by kernel_rfl) rfl #[.agg #[.int .i64 t244, .int .i64 t245, .slice Ao42 y253.length co42], .int .i64 0] rfl (by (try simp only [List.map_toArray, List.map_cons, List.map_nil]); first | done | rfl | (simp only [List.length_drop, List.length_take]; rfl)) ?_; (with_reducible refine (spec_l3Less.calls kj5 t244 t245 _ _ y253 0 t256 t257 t258 _ ?side1 ?side2 A27.out).mono ?_); (case side1 => refine (Kd.S_reads' (e := 80) (base := w.heap.size) (ok := fun k_ => some k_ ≠ (.slice Ao36 x11_5.length co36 : Value).ownBlock) (n := y253.length) (c := co42) ?_).2.2; exact (by (with_reducible repeat (first | apply Kd.S_alloc | apply Kd.S_drewN | apply Kd.S_drew)); exact (Kd.S_mono (Kd.S_far (p := ⟨gb249, 2, none⟩) (Kd.S_types HO255.out BK249.out (by decide)) (fun _ hk => hk.2) (.slice Ao42 y253.length co42)) (fun _ h_ => h_.1)))); (case side2 => exact (Kd.S_reads' HO255.out).2.1); rintro e w46 ⟨v259, rfl, ho0, hb⟩; refine ⟨_, rfl, ?_⟩; have HO260 := Aside0.mk (Kd.S_lower (Kd.S_new' (Kd.S_new' ho0 (Kd.R_lt (by (with_reducible repeat (first | apply Kd.R_alloc | apply Kd.R_drewN | apply Kd.R_drew)); exact (Kd.R_mono (Kd.R_far (p := ⟨gb249, 2, none⟩) (Kd.R_types HO_11.out BK249.out (by decide)) (fun _ hk => hk.2) (.slice Ao42 y253.length co42)) (fun _ h_ => h_.1))))) (Kd.S_lt (by (with_reducible repeat (first | apply Kd.S_alloc | apply Kd.S_drewN | apply Kd.S_drew)); exact (Kd.S_mono (Kd.S_far (p := ⟨gb249, 2, none⟩) (Kd.S_types HO255.out BK249.out (by decide)) (fun _ hk => hk.2) (.slice Ao42 y253.length co42)) (fun _ h_ => h_.1))))) (below_size (bz HB))); replace HO_11 := Aside0.mk (Kd.R_below (by (with_reducible repeat (first | apply Kd.R_alloc | apply Kd.R_drewN | apply Kd.R_drew)); exact (Kd.R_mono (Kd.R_far (p := ⟨gb249, 2, none⟩) (Kd.R_types HO_11.out BK249.out (by decide)) (fun _ hk => hk.2) (.slice Ao42 y253.length co42)) (fun _ h_ => h_.1))) hb); replace HO255 := Aside0.mk (Kd.S_elder' (by (with_reducible repeat (first | apply Kd.S_alloc | apply Kd.S_drewN | apply Kd.S_drew)); exact (Kd.S_mono (Kd.S_far (p := ⟨gb249, 2, none⟩) (Kd.S_types HO255.out BK249.out (by decide)) (fun _ hk => hk.2) (.slice Ao42 y253.length co42)) (fun _ h_ => h_.1))) (Kd.S_base ho0) hb); replace BK231 := Aside0.mk (blk_below (g := gb231) (o := .cells #[.int .i64 a0_0, .int .i64 a0_1, .slice A0_2 l0_2.length c0_2] 25 (0, 0)) (by (with_reducible repeat (first | refine blk_drewN ?_ _ | refine blk_drew ?_ | refine blk_alloc ?_ _)); refine blk_far ?_ NB231_249.out _; (with_reducible repeat (first | refine blk_drewN ?_ _ | refine blk_drew ?_ | refine blk_alloc ?_ _)); exact BK231.out) hb); replace BK232 := Aside0.mk (blk_below (g := gb232) (o := .cells #[.int .i64 0, .int .i64 0, .slice none 0 0] 25 (0, 0)) (by (with_reducible repeat (first | refine blk_drewN ?_ _ | refine blk_drew ?_ | refine blk_alloc ?_ _)); refine blk_far ?_ NB232_249.out _; (with_reducible repeat (first | refine blk_drewN ?_ _ | refine blk_drew ?_ | refine blk_alloc ?_ _)); exact BK232.out) hb); replace BK249 := Aside0.mk (blk_below (g := gb249) (o := .cells #[.int .i64 t244, .int .i64 t245, .slice Ao42 y253.length co42] 25 (0, 0)) (by (with_reducible repeat (first | refine blk_drewN ?_ _ | refine blk_drew ?_ | refine blk_alloc ?_ _)); refine blk_put (cs := #[.int .i64 t244, .int .i64 t245, .slice Ao35 t246.length co35]) ?_ 2 _ rfl; (with_reducible repeat (first | refine blk_drewN ?_ _ | refine blk_drew ?_ | refine blk_alloc ?_ _)); exact BK249.out) hb); replace HB := Aside0.mk (below_step (bz HB) hb); (try clear hb); (try clear hb2); (try clear hk); (try clear hi); (try clear ho0); have hcz47_0 : w46.cell? ⟨gb249, 0, none⟩ = some (.int .i64 t244) := (blk_cell BK249.out 0).trans rfl; have hcz47_1 : w46.cell? ⟨gb249, 1, none⟩ = some (.int .i64 t245) := (blk_cell BK249.out 1).trans rfl; have hcz47_2 : w46.cell? ⟨gb249, 2, none⟩ = some (.slice Ao42 y253.length co42) := (blk_cell BK249.out 2).trans rfl; have hfz47_0 := blk_frozen BK249.out 0; have hfz47_1 := blk_frozen BK249.out 1; have hfz47_2 := blk_frozen BK249.out 2; obtain ⟨Ao48, co48, eo48⟩ := Kd.S_slice HO260.out; subst eo48))
            have n0_ : Aside0 (Kd.R (Kd.int .u8) 5 (((w46.setCell ⟨gb249, 0, none⟩ (.int .i64 t256)).setCell ⟨gb249, 1, none⟩ (.int .i64 t257)).setCell ⟨gb249, 2, none⟩ (.slice Ao48 t258.length co48)) w.heap.size (fun _ => True) (.slice Ao36 x11_5.length co36) x11_5) := ⟨by (with_reducible repeat (first | apply Kd.R_alloc | apply Kd.R_drewN | apply Kd.R_drew)); exact Kd.R_mono (Kd.R_far (p := ⟨gb249, 2, none⟩) (Kd.R_far (p := ⟨gb249, 1, none⟩) (Kd.R_far (p := ⟨gb249, 0, none⟩) (Kd.R_types HO_11.out BK249.out (by decide)) (fun _ hk => hk.2) (.int .i64 t256)) (fun _ hk => hk.2) (.int .i64 t257)) (fun _ hk => hk.2) (.slice Ao48 t258.length co48)) (fun _ hk => trivial)⟩
            have n1_ : Aside0 (Kd.S k80 80 (((w46.setCell ⟨gb249, 0, none⟩ (.int .i64 t256)).setCell ⟨gb249, 1, none⟩ (.int .i64 t257)).setCell ⟨gb249, 2, none⟩ (.slice Ao48 t258.length co48)) w.heap.size (fun k_ => some k_ ≠ (.slice Ao36 x11_5.length co36 : Value).ownBlock ∧ some k_ ≠ (.slice Ao48 t258.length co48 : Value).ownBlock) (.slice Ao42 y253.length co42) y253) := ⟨by (with_reducible repeat (first | apply Kd.S_alloc | apply Kd.S_drewN | apply Kd.S_drew)); exact Kd.S_mono (Kd.S_far (p := ⟨gb249, 2, none⟩) (Kd.S_far (p := ⟨gb249, 1, none⟩) (Kd.S_far (p := ⟨gb249, 0, none⟩) (Kd.S_types HO255.out BK249.out (by decide)) (fun _ hk => hk.2) (.int .i64 t256)) (fun _ hk => hk.2) (.int .i64 t257)) (fun _ hk => hk.2) (.slice Ao48 t258.length co48)) (fun _ hk => ⟨hk.1.1, hk.1.2⟩)⟩
            have n2_ : Aside0 (Kd.S k80 80 (((w46.setCell ⟨gb249, 0, none⟩ (.int .i64 t256)).setCell ⟨gb249, 1, none⟩ (.int .i64 t257)).setCell ⟨gb249, 2, none⟩ (.slice Ao48 t258.length co48)) w.heap.size (fun k_ => some k_ ≠ (.slice Ao36 x11_5.length co36 : Value).ownBlock ∧ some k_ ≠ (.slice Ao42 y253.length co42 : Value).ownBlock) (.slice Ao48 t258.length co48) t258) := ⟨by (with_reducible repeat (first | apply Kd.S_alloc | apply Kd.S_drewN | apply Kd.S_drew)); exact Kd.S_mono (Kd.S_far (p := ⟨gb249, 2, none⟩) (Kd.S_far (p := ⟨gb249, 1, none⟩) (Kd.S_far (p := ⟨gb249, 0, none⟩) (Kd.S_types HO260.out BK249.out (by decide)) (fun _ hk => hk.2) (.int .i64 t256)) (fun _ hk => hk.2) (.int .i64 t257)) (fun _ hk => hk.2) (.slice Ao48 t258.length co48)) (fun _ hk => ⟨hk.1.1.2, hk.1.2⟩)⟩
            have n3_ : Aside0 ((((w46.setCell ⟨gb249, 0, none⟩ (.int .i64 t256)).setCell ⟨gb249, 1, none⟩ (.int .i64 t257)).setCell ⟨gb249, 2, none⟩ (.slice Ao48 t258.length co48)).heap[gb231]? = some (.cells #[.int .i64 a0_0, .int .i64 a0_1, .slice A0_2 l0_2.length c0_2] 25 (0, 0))) := ⟨by (with_reducible repeat (first | refine blk_drewN ?_ _ | refine blk_drew ?_ | refine blk_alloc ?_ _)); refine blk_far ?_ NB231_249.out _; refine blk_far ?_ NB231_249.out _; refine blk_far ?_ NB231_249.out _; (with_reducible repeat (first | refine blk_drewN ?_ _ | refine blk_drew ?_ | refine blk_alloc ?_ _)); exact BK231.out⟩
            have n4_ : Aside0 ((((w46.setCell ⟨gb249, 0, none⟩ (.int .i64 t256)).setCell ⟨gb249, 1, none⟩ (.int .i64 t257)).setCell ⟨gb249, 2, none⟩ (.slice Ao48 t258.length co48)).heap[gb232]? = some (.cells #[.int .i64 0, .int .i64 0, .slice none 0 0] 25 (0, 0))) := ⟨by (with_reducible repeat (first | refine blk_drewN ?_ _ | refine blk_drew ?_ | refine blk_alloc ?_ _)); refine blk_far ?_ NB232_249.out _; refine blk_far ?_ NB232_249.out _; refine blk_far ?_ NB232_249.out _; (with_reducible repeat (first | refine blk_drewN ?_ _ | refine blk_drew ?_ | refine blk_alloc ?_ _)); exact BK232.out⟩
            have n5_ : Aside0 ((((w46.setCell ⟨gb249, 0, none⟩ (.int .i64 t256)).setCell ⟨gb249, 1, none⟩ (.int .i64 t257)).setCell ⟨gb249, 2, none⟩ (.slice Ao48 t258.length co48)).heap[gb249]? = some (.cells #[.int .i64 t256, .int .i64 t257, .slice Ao48 t258.length co48] 25 (0, 0))) := ⟨by (with_reducible repeat (first | refine blk_drewN ?_ _ | refine blk_drew ?_ | refine blk_alloc ?_ _)); refine blk_put (cs := #[.int .i64 t256, .int .i64 t257, .slice Ao42 y253.length co42]) ?_ 2 _ rfl; refine blk_put (cs := #[.int .i64 t256, .int .i64 t245, .slice Ao42 y253.length co42]) ?_ 1 _ rfl; refine blk_put (cs := #[.int .i64 t244, .int .i64 t245, .slice Ao42 y253.length co42]) ?_ 0 _ rfl; (with_reducible repeat (first | refine blk_drewN ?_ _ | refine blk_drew ?_ | refine blk_alloc ?_ _)); exact BK249.out⟩
            have n6_ : Aside0 (Below w.heap.size w (((w46.setCell ⟨gb249, 0, none⟩ (.int .i64 t256)).setCell ⟨gb249, 1, none⟩ (.int .i64 t257)).setCell ⟨gb249, 2, none⟩ (.slice Ao48 t258.length co48))) := ⟨by repeat (first | (with_reducible first | exact HB.out | apply below_alloc | apply pw_below_drewN | apply below_drew1 | refine below_set ?_ GE231.out | refine below_set ?_ GE232.out | refine below_set ?_ GE249.out) | exact HB.out)⟩
            (try clear HO_11)
            (try clear HO255)
            (try clear HO260)
            (try clear BK231)
            (try clear BK232)
            (try clear BK249)
            (try clear HB)
            generalize (((w46.setCell ⟨gb249, 0, none⟩ (.int .i64 t256)).setCell ⟨gb249, 1, none⟩ (.int .i64 t257)).setCell ⟨gb249, 2, none⟩ (.slice Ao48 t258.length co48)) = w49 at n0_ n1_ n2_ n3_ n4_ n5_ n6_ ⊢
            have HO_11 := n0_
            have HO255 := n1_
            have HO260 := n2_
            have BK231 := n3_
            have BK232 := n4_
            have BK249 := n5_
            have HB := n6_
            clear n0_ n1_ n2_ n3_ n4_ n5_ n6_
            replace HO_11 := Aside0.mk (Kd.R_drew HO_11.out)
            replace HO255 := Aside0.mk (Kd.S_drew HO255.out)
            replace HO260 := Aside0.mk (Kd.S_drew HO260.out)
            replace BK231 := Aside0.mk (blk_drew BK231.out)
            replace BK232 := Aside0.mk (blk_drew BK232.out)
            replace BK249 := Aside0.mk (blk_drew BK249.out)
            replace HB := Aside0.mk (below_drew1 HB.out)
            refine start_ (n := 4) (S := fun w' => w'.cell? ⟨gb249, 0, none⟩ = some (.int .i64 t256) ∧ w'.cell? ⟨gb249, 1, none⟩ = some (.int .i64 t257) ∧ w'.cell? ⟨gb249, 2, none⟩ = some (.slice Ao48 t258.length co48)) (ds := []) #[false, false, false, false] (by kernel_rfl) rfl rfl ⟨(blk_cell BK249.out 0).trans rfl, (blk_cell BK249.out 1).trans rfl, (blk_cell BK249.out 2).trans rfl⟩ (fun hHeld => ?_)
            generalize w49.drew = w50 at HO_11 HO255 HO260 BK231 BK232 BK249 HB hHeld ⊢
            refine pure_ (i := 0) (N := some 57) (v := ?_) (a' := ?_) #[true, false, false, false] rfl rfl (by kernel_rfl) (fun _ _ _ h => h) (Or.inl ⟨by rfl, ?_⟩) ?_ ?_
            rotate_left; (intro w'; go_simp; with_reducible rfl); rotate_left; (simp only [Act.put, List.setIfInBounds_toArray, List.set_cons_zero, List.set_cons_succ, i64_w, i32_w]; rfl)
            refine pure_ (i := 2) (N := some 8) (v := ?_) (a' := ?_) #[true, false, true, false] rfl rfl (by kernel_rfl) (fun _ _ _ h => h) (Or.inl ⟨by rfl, ?_⟩) ?_ ?_
            rotate_left; (intro w'; go_simp; with_reducible rfl); rotate_left; (simp only [Act.put, List.setIfInBounds_toArray, List.set_cons_zero, List.set_cons_succ, i64_w, i32_w]; rfl)
            refine take_ (i := 1) (N := some 58) (v := ?_) (a' := ?_) #[true, true, true, false] rfl rfl (by kernel_rfl) (fun _ _ _ h => h) (Or.inl ⟨by rfl, ?_⟩) hHeld ?_ ?_
            rotate_left; (rintro w' ⟨s0, s1, s2⟩; go_simp; with_reducible rfl); rotate_left; (simp only [Act.put, List.setIfInBounds_toArray, List.set_cons_zero, List.set_cons_succ, i64_w, i32_w]; rfl)
            refine one_ (i := 3) (N := none) #[true, true, true, true] rfl rfl (by kernel_rfl) (by decide) (fun K hK => ?_)
            have hs51 : w50.cell? ⟨gb232, 0, none⟩ = some (.int .i64 0) := (blk_cell BK232.out 0).trans rfl
            have hfs51 := blk_frozen BK232.out 0
            have hns51_0 := NB231_232.out
            have hns51_2 := NB249_232.out
            have hms51_0 := NB232_231.out
            have hms51_2 := NB232_249.out
            have hs52 : w50.cell? ⟨gb232, 1, none⟩ = some (.int .i64 0) := (blk_cell BK232.out 1).trans rfl
            have hfs52 := blk_frozen BK232.out 1
            have hns52_0 := NB231_232.out
            have hns52_2 := NB249_232.out
            have hms52_0 := NB232_231.out
            have hms52_2 := NB232_249.out
            have hs53 : w50.cell? ⟨gb232, 2, none⟩ = some (.slice none 0 0) := (blk_cell BK232.out 2).trans rfl
            have hfs53 := blk_frozen BK232.out 2
            have hns53_0 := NB231_232.out
            have hns53_2 := NB249_232.out
            have hms53_0 := NB232_231.out
            have hms53_2 := NB232_249.out
            refine skip_ (w1 := ?_) (by rfl) rfl ?_ ?_
            rotate_left
            · go_simp
              rfl
            refine hK.out _ _ ⟨((cell_far (p := ⟨gb232, _, none⟩) NB249_232.out _).trans (((cell_far (p := ⟨gb232, _, none⟩) NB249_232.out _).trans (((cell_far (p := ⟨gb232, _, none⟩) NB249_232.out _).trans (hHeld.1)))))), ((cell_far (p := ⟨gb232, _, none⟩) NB249_232.out _).trans (((cell_far (p := ⟨gb232, _, none⟩) NB249_232.out _).trans (((cell_far (p := ⟨gb232, _, none⟩) NB249_232.out _).trans (hHeld.2.1)))))), ((cell_far (p := ⟨gb232, _, none⟩) NB249_232.out _).trans (((cell_far (p := ⟨gb232, _, none⟩) NB249_232.out _).trans (((cell_far (p := ⟨gb232, _, none⟩) NB249_232.out _).trans (hHeld.2.2))))))⟩ (fun hHeld => ?_)
            clear hK K
            refine done_ (by kernel_rfl) ?_
            try go_wp2
            refine bodyPost_ret (results_tc rfl _ _ gb232 25 #[.int .i64 t256, .int .i64 t257, .slice Ao48 t258.length co48] (0, 0) _ rfl (by (with_reducible repeat (first | refine blk_drewN ?_ _ | refine blk_drew ?_ | refine blk_alloc ?_ _)); refine blk_put (cs := #[.int .i64 t256, .int .i64 t257, .slice none 0 0]) ?_ 2 _ rfl; refine blk_put (cs := #[.int .i64 t256, .int .i64 0, .slice none 0 0]) ?_ 1 _ rfl; refine blk_put (cs := #[.int .i64 0, .int .i64 0, .slice none 0 0]) ?_ 0 _ rfl; (with_reducible repeat (first | refine blk_drewN ?_ _ | refine blk_drew ?_ | refine blk_alloc ?_ _)); exact BK232.out) Try.underlying25 rfl (by kernel_rfl)) rfl ?_
            exact ⟨_, _, by first | rfl | (simp [errW_none, errW_some] <;> rfl) | (simp [*, errW_none, errW_some] <;> rfl), by (with_reducible repeat (first | apply Kd.R_alloc | apply Kd.R_drewN | apply Kd.R_drew)); exact Kd.R_mono (Kd.R_far (p := ⟨gb232, 2, none⟩) (Kd.R_far (p := ⟨gb232, 1, none⟩) (Kd.R_far (p := ⟨gb232, 0, none⟩) (Kd.R_types HO_11.out BK232.out (by decide)) (fun _ hk => hk.2) (.int .i64 t256)) (fun _ hk => hk.2) (.int .i64 t257)) (fun _ hk => hk.2) (.slice Ao48 t258.length co48)) (fun _ hk => trivial), by (with_reducible repeat (first | apply Kd.S_alloc | apply Kd.S_drewN | apply Kd.S_drew)); exact Kd.S_mono (Kd.S_far (p := ⟨gb232, 2, none⟩) (Kd.S_far (p := ⟨gb232, 1, none⟩) (Kd.S_far (p := ⟨gb232, 0, none⟩) (Kd.S_types HO260.out BK232.out (by decide)) (fun _ hk => hk.2) (.int .i64 t256)) (fun _ hk => hk.2) (.int .i64 t257)) (fun _ hk => hk.2) (.slice Ao48 t258.length co48)) (fun _ hk => hk.1.1), by repeat (first | (with_reducible first | exact HB.out | apply below_alloc | apply pw_below_drewN | apply below_drew1 | refine below_set ?_ GE231.out | refine below_set ?_ GE232.out | refine below_set ?_ GE249.out) | exact HB.out)⟩
          · rw [if_neg c26] at H
            have c26b0 : decide (a0_1 < (y253.length : Int)) = false := decide_eq_false c26
            clear c26
            simp only [Option.some.injEq, Prod.mk.injEq] at H
            obtain ⟨rfl, rfl, rfl, rfl⟩ := H
            have hnb54 := NB231_232.out
            have hnc54 := NB232_231.out
            have hcz55_0 : wc.cell? ⟨gb231, 0, none⟩ = some (.int .i64 a0_0) := (blk_cell BK231.out 0).trans rfl
            have hcz55_1 : wc.cell? ⟨gb231, 1, none⟩ = some (.int .i64 a0_1) := (blk_cell BK231.out 1).trans rfl
            have hcz55_2 : wc.cell? ⟨gb231, 2, none⟩ = some (.slice A0_2 l0_2.length c0_2) := (blk_cell BK231.out 2).trans rfl
            have hfz55_0 := blk_frozen BK231.out 0
            have hfz55_1 := blk_frozen BK231.out 1
            have hfz55_2 := blk_frozen BK231.out 2
            try go_wp2_with (first | ((with_reducible refine gate_callee (f := 71) rfl ?_); refine goesL_ (some 36) rfl rfl Try.func71 (by kernel_rfl) rfl #[.agg #[.int .i64 a0_0, .int .i64 a0_1, .slice A0_2 l0_2.length c0_2], .int .i64 t233] rfl (by (try simp only [List.map_toArray, List.map_cons, List.map_nil]); first | done | rfl | (simp only [List.length_drop, List.length_take]; rfl)) ?_; (with_reducible refine (spec_l3Less.calls kj5 a0_0 a0_1 _ _ l0_2 t233 t244 t245 t246 _ ?side1 ?side2 A22.out).mono ?_); (case side1 => repeat (first | exact (Kd.C_below HR0_2.out HB.out) | (with_reducible refine Kd.C_alloc ?_ _) | (with_reducible refine Kd.C_drewN ?_ _) | (with_reducible refine Kd.C_drew ?_))); (case side2 => exact HC0_2.out); rintro e w56 ⟨v247, rfl, ho0, hb⟩; refine ⟨_, rfl, ?_⟩; have HO248 := Aside0.mk (Kd.S_lower (Kd.S_new' ho0 (Kd.R_lt (by (with_reducible repeat (first | apply Kd.R_alloc | apply Kd.R_drewN | apply Kd.R_drew)); exact HO_11.out))) (below_size (bz HB))); replace HO_11 := rb HO_11 hb; replace BK231 := bk BK231 hb; replace BK232 := bk BK232 hb; replace HB := Aside0.mk (below_step (bz HB) hb); (try clear hb); (try clear hb2); (try clear hk); (try clear hi); (try clear ho0)) | ((with_reducible refine gate_dst (N := 12) rfl ?_); refine box_event ?hg (N := 12) ?hd (cs := #[.int .i64 0, .int .i64 0, .slice none 0 0]) (t := 25) ?hr ?_; (case hd => rfl); (case hg => rfl); (case hr => first | (go_simp; done) | (go_simp; rfl)); intro gb249 hg w57 hbox hb; replace HO_11 := rb HO_11 hb; replace HO248 := Aside0.mk (Kd.S_below (by (with_reducible repeat (first | apply Kd.S_alloc | apply Kd.S_drewN | apply Kd.S_drew)); exact HO248.out) hb); have BK249 := Aside0.mk (hbox); have GW249 := Aside0.mk ((by rw [hg]; exact (below_size (bz HB)) : w.heap.size ≤ gb249)); have GE249 := Aside0.mk ((by rw [hg]; exact (below_size (bz HB)) : w.heap.size ≤ gb249)); replace HB := Aside0.mk (below_step (bz HB) hb); have NB231_249 := nb BK231 hg; have NB249_231 := nc BK231 hg; replace BK231 := bk BK231 hb; have NB232_249 := nb BK232 hg; have NB249_232 := nc BK232 hg; replace BK232 := bk BK232 hb; clear hb hbox hg; have hnb58 := NB249_231.out; have hnc58 := NB231_249.out; have hnb59 := NB249_232.out; have hnc59 := NB232_249.out; have hcz60_0 : w57.cell? ⟨gb249, 0, none⟩ = some (.int .i64 0) := (blk_cell BK249.out 0).trans rfl; have hcz60_1 : w57.cell? ⟨gb249, 1, none⟩ = some (.int .i64 0) := (blk_cell BK249.out 1).trans rfl; have hcz60_2 : w57.cell? ⟨gb249, 2, none⟩ = some (.slice none 0 0) := (blk_cell BK249.out 2).trans rfl; have hfz60_0 := blk_frozen BK249.out 0; have hfz60_1 := blk_frozen BK249.out 1; have hfz60_2 := blk_frozen BK249.out 2; obtain ⟨Ao61, co61, eo61⟩ := Kd.S_slice HO248.out; subst eo61; obtain ⟨Ao62, co62, eo62⟩ := Kd.R_slice HO_11.out; subst eo62))
            have n0_ : Aside0 (Kd.R (Kd.int .u8) 5 (((w57.setCell ⟨gb249, 0, none⟩ (.int .i64 t244)).setCell ⟨gb249, 1, none⟩ (.int .i64 t245)).setCell ⟨gb249, 2, none⟩ (.slice Ao61 t246.length co61)) w.heap.size (fun _ => True) (.slice Ao62 x11_5.length co62) x11_5) := ⟨by (with_reducible repeat (first | apply Kd.R_alloc | apply Kd.R_drewN | apply Kd.R_drew)); exact Kd.R_mono (Kd.R_far (p := ⟨gb249, 2, none⟩) (Kd.R_far (p := ⟨gb249, 1, none⟩) (Kd.R_far (p := ⟨gb249, 0, none⟩) (Kd.R_types HO_11.out BK249.out (by decide)) (fun _ hk => hk.2) (.int .i64 t244)) (fun _ hk => hk.2) (.int .i64 t245)) (fun _ hk => hk.2) (.slice Ao61 t246.length co61)) (fun _ hk => trivial)⟩
            have n1_ : Aside0 (Kd.S k80 80 (((w57.setCell ⟨gb249, 0, none⟩ (.int .i64 t244)).setCell ⟨gb249, 1, none⟩ (.int .i64 t245)).setCell ⟨gb249, 2, none⟩ (.slice Ao61 t246.length co61)) w.heap.size (fun k_ => some k_ ≠ (.slice Ao62 x11_5.length co62 : Value).ownBlock) (.slice Ao61 t246.length co61) t246) := ⟨by (with_reducible repeat (first | apply Kd.S_alloc | apply Kd.S_drewN | apply Kd.S_drew)); exact Kd.S_mono (Kd.S_far (p := ⟨gb249, 2, none⟩) (Kd.S_far (p := ⟨gb249, 1, none⟩) (Kd.S_far (p := ⟨gb249, 0, none⟩) (Kd.S_types HO248.out BK249.out (by decide)) (fun _ hk => hk.2) (.int .i64 t244)) (fun _ hk => hk.2) (.int .i64 t245)) (fun _ hk => hk.2) (.slice Ao61 t246.length co61)) (fun _ hk => hk.1.2)⟩
            have n2_ : Aside0 ((((w57.setCell ⟨gb249, 0, none⟩ (.int .i64 t244)).setCell ⟨gb249, 1, none⟩ (.int .i64 t245)).setCell ⟨gb249, 2, none⟩ (.slice Ao61 t246.length co61)).heap[gb231]? = some (.cells #[.int .i64 a0_0, .int .i64 a0_1, .slice A0_2 l0_2.length c0_2] 25 (0, 0))) := ⟨by (with_reducible repeat (first | refine blk_drewN ?_ _ | refine blk_drew ?_ | refine blk_alloc ?_ _)); refine blk_far ?_ NB231_249.out _; refine blk_far ?_ NB231_249.out _; refine blk_far ?_ NB231_249.out _; (with_reducible repeat (first | refine blk_drewN ?_ _ | refine blk_drew ?_ | refine blk_alloc ?_ _)); exact BK231.out⟩
            have n3_ : Aside0 ((((w57.setCell ⟨gb249, 0, none⟩ (.int .i64 t244)).setCell ⟨gb249, 1, none⟩ (.int .i64 t245)).setCell ⟨gb249, 2, none⟩ (.slice Ao61 t246.length co61)).heap[gb232]? = some (.cells #[.int .i64 0, .int .i64 0, .slice none 0 0] 25 (0, 0))) := ⟨by (with_reducible repeat (first | refine blk_drewN ?_ _ | refine blk_drew ?_ | refine blk_alloc ?_ _)); refine blk_far ?_ NB232_249.out _; refine blk_far ?_ NB232_249.out _; refine blk_far ?_ NB232_249.out _; (with_reducible repeat (first | refine blk_drewN ?_ _ | refine blk_drew ?_ | refine blk_alloc ?_ _)); exact BK232.out⟩
            have n4_ : Aside0 ((((w57.setCell ⟨gb249, 0, none⟩ (.int .i64 t244)).setCell ⟨gb249, 1, none⟩ (.int .i64 t245)).setCell ⟨gb249, 2, none⟩ (.slice Ao61 t246.length co61)).heap[gb249]? = some (.cells #[.int .i64 t244, .int .i64 t245, .slice Ao61 t246.length co61] 25 (0, 0))) := ⟨by (with_reducible repeat (first | refine blk_drewN ?_ _ | refine blk_drew ?_ | refine blk_alloc ?_ _)); refine blk_put (cs := #[.int .i64 t244, .int .i64 t245, .slice none 0 0]) ?_ 2 _ rfl; refine blk_put (cs := #[.int .i64 t244, .int .i64 0, .slice none 0 0]) ?_ 1 _ rfl; refine blk_put (cs := #[.int .i64 0, .int .i64 0, .slice none 0 0]) ?_ 0 _ rfl; (with_reducible repeat (first | refine blk_drewN ?_ _ | refine blk_drew ?_ | refine blk_alloc ?_ _)); exact BK249.out⟩
            have n5_ : Aside0 (Below w.heap.size w (((w57.setCell ⟨gb249, 0, none⟩ (.int .i64 t244)).setCell ⟨gb249, 1, none⟩ (.int .i64 t245)).setCell ⟨gb249, 2, none⟩ (.slice Ao61 t246.length co61))) := ⟨by repeat (first | (with_reducible first | exact HB.out | apply below_alloc | apply pw_below_drewN | apply below_drew1 | refine below_set ?_ GE231.out | refine below_set ?_ GE232.out | refine below_set ?_ GE249.out) | exact HB.out)⟩
            (try clear HO_11)
            (try clear HO248)
            (try clear BK231)
            (try clear BK232)
            (try clear BK249)
            (try clear HB)
            generalize (((w57.setCell ⟨gb249, 0, none⟩ (.int .i64 t244)).setCell ⟨gb249, 1, none⟩ (.int .i64 t245)).setCell ⟨gb249, 2, none⟩ (.slice Ao61 t246.length co61)) = w63 at n0_ n1_ n2_ n3_ n4_ n5_ ⊢
            have HO_11 := n0_
            have HO248 := n1_
            have BK231 := n2_
            have BK232 := n3_
            have BK249 := n4_
            have HB := n5_
            clear n0_ n1_ n2_ n3_ n4_ n5_
            replace HO_11 := Aside0.mk (Kd.R_drew HO_11.out)
            replace HO248 := Aside0.mk (Kd.S_drew HO248.out)
            replace BK231 := Aside0.mk (blk_drew BK231.out)
            replace BK232 := Aside0.mk (blk_drew BK232.out)
            replace BK249 := Aside0.mk (blk_drew BK249.out)
            replace HB := Aside0.mk (below_drew1 HB.out)
            refine start_ (n := 10) (S := fun w' => w'.cell? ⟨gb249, 0, none⟩ = some (.int .i64 t244) ∧ w'.cell? ⟨gb249, 1, none⟩ = some (.int .i64 t245) ∧ w'.cell? ⟨gb249, 2, none⟩ = some (.slice Ao61 t246.length co61)) (ds := [9]) #[false, false, false, false, false, false, false, false, false, false] (by kernel_rfl) rfl rfl ⟨(blk_cell BK249.out 0).trans rfl, (blk_cell BK249.out 1).trans rfl, (blk_cell BK249.out 2).trans rfl⟩ (fun hHeld => ?_); refine with_tabW spec_l3Fetch.tab8 spec_l3Fetch.bits8 (fun HT_ HW_ => ?_)
            generalize w63.drew = w64 at HO_11 HO248 BK231 BK232 BK249 HB hHeld ⊢
            refine pure_ (i := 0) (N := some 40) (v := ?_) (a' := ?_) #[true, false, false, false, false, false, false, false, false, false] rfl rfl (any_of HT_.out (by kernel_rfl)) (fun _ _ _ h => h) (Or.inl ⟨by rfl, ?_⟩) ?_ ?_
            rotate_left; (intro w'; go_simp; with_reducible rfl); rotate_left; (simp only [Act.put, List.setIfInBounds_toArray, List.set_cons_zero, List.set_cons_succ, i64_w, i32_w]; rfl)
            refine pure_ (i := 2) (N := some 42) (v := ?_) (a' := ?_) #[true, false, true, false, false, false, false, false, false, false] rfl rfl (any_of HT_.out (by kernel_rfl)) (fun _ _ _ h => h) (Or.inl ⟨by rfl, ?_⟩) ?_ ?_
            rotate_left; (intro w'; go_simp; with_reducible rfl); rotate_left; (simp only [Act.put, List.setIfInBounds_toArray, List.set_cons_zero, List.set_cons_succ, i64_w, i32_w]; rfl)
            refine pure_ (i := 3) (N := some 43) (v := ?_) (a' := ?_) #[true, false, true, true, false, false, false, false, false, false] rfl rfl (any_of HT_.out (by kernel_rfl)) (fun _ _ _ h => h) (Or.inl ⟨by rfl, ?_⟩) ?_ ?_
            rotate_left; (intro w'; go_simp; with_reducible rfl); rotate_left; (simp only [Act.put, List.setIfInBounds_toArray, List.set_cons_zero, List.set_cons_succ, i64_w, i32_w]; rfl)
            refine take_ (i := 1) (N := some 41) (v := ?_) (a' := ?_) #[true, true, true, true, false, false, false, false, false, false] rfl rfl (take_ofW HT_.out HW_.out (by kernel_rfl)) (fun _ _ _ h => h) (Or.inl ⟨by rfl, ?_⟩) hHeld ?_ ?_
            rotate_left; (rintro w' ⟨s0, s1, s2⟩; go_simp; with_reducible rfl); rotate_left; (simp only [Act.put, List.setIfInBounds_toArray, List.set_cons_zero, List.set_cons_succ, i64_w, i32_w]; rfl)
            refine one_ (i := 4) (N := some 44) #[true, true, true, true, true, false, false, false, false, false] rfl rfl (one_of HT_.out (by kernel_rfl)) (by decide) (fun K hK => ?_)
            refine goes_ Try.func89 (by kernel_rfl) rfl #[.slice Ao62 x11_5.length co62] (by rfl) rfl rfl (by (try simp only [List.map_toArray, List.map_cons, List.map_nil]); first | done | rfl | (simp only [List.length_drop, List.length_take]; rfl)) ?_
            with_reducible refine (spec_l1Copy.calls _ _ x11_5 t250 _ ?side1 ?side2 A24.out).mono ?_
            (case side1 => repeat (first | exact (Kd.R_reads' HO_11.out).2.2 | (with_reducible refine Kd.C_alloc ?_ _) | (with_reducible refine Kd.C_drewN ?_ _) | (with_reducible refine Kd.C_drew ?_)))
            (case side2 => exact (Kd.R_reads' HO_11.out).2.1)
            rintro e w65 ⟨v251, rfl, ho0, hb⟩
            refine ⟨_, rfl, ?_⟩
            replace HO248 := Aside0.mk (Kd.S_elder' (by (with_reducible repeat (first | apply Kd.S_alloc | apply Kd.S_drewN | apply Kd.S_drew)); exact HO248.out) (Kd.R_base ho0) hb)
            have HO252 := Aside0.mk (Kd.R_lower (Kd.R_new' ho0 (Kd.R_lt (by (with_reducible repeat (first | apply Kd.R_alloc | apply Kd.R_drewN | apply Kd.R_drew)); exact HO_11.out))) (below_size (bz HB)))
            replace HO_11 := Aside0.mk (Kd.R_elder' (by (with_reducible repeat (first | apply Kd.R_alloc | apply Kd.R_drewN | apply Kd.R_drew)); exact HO_11.out) (Kd.R_base ho0) hb)
            replace BK231 := bk BK231 hb
            replace BK232 := bk BK232 hb
            replace BK249 := bk BK249 hb
            replace HB := Aside0.mk (below_step (bz HB) hb)
            (try clear hb)
            (try clear hb2)
            (try clear hk)
            (try clear hi)
            (try clear ho0)
            obtain ⟨Ao66, co66, eo66⟩ := Kd.R_slice HO252.out
            (first | subst eo66 | (injection eo66 with f1_ f2_ f3_; have f4_ := f1_.symm; have f5_ := f3_.symm; clear f1_ f2_ f3_; subst f4_; subst f5_))
            refine hK.out _ _ ⟨(blk_cell BK249.out 0).trans rfl, (blk_cell BK249.out 1).trans rfl, (blk_cell BK249.out 2).trans rfl⟩ (fun hHeld => ?_)
            clear hK K
            refine norm_ (a' := ?_) ?_ ?_
            rotate_left
            · show Act.put _ (some 44) _ = _
              simp only [Act.put, List.setIfInBounds_toArray, List.set_cons_zero, List.set_cons_succ, i64_w, i32_w]
              rfl
            refine pure_ (i := 5) (N := some 45) (v := ?_) (a' := ?_) #[true, true, true, true, true, true, false, false, false, false] rfl rfl (any_of HT_.out (by kernel_rfl)) (fun _ _ _ h => h) (Or.inl ⟨by rfl, ?_⟩) ?_ ?_
            rotate_left; (intro w'; go_simp; with_reducible rfl); rotate_left; (simp only [Act.put, List.setIfInBounds_toArray, List.set_cons_zero, List.set_cons_succ, i64_w, i32_w]; rfl)
            refine one_ (i := 6) (N := some 46) #[true, true, true, true, true, true, true, false, false, false] rfl rfl (one_of HT_.out (by kernel_rfl)) (by decide) (fun K hK => ?_)
            refine value_ (w1 := ?_) (v := ?_) (by rfl) rfl ?_ ?_
            rotate_left 2
            · go_simp
              constructor
              · rfl
              · rfl
            refine hK.out _ _ ⟨(blk_cell (blk_alloc BK249.out _) 0).trans rfl, (blk_cell (blk_alloc BK249.out _) 1).trans rfl, (blk_cell (blk_alloc BK249.out _) 2).trans rfl⟩ (fun hHeld => ?_)
            clear hK K
            refine norm_ (a' := ?_) ?_ ?_
            rotate_left
            · show Act.put _ (some 46) _ = _
              simp only [Act.put, List.setIfInBounds_toArray, List.set_cons_zero, List.set_cons_succ, i64_w, i32_w]
              rfl
            refine one_ (i := 7) (N := some 47) #[true, true, true, true, true, true, true, true, false, false] rfl rfl (one_of HT_.out (by kernel_rfl)) (by decide) (fun K hK => ?_)
            refine Kd.S_append_step k80 (w0 := w) w.heap.size (by rfl) (.tmp 41) (.tmp 46) 23 80 (.agg #[(.int .i64 0), (.slice none 0 0)]) 32 rfl Try.underlying23 info80 rfl (by decide) (by omega) (.slice Ao61 t246.length co61) t246 (⟨a2, t250⟩ : S80) [.int .i64 a2, .slice Ao66 t250.length co66] (fun k_ => some k_ ≠ (.slice Ao62 x11_5.length co62 : Value).ownBlock) (fun k_ => some k_ = (.slice Ao66 t250.length co66 : Value).ownBlock) rfl rfl ?aP (fun k_ hk_ => ((Kd.R_mono (ok' := fun k_ => ((fun k_ => some k_ ≠ (.slice Ao62 x11_5.length co62 : Value).ownBlock)) k_ ∧ some k_ ≠ (.slice Ao61 t246.length co61 : Value).ownBlock) (Kd.R_apart' (HO252.out) (Kd.S_typed HO248.out) (by decide)) (fun k_ hk => ⟨hk.1.2, hk.2⟩))).1 k_ hk_.symm) ?aF ?aO ?aB ?aS ?aL ?_
            (case aP => exact k80_mkM _ _ _ (⟨a2, t250⟩ : S80) (Kd.R_mono (Kd.R_tight rfl (Kd.R_mono (ok' := fun k_ => ((fun k_ => some k_ ≠ (.slice Ao62 x11_5.length co62 : Value).ownBlock)) k_ ∧ some k_ ≠ (.slice Ao61 t246.length co61 : Value).ownBlock) (Kd.R_apart' (HO252.out) (Kd.S_typed HO248.out) (by decide)) (fun k_ hk => ⟨hk.1.2, hk.2⟩))) (fun _ h_ => h_)))
            (case aB => exact (bz HB))
            (case aF => exact (fun k_ hk => Kd.fresh' (Kd.R_lt (by (with_reducible repeat (first | apply Kd.R_alloc | apply Kd.R_drewN | apply Kd.R_drew)); exact HO_11.out)) k_ hk))
            (case aO => exact (by (with_reducible repeat (first | apply Kd.S_alloc | apply Kd.S_drewN | apply Kd.S_drew)); exact Kd.S_mono HO248.out (fun k_ hk => ⟨hk.1, fun e_ => hk.2 e_⟩)))
            (case aS => exact (below_size (bz HB)))
            (case aL => have := LMc25.out; omega)
            intro v254 w67 ho hb hg hat
            rw [← Ny253.out] at ho
            have n0_ := Aside0.mk (Kd.R_over' (by (with_reducible repeat (first | apply Kd.R_alloc | apply Kd.R_drewN | apply Kd.R_drew)); exact HO_11.out) (Kd.S_typed (by (with_reducible repeat (first | apply Kd.S_alloc | apply Kd.S_drewN | apply Kd.S_drew)); exact HO248.out)) (by decide) hg)
            have n1_ := Aside0.mk (blk_grown (g := gb231) (o := .cells #[.int .i64 a0_0, .int .i64 a0_1, .slice A0_2 l0_2.length c0_2] 25 (0, 0)) (by (with_reducible repeat (first | refine blk_drewN ?_ _ | refine blk_drew ?_ | refine blk_alloc ?_ _)); exact BK231.out) hg (Kd.S_ne HO248.out BK231.out (by decide)))
            have n2_ := Aside0.mk (blk_grown (g := gb232) (o := .cells #[.int .i64 0, .int .i64 0, .slice none 0 0] 25 (0, 0)) (by (with_reducible repeat (first | refine blk_drewN ?_ _ | refine blk_drew ?_ | refine blk_alloc ?_ _)); exact BK232.out) hg (Kd.S_ne HO248.out BK232.out (by decide)))
            have n3_ := Aside0.mk (blk_grown (g := gb249) (o := .cells #[.int .i64 t244, .int .i64 t245, .slice Ao61 t246.length co61] 25 (0, 0)) (by (with_reducible repeat (first | refine blk_drewN ?_ _ | refine blk_drew ?_ | refine blk_alloc ?_ _)); exact BK249.out) hg (Kd.S_ne HO248.out BK249.out (by decide)))
            have n4_ := Aside0.mk (hb)
            have n5_ := Aside0.mk (ho)
            clear HO_11
            clear BK231
            clear BK232
            clear BK249
            clear HB
            clear HO248
            clear HO252
            have HO_11 := n0_
            have BK231 := n1_
            have BK232 := n2_
            have BK249 := n3_
            have HB := n4_
            have HO255 := n5_
            clear n0_ n1_ n2_ n3_ n4_ n5_
            clear ho hb hg hat
            obtain ⟨Ao68, co68, eo68⟩ := Kd.S_slice HO255.out
            (first | subst eo68 | (injection eo68 with f1_ f2_ f3_; have f4_ := f1_.symm; have f5_ := f3_.symm; clear f1_ f2_ f3_; subst f4_; subst f5_))
            refine hK.out _ _ ⟨(blk_cell BK249.out 0).trans rfl, (blk_cell BK249.out 1).trans rfl, (blk_cell BK249.out 2).trans rfl⟩ (fun hHeld => ?_)
            clear hK K
            refine norm_ (a' := ?_) ?_ ?_
            rotate_left
            · show Act.put _ (some 47) _ = _
              simp only [Act.put, List.setIfInBounds_toArray, List.set_cons_zero, List.set_cons_succ, i64_w, i32_w]
              rfl
            refine pure_ (i := 8) (N := some 48) (v := ?_) (a' := ?_) #[true, true, true, true, true, true, true, true, true, false] rfl rfl (any_of HT_.out (by kernel_rfl)) (fun _ _ _ h => h) (Or.inl ⟨by rfl, ?_⟩) ?_ ?_
            rotate_left; (intro w'; go_simp; with_reducible rfl); rotate_left; (simp only [Act.put, List.setIfInBounds_toArray, List.set_cons_zero, List.set_cons_succ, i64_w, i32_w]; rfl)
            refine last_ (i := 9) (N := none) #[true, true, true, true, true, true, true, true, true, true] rfl rfl (one_of HT_.out (by kernel_rfl)) (by decide) (fun K hK => ?_)
            have hs69 : w67.cell? ⟨gb249, 2, none⟩ = some (.slice Ao61 t246.length co61) := (blk_cell BK249.out 2).trans rfl
            have hfs69 := blk_frozen BK249.out 2
            have hns69_0 := NB231_249.out
            have hns69_1 := NB232_249.out
            have hms69_0 := NB249_231.out
            have hms69_1 := NB249_232.out
            refine skip_ (w1 := ?_) (by rfl) rfl ?_ ?_
            rotate_left
            · go_simp
              rfl
            refine hK.out _ _ ?_
            clear hK K
            refine done_ (done_of HT_.out (by kernel_rfl)) ?_
            have hcz70_0 : w67.cell? ⟨gb249, 0, none⟩ = some (.int .i64 t244) := (blk_cell BK249.out 0).trans rfl
            have hcz70_1 : w67.cell? ⟨gb249, 1, none⟩ = some (.int .i64 t245) := (blk_cell BK249.out 1).trans rfl
            have hcz70_2 : w67.cell? ⟨gb249, 2, none⟩ = some (.slice Ao61 t246.length co61) := (blk_cell BK249.out 2).trans rfl
            have hfz70_0 := blk_frozen BK249.out 0
            have hfz70_1 := blk_frozen BK249.out 1
            have hfz70_2 := blk_frozen BK249.out 2
            have hcz71_0 : w67.cell? ⟨gb231, 0, none⟩ = some (.int .i64 a0_0) := (blk_cell BK231.out 0).trans rfl
            have hcz71_1 : w67.cell? ⟨gb231, 1, none⟩ = some (.int .i64 a0_1) := (blk_cell BK231.out 1).trans rfl
            have hcz71_2 : w67.cell? ⟨gb231, 2, none⟩ = some (.slice A0_2 l0_2.length c0_2) := (blk_cell BK231.out 2).trans rfl
            have hfz71_0 := blk_frozen BK231.out 0
            have hfz71_1 := blk_frozen BK231.out 1
            have hfz71_2 := blk_frozen BK231.out 2
            try go_wp2
            have n0_ : Aside0 (Kd.R (Kd.int .u8) 5 (w67.setCell ⟨gb249, 2, none⟩ (.slice Ao68 y253.length co68)) w.heap.size (fun _ => True) (.slice Ao62 x11_5.length co62) x11_5) := ⟨by (with_reducible repeat (first | apply Kd.R_alloc | apply Kd.R_drewN | apply Kd.R_drew)); exact Kd.R_mono (Kd.R_far (p := ⟨gb249, 2, none⟩) (Kd.R_types HO_11.out BK249.out (by decide)) (fun _ hk => hk.2) (.slice Ao68 y253.length co68)) (fun _ hk => trivial)⟩
            have n1_ : Aside0 (Kd.S k80 80 (w67.setCell ⟨gb249, 2, none⟩ (.slice Ao68 y253.length co68)) w.heap.size (fun k_ => some k_ ≠ (.slice Ao62 x11_5.length co62 : Value).ownBlock) (.slice Ao68 y253.length co68) y253) := ⟨by (with_reducible repeat (first | apply Kd.S_alloc | apply Kd.S_drewN | apply Kd.S_drew)); exact Kd.S_mono (Kd.S_far (p := ⟨gb249, 2, none⟩) (Kd.S_types HO255.out BK249.out (by decide)) (fun _ hk => hk.2) (.slice Ao68 y253.length co68)) (fun _ hk => hk.1)⟩
            have n2_ : Aside0 ((w67.setCell ⟨gb249, 2, none⟩ (.slice Ao68 y253.length co68)).heap[gb231]? = some (.cells #[.int .i64 a0_0, .int .i64 a0_1, .slice A0_2 l0_2.length c0_2] 25 (0, 0))) := ⟨by (with_reducible repeat (first | refine blk_drewN ?_ _ | refine blk_drew ?_ | refine blk_alloc ?_ _)); refine blk_far ?_ NB231_249.out _; (with_reducible repeat (first | refine blk_drewN ?_ _ | refine blk_drew ?_ | refine blk_alloc ?_ _)); exact BK231.out⟩
            have n3_ : Aside0 ((w67.setCell ⟨gb249, 2, none⟩ (.slice Ao68 y253.length co68)).heap[gb232]? = some (.cells #[.int .i64 0, .int .i64 0, .slice none 0 0] 25 (0, 0))) := ⟨by (with_reducible repeat (first | refine blk_drewN ?_ _ | refine blk_drew ?_ | refine blk_alloc ?_ _)); refine blk_far ?_ NB232_249.out _; (with_reducible repeat (first | refine blk_drewN ?_ _ | refine blk_drew ?_ | refine blk_alloc ?_ _)); exact BK232.out⟩
            have n4_ : Aside0 ((w67.setCell ⟨gb249, 2, none⟩ (.slice Ao68 y253.length co68)).heap[gb249]? = some (.cells #[.int .i64 t244, .int .i64 t245, .slice Ao68 y253.length co68] 25 (0, 0))) := ⟨by (with_reducible repeat (first | refine blk_drewN ?_ _ | refine blk_drew ?_ | refine blk_alloc ?_ _)); refine blk_put (cs := #[.int .i64 t244, .int .i64 t245, .slice Ao61 t246.length co61]) ?_ 2 _ rfl; (with_reducible repeat (first | refine blk_drewN ?_ _ | refine blk_drew ?_ | refine blk_alloc ?_ _)); exact BK249.out⟩
            have n5_ : Aside0 (Below w.heap.size w (w67.setCell ⟨gb249, 2, none⟩ (.slice Ao68 y253.length co68))) := ⟨by repeat (first | (with_reducible first | exact HB.out | apply below_alloc | apply pw_below_drewN | apply below_drew1 | refine below_set ?_ GE231.out | refine below_set ?_ GE232.out | refine below_set ?_ GE249.out) | exact HB.out)⟩
            (try clear HO_11)
            (try clear HO255)
            (try clear BK231)
            (try clear BK232)
            (try clear BK249)
            (try clear HB)
            generalize (w67.setCell ⟨gb249, 2, none⟩ (.slice Ao68 y253.length co68)) = w72 at n0_ n1_ n2_ n3_ n4_ n5_ ⊢
            have HO_11 := n0_
            have HO255 := n1_
            have BK231 := n2_
            have BK232 := n3_
            have BK249 := n4_
            have HB := n5_
            clear n0_ n1_ n2_ n3_ n4_ n5_
            replace HO_11 := Aside0.mk (Kd.R_drew HO_11.out)
            replace HO255 := Aside0.mk (Kd.S_drew HO255.out)
            replace BK231 := Aside0.mk (blk_drew BK231.out)
            replace BK232 := Aside0.mk (blk_drew BK232.out)
            replace BK249 := Aside0.mk (blk_drew BK249.out)
            replace HB := Aside0.mk (below_drew1 HB.out)
            refine start_ (n := 4) (S := fun w' => w'.cell? ⟨gb249, 0, none⟩ = some (.int .i64 t244) ∧ w'.cell? ⟨gb249, 1, none⟩ = some (.int .i64 t245) ∧ w'.cell? ⟨gb249, 2, none⟩ = some (.slice Ao68 y253.length co68)) (ds := []) #[false, false, false, false] (by kernel_rfl) rfl rfl ⟨(blk_cell BK249.out 0).trans rfl, (blk_cell BK249.out 1).trans rfl, (blk_cell BK249.out 2).trans rfl⟩ (fun hHeld => ?_)
            generalize w72.drew = w73 at HO_11 HO255 BK231 BK232 BK249 HB hHeld ⊢
            refine pure_ (i := 0) (N := some 57) (v := ?_) (a' := ?_) #[true, false, false, false] rfl rfl (by kernel_rfl) (fun _ _ _ h => h) (Or.inl ⟨by rfl, ?_⟩) ?_ ?_
            rotate_left; (intro w'; go_simp; with_reducible rfl); rotate_left; (simp only [Act.put, List.setIfInBounds_toArray, List.set_cons_zero, List.set_cons_succ, i64_w, i32_w]; rfl)
            refine pure_ (i := 2) (N := some 8) (v := ?_) (a' := ?_) #[true, false, true, false] rfl rfl (by kernel_rfl) (fun _ _ _ h => h) (Or.inl ⟨by rfl, ?_⟩) ?_ ?_
            rotate_left; (intro w'; go_simp; with_reducible rfl); rotate_left; (simp only [Act.put, List.setIfInBounds_toArray, List.set_cons_zero, List.set_cons_succ, i64_w, i32_w]; rfl)
            refine take_ (i := 1) (N := some 58) (v := ?_) (a' := ?_) #[true, true, true, false] rfl rfl (by kernel_rfl) (fun _ _ _ h => h) (Or.inl ⟨by rfl, ?_⟩) hHeld ?_ ?_
            rotate_left; (rintro w' ⟨s0, s1, s2⟩; go_simp; with_reducible rfl); rotate_left; (simp only [Act.put, List.setIfInBounds_toArray, List.set_cons_zero, List.set_cons_succ, i64_w, i32_w]; rfl)
            refine one_ (i := 3) (N := none) #[true, true, true, true] rfl rfl (by kernel_rfl) (by decide) (fun K hK => ?_)
            have hs74 : w73.cell? ⟨gb232, 0, none⟩ = some (.int .i64 0) := (blk_cell BK232.out 0).trans rfl
            have hfs74 := blk_frozen BK232.out 0
            have hns74_0 := NB231_232.out
            have hns74_2 := NB249_232.out
            have hms74_0 := NB232_231.out
            have hms74_2 := NB232_249.out
            have hs75 : w73.cell? ⟨gb232, 1, none⟩ = some (.int .i64 0) := (blk_cell BK232.out 1).trans rfl
            have hfs75 := blk_frozen BK232.out 1
            have hns75_0 := NB231_232.out
            have hns75_2 := NB249_232.out
            have hms75_0 := NB232_231.out
            have hms75_2 := NB232_249.out
            have hs76 : w73.cell? ⟨gb232, 2, none⟩ = some (.slice none 0 0) := (blk_cell BK232.out 2).trans rfl
            have hfs76 := blk_frozen BK232.out 2
            have hns76_0 := NB231_232.out
            have hns76_2 := NB249_232.out
            have hms76_0 := NB232_231.out
            have hms76_2 := NB232_249.out
            refine skip_ (w1 := ?_) (by rfl) rfl ?_ ?_
            rotate_left
            · go_simp
              rfl
            refine hK.out _ _ ⟨((cell_far (p := ⟨gb232, _, none⟩) NB249_232.out _).trans (((cell_far (p := ⟨gb232, _, none⟩) NB249_232.out _).trans (((cell_far (p := ⟨gb232, _, none⟩) NB249_232.out _).trans (hHeld.1)))))), ((cell_far (p := ⟨gb232, _, none⟩) NB249_232.out _).trans (((cell_far (p := ⟨gb232, _, none⟩) NB249_232.out _).trans (((cell_far (p := ⟨gb232, _, none⟩) NB249_232.out _).trans (hHeld.2.1)))))), ((cell_far (p := ⟨gb232, _, none⟩) NB249_232.out _).trans (((cell_far (p := ⟨gb232, _, none⟩) NB249_232.out _).trans (((cell_far (p := ⟨gb232, _, none⟩) NB249_232.out _).trans (hHeld.2.2))))))⟩ (fun hHeld => ?_)
            clear hK K
            refine done_ (by kernel_rfl) ?_
            try go_wp2
            refine bodyPost_ret (results_tc rfl _ _ gb232 25 #[.int .i64 t244, .int .i64 t245, .slice Ao68 y253.length co68] (0, 0) _ rfl (by (with_reducible repeat (first | refine blk_drewN ?_ _ | refine blk_drew ?_ | refine blk_alloc ?_ _)); refine blk_put (cs := #[.int .i64 t244, .int .i64 t245, .slice none 0 0]) ?_ 2 _ rfl; refine blk_put (cs := #[.int .i64 t244, .int .i64 0, .slice none 0 0]) ?_ 1 _ rfl; refine blk_put (cs := #[.int .i64 0, .int .i64 0, .slice none 0 0]) ?_ 0 _ rfl; (with_reducible repeat (first | refine blk_drewN ?_ _ | refine blk_drew ?_ | refine blk_alloc ?_ _)); exact BK232.out) Try.underlying25 rfl (by kernel_rfl)) rfl ?_
            exact ⟨_, _, by first | rfl | (simp [errW_none, errW_some] <;> rfl) | (simp [*, errW_none, errW_some] <;> rfl), by (with_reducible repeat (first | apply Kd.R_alloc | apply Kd.R_drewN | apply Kd.R_drew)); exact Kd.R_mono (Kd.R_far (p := ⟨gb232, 2, none⟩) (Kd.R_far (p := ⟨gb232, 1, none⟩) (Kd.R_far (p := ⟨gb232, 0, none⟩) (Kd.R_types HO_11.out BK232.out (by decide)) (fun _ hk => hk.2) (.int .i64 t244)) (fun _ hk => hk.2) (.int .i64 t245)) (fun _ hk => hk.2) (.slice Ao68 y253.length co68)) (fun _ hk => trivial), by (with_reducible repeat (first | apply Kd.S_alloc | apply Kd.S_drewN | apply Kd.S_drew)); exact Kd.S_mono (Kd.S_far (p := ⟨gb232, 2, none⟩) (Kd.S_far (p := ⟨gb232, 1, none⟩) (Kd.S_far (p := ⟨gb232, 0, none⟩) (Kd.S_types HO255.out BK232.out (by decide)) (fun _ hk => hk.2) (.int .i64 t244)) (fun _ hk => hk.2) (.int .i64 t245)) (fun _ hk => hk.2) (.slice Ao68 y253.length co68)) (fun _ hk => hk.1), by repeat (first | (with_reducible first | exact HB.out | apply below_alloc | apply pw_below_drewN | apply below_drew1 | refine below_set ?_ GE231.out | refine below_set ?_ GE232.out | refine below_set ?_ GE249.out) | exact HB.out)⟩
        · rw [if_neg c25] at H
          exact absurd H (by simp)
      · rw [if_neg c23] at H
        have c23b0 : decide (0 < (x11_5.length : Int)) = false := decide_eq_false c23
        have c23b1 : decide (0 < x11_5.length) = false := decide_eq_false (by omega)
        clear c23
        by_cases c77 : (t246.length : Int) > a0_1
        · rw [if_pos c77] at H
          have c77b0 : decide (a0_1 < (t246.length : Int)) = true := decide_eq_true c77
          clear c77
          replace H := Option.bind_eq_some_iff.mp H
          obtain ⟨⟨t261, t262, t263⟩, A780, H⟩ := H
          try dsimp only at H
          have A78 := Aside0.mk A780
          clear A780
          simp only [Option.some.injEq, Prod.mk.injEq] at H
          obtain ⟨rfl, rfl, rfl, rfl⟩ := H
          have hnb79 := NB231_232.out
          have hnc79 := NB232_231.out
          have hcz80_0 : wc.cell? ⟨gb231, 0, none⟩ = some (.int .i64 a0_0) := (blk_cell BK231.out 0).trans rfl
          have hcz80_1 : wc.cell? ⟨gb231, 1, none⟩ = some (.int .i64 a0_1) := (blk_cell BK231.out 1).trans rfl
          have hcz80_2 : wc.cell? ⟨gb231, 2, none⟩ = some (.slice A0_2 l0_2.length c0_2) := (blk_cell BK231.out 2).trans rfl
          have hfz80_0 := blk_frozen BK231.out 0
          have hfz80_1 := blk_frozen BK231.out 1
          have hfz80_2 := blk_frozen BK231.out 2
          try go_wp2_with (first | ((with_reducible refine gate_callee (f := 71) rfl ?_); refine goesL_ (some 36) rfl rfl Try.func71 (by kernel_rfl) rfl #[.agg #[.int .i64 a0_0, .int .i64 a0_1, .slice A0_2 l0_2.length c0_2], .int .i64 t233] rfl (by (try simp only [List.map_toArray, List.map_cons, List.map_nil]); first | done | rfl | (simp only [List.length_drop, List.length_take]; rfl)) ?_; (with_reducible refine (spec_l3Less.calls kj5 a0_0 a0_1 _ _ l0_2 t233 t244 t245 t246 _ ?side1 ?side2 A22.out).mono ?_); (case side1 => repeat (first | exact (Kd.C_below HR0_2.out HB.out) | (with_reducible refine Kd.C_alloc ?_ _) | (with_reducible refine Kd.C_drewN ?_ _) | (with_reducible refine Kd.C_drew ?_))); (case side2 => exact HC0_2.out); rintro e w81 ⟨v247, rfl, ho0, hb⟩; refine ⟨_, rfl, ?_⟩; have HO248 := Aside0.mk (Kd.S_lower (Kd.S_new' ho0 (Kd.R_lt (by (with_reducible repeat (first | apply Kd.R_alloc | apply Kd.R_drewN | apply Kd.R_drew)); exact HO_11.out))) (below_size (bz HB))); replace HO_11 := rb HO_11 hb; replace BK231 := bk BK231 hb; replace BK232 := bk BK232 hb; replace HB := Aside0.mk (below_step (bz HB) hb); (try clear hb); (try clear hb2); (try clear hk); (try clear hi); (try clear ho0)) | ((with_reducible refine gate_dst (N := 12) rfl ?_); refine box_event ?hg (N := 12) ?hd (cs := #[.int .i64 0, .int .i64 0, .slice none 0 0]) (t := 25) ?hr ?_; (case hd => rfl); (case hg => rfl); (case hr => first | (go_simp; done) | (go_simp; rfl)); intro gb249 hg w82 hbox hb; replace HO_11 := rb HO_11 hb; replace HO248 := Aside0.mk (Kd.S_below (by (with_reducible repeat (first | apply Kd.S_alloc | apply Kd.S_drewN | apply Kd.S_drew)); exact HO248.out) hb); have BK249 := Aside0.mk (hbox); have GW249 := Aside0.mk ((by rw [hg]; exact (below_size (bz HB)) : w.heap.size ≤ gb249)); have GE249 := Aside0.mk ((by rw [hg]; exact (below_size (bz HB)) : w.heap.size ≤ gb249)); replace HB := Aside0.mk (below_step (bz HB) hb); have NB231_249 := nb BK231 hg; have NB249_231 := nc BK231 hg; replace BK231 := bk BK231 hb; have NB232_249 := nb BK232 hg; have NB249_232 := nc BK232 hg; replace BK232 := bk BK232 hb; clear hb hbox hg; have hnb83 := NB249_231.out; have hnc83 := NB231_249.out; have hnb84 := NB249_232.out; have hnc84 := NB232_249.out; have hcz85_0 : w82.cell? ⟨gb249, 0, none⟩ = some (.int .i64 0) := (blk_cell BK249.out 0).trans rfl; have hcz85_1 : w82.cell? ⟨gb249, 1, none⟩ = some (.int .i64 0) := (blk_cell BK249.out 1).trans rfl; have hcz85_2 : w82.cell? ⟨gb249, 2, none⟩ = some (.slice none 0 0) := (blk_cell BK249.out 2).trans rfl; have hfz85_0 := blk_frozen BK249.out 0; have hfz85_1 := blk_frozen BK249.out 1; have hfz85_2 := blk_frozen BK249.out 2; obtain ⟨Ao86, co86, eo86⟩ := Kd.S_slice HO248.out; subst eo86; obtain ⟨Ao87, co87, eo87⟩ := Kd.R_slice HO_11.out; subst eo87; have hcz88_0 : w82.cell? ⟨gb231, 0, none⟩ = some (.int .i64 a0_0) := (blk_cell BK231.out 0).trans rfl; have hcz88_1 : w82.cell? ⟨gb231, 1, none⟩ = some (.int .i64 a0_1) := (blk_cell BK231.out 1).trans rfl; have hcz88_2 : w82.cell? ⟨gb231, 2, none⟩ = some (.slice A0_2 l0_2.length c0_2) := (blk_cell BK231.out 2).trans rfl; have hfz88_0 := blk_frozen BK231.out 0; have hfz88_1 := blk_frozen BK231.out 1; have hfz88_2 := blk_frozen BK231.out 2) | ((with_reducible refine gate_callee (f := 71) rfl ?_); refine goesL_ (some 56) rfl rfl Try.func71 (by kernel_rfl) rfl #[.agg #[.int .i64 t244, .int .i64 t245, .slice Ao86 t246.length co86], .int .i64 0] rfl (by (try simp only [List.map_toArray, List.map_cons, List.map_nil]); first | done | rfl | (simp only [List.length_drop, List.length_take]; rfl)) ?_; (with_reducible refine (spec_l3Less.calls kj5 t244 t245 _ _ t246 0 t261 t262 t263 _ ?side1 ?side2 A78.out).mono ?_); (case side1 => refine (Kd.S_reads' (e := 80) (base := w.heap.size) (ok := fun k_ => (True ∧ some k_ ≠ (.slice Ao87 x11_5.length co87 : Value).ownBlock)) (n := t246.length) (c := co86) ?_).2.2; exact (by (with_reducible repeat (first | apply Kd.S_alloc | apply Kd.S_drewN | apply Kd.S_drew)); exact (Kd.S_mono (Kd.S_far (p := ⟨gb249, 2, none⟩) (Kd.S_far (p := ⟨gb249, 1, none⟩) (Kd.S_far (p := ⟨gb249, 0, none⟩) (Kd.S_types HO248.out BK249.out (by decide)) (fun _ hk => hk.2) (.int .i64 t244)) (fun _ hk => hk.2) (.int .i64 t245)) (fun _ hk => hk.2) (.slice Ao86 t246.length co86)) (fun _ h_ => h_.1)))); (case side2 => exact (Kd.S_reads' HO248.out).2.1); rintro e w89 ⟨v264, rfl, ho0, hb⟩; refine ⟨_, rfl, ?_⟩; have HO265 := Aside0.mk (Kd.S_lower (Kd.S_new' (Kd.S_new' ho0 (Kd.R_lt (by (with_reducible repeat (first | apply Kd.R_alloc | apply Kd.R_drewN | apply Kd.R_drew)); exact (Kd.R_mono (Kd.R_far (p := ⟨gb249, 2, none⟩) (Kd.R_far (p := ⟨gb249, 1, none⟩) (Kd.R_far (p := ⟨gb249, 0, none⟩) (Kd.R_types HO_11.out BK249.out (by decide)) (fun _ hk => hk.2) (.int .i64 t244)) (fun _ hk => hk.2) (.int .i64 t245)) (fun _ hk => hk.2) (.slice Ao86 t246.length co86)) (fun _ h_ => h_.1))))) (Kd.S_lt (by (with_reducible repeat (first | apply Kd.S_alloc | apply Kd.S_drewN | apply Kd.S_drew)); exact (Kd.S_mono (Kd.S_far (p := ⟨gb249, 2, none⟩) (Kd.S_far (p := ⟨gb249, 1, none⟩) (Kd.S_far (p := ⟨gb249, 0, none⟩) (Kd.S_types HO248.out BK249.out (by decide)) (fun _ hk => hk.2) (.int .i64 t244)) (fun _ hk => hk.2) (.int .i64 t245)) (fun _ hk => hk.2) (.slice Ao86 t246.length co86)) (fun _ h_ => h_.1))))) (below_size (bz HB))); replace HO_11 := Aside0.mk (Kd.R_below (by (with_reducible repeat (first | apply Kd.R_alloc | apply Kd.R_drewN | apply Kd.R_drew)); exact (Kd.R_mono (Kd.R_far (p := ⟨gb249, 2, none⟩) (Kd.R_far (p := ⟨gb249, 1, none⟩) (Kd.R_far (p := ⟨gb249, 0, none⟩) (Kd.R_types HO_11.out BK249.out (by decide)) (fun _ hk => hk.2) (.int .i64 t244)) (fun _ hk => hk.2) (.int .i64 t245)) (fun _ hk => hk.2) (.slice Ao86 t246.length co86)) (fun _ h_ => h_.1))) hb); replace HO248 := Aside0.mk (Kd.S_elder' (by (with_reducible repeat (first | apply Kd.S_alloc | apply Kd.S_drewN | apply Kd.S_drew)); exact (Kd.S_mono (Kd.S_far (p := ⟨gb249, 2, none⟩) (Kd.S_far (p := ⟨gb249, 1, none⟩) (Kd.S_far (p := ⟨gb249, 0, none⟩) (Kd.S_types HO248.out BK249.out (by decide)) (fun _ hk => hk.2) (.int .i64 t244)) (fun _ hk => hk.2) (.int .i64 t245)) (fun _ hk => hk.2) (.slice Ao86 t246.length co86)) (fun _ h_ => h_.1))) (Kd.S_base ho0) hb); replace BK231 := Aside0.mk (blk_below (g := gb231) (o := .cells #[.int .i64 a0_0, .int .i64 a0_1, .slice A0_2 l0_2.length c0_2] 25 (0, 0)) (by (with_reducible repeat (first | refine blk_drewN ?_ _ | refine blk_drew ?_ | refine blk_alloc ?_ _)); refine blk_far ?_ NB231_249.out _; refine blk_far ?_ NB231_249.out _; refine blk_far ?_ NB231_249.out _; (with_reducible repeat (first | refine blk_drewN ?_ _ | refine blk_drew ?_ | refine blk_alloc ?_ _)); exact BK231.out) hb); replace BK232 := Aside0.mk (blk_below (g := gb232) (o := .cells #[.int .i64 0, .int .i64 0, .slice none 0 0] 25 (0, 0)) (by (with_reducible repeat (first | refine blk_drewN ?_ _ | refine blk_drew ?_ | refine blk_alloc ?_ _)); refine blk_far ?_ NB232_249.out _; refine blk_far ?_ NB232_249.out _; refine blk_far ?_ NB232_249.out _; (with_reducible repeat (first | refine blk_drewN ?_ _ | refine blk_drew ?_ | refine blk_alloc ?_ _)); exact BK232.out) hb); replace BK249 := Aside0.mk (blk_below (g := gb249) (o := .cells #[.int .i64 t244, .int .i64 t245, .slice Ao86 t246.length co86] 25 (0, 0)) (by (with_reducible repeat (first | refine blk_drewN ?_ _ | refine blk_drew ?_ | refine blk_alloc ?_ _)); refine blk_put (cs := #[.int .i64 t244, .int .i64 t245, .slice none 0 0]) ?_ 2 _ rfl; refine blk_put (cs := #[.int .i64 t244, .int .i64 0, .slice none 0 0]) ?_ 1 _ rfl; refine blk_put (cs := #[.int .i64 0, .int .i64 0, .slice none 0 0]) ?_ 0 _ rfl; (with_reducible repeat (first | refine blk_drewN ?_ _ | refine blk_drew ?_ | refine blk_alloc ?_ _)); exact BK249.out) hb); replace HB := Aside0.mk (below_step (bz HB) hb); (try clear hb); (try clear hb2); (try clear hk); (try clear hi); (try clear ho0); have hcz90_0 : w89.cell? ⟨gb249, 0, none⟩ = some (.int .i64 t244) := (blk_cell BK249.out 0).trans rfl; have hcz90_1 : w89.cell? ⟨gb249, 1, none⟩ = some (.int .i64 t245) := (blk_cell BK249.out 1).trans rfl; have hcz90_2 : w89.cell? ⟨gb249, 2, none⟩ = some (.slice Ao86 t246.length co86) := (blk_cell BK249.out 2).trans rfl; have hfz90_0 := blk_frozen BK249.out 0; have hfz90_1 := blk_frozen BK249.out 1; have hfz90_2 := blk_frozen BK249.out 2; obtain ⟨Ao91, co91, eo91⟩ := Kd.S_slice HO265.out; subst eo91))
          have n0_ : Aside0 (Kd.R (Kd.int .u8) 5 (((w89.setCell ⟨gb249, 0, none⟩ (.int .i64 t261)).setCell ⟨gb249, 1, none⟩ (.int .i64 t262)).setCell ⟨gb249, 2, none⟩ (.slice Ao91 t263.length co91)) w.heap.size (fun _ => True) (.slice Ao87 x11_5.length co87) x11_5) := ⟨by (with_reducible repeat (first | apply Kd.R_alloc | apply Kd.R_drewN | apply Kd.R_drew)); exact Kd.R_mono (Kd.R_far (p := ⟨gb249, 2, none⟩) (Kd.R_far (p := ⟨gb249, 1, none⟩) (Kd.R_far (p := ⟨gb249, 0, none⟩) (Kd.R_types HO_11.out BK249.out (by decide)) (fun _ hk => hk.2) (.int .i64 t261)) (fun _ hk => hk.2) (.int .i64 t262)) (fun _ hk => hk.2) (.slice Ao91 t263.length co91)) (fun _ hk => trivial)⟩
          have n1_ : Aside0 (Kd.S k80 80 (((w89.setCell ⟨gb249, 0, none⟩ (.int .i64 t261)).setCell ⟨gb249, 1, none⟩ (.int .i64 t262)).setCell ⟨gb249, 2, none⟩ (.slice Ao91 t263.length co91)) w.heap.size (fun k_ => some k_ ≠ (.slice Ao87 x11_5.length co87 : Value).ownBlock ∧ some k_ ≠ (.slice Ao91 t263.length co91 : Value).ownBlock) (.slice Ao86 t246.length co86) t246) := ⟨by (with_reducible repeat (first | apply Kd.S_alloc | apply Kd.S_drewN | apply Kd.S_drew)); exact Kd.S_mono (Kd.S_far (p := ⟨gb249, 2, none⟩) (Kd.S_far (p := ⟨gb249, 1, none⟩) (Kd.S_far (p := ⟨gb249, 0, none⟩) (Kd.S_types HO248.out BK249.out (by decide)) (fun _ hk => hk.2) (.int .i64 t261)) (fun _ hk => hk.2) (.int .i64 t262)) (fun _ hk => hk.2) (.slice Ao91 t263.length co91)) (fun _ hk => ⟨hk.1.1.2, hk.1.2⟩)⟩
          have n2_ : Aside0 (Kd.S k80 80 (((w89.setCell ⟨gb249, 0, none⟩ (.int .i64 t261)).setCell ⟨gb249, 1, none⟩ (.int .i64 t262)).setCell ⟨gb249, 2, none⟩ (.slice Ao91 t263.length co91)) w.heap.size (fun k_ => some k_ ≠ (.slice Ao87 x11_5.length co87 : Value).ownBlock ∧ some k_ ≠ (.slice Ao86 t246.length co86 : Value).ownBlock) (.slice Ao91 t263.length co91) t263) := ⟨by (with_reducible repeat (first | apply Kd.S_alloc | apply Kd.S_drewN | apply Kd.S_drew)); exact Kd.S_mono (Kd.S_far (p := ⟨gb249, 2, none⟩) (Kd.S_far (p := ⟨gb249, 1, none⟩) (Kd.S_far (p := ⟨gb249, 0, none⟩) (Kd.S_types HO265.out BK249.out (by decide)) (fun _ hk => hk.2) (.int .i64 t261)) (fun _ hk => hk.2) (.int .i64 t262)) (fun _ hk => hk.2) (.slice Ao91 t263.length co91)) (fun _ hk => ⟨hk.1.1.2, hk.1.2⟩)⟩
          have n3_ : Aside0 ((((w89.setCell ⟨gb249, 0, none⟩ (.int .i64 t261)).setCell ⟨gb249, 1, none⟩ (.int .i64 t262)).setCell ⟨gb249, 2, none⟩ (.slice Ao91 t263.length co91)).heap[gb231]? = some (.cells #[.int .i64 a0_0, .int .i64 a0_1, .slice A0_2 l0_2.length c0_2] 25 (0, 0))) := ⟨by (with_reducible repeat (first | refine blk_drewN ?_ _ | refine blk_drew ?_ | refine blk_alloc ?_ _)); refine blk_far ?_ NB231_249.out _; refine blk_far ?_ NB231_249.out _; refine blk_far ?_ NB231_249.out _; (with_reducible repeat (first | refine blk_drewN ?_ _ | refine blk_drew ?_ | refine blk_alloc ?_ _)); exact BK231.out⟩
          have n4_ : Aside0 ((((w89.setCell ⟨gb249, 0, none⟩ (.int .i64 t261)).setCell ⟨gb249, 1, none⟩ (.int .i64 t262)).setCell ⟨gb249, 2, none⟩ (.slice Ao91 t263.length co91)).heap[gb232]? = some (.cells #[.int .i64 0, .int .i64 0, .slice none 0 0] 25 (0, 0))) := ⟨by (with_reducible repeat (first | refine blk_drewN ?_ _ | refine blk_drew ?_ | refine blk_alloc ?_ _)); refine blk_far ?_ NB232_249.out _; refine blk_far ?_ NB232_249.out _; refine blk_far ?_ NB232_249.out _; (with_reducible repeat (first | refine blk_drewN ?_ _ | refine blk_drew ?_ | refine blk_alloc ?_ _)); exact BK232.out⟩
          have n5_ : Aside0 ((((w89.setCell ⟨gb249, 0, none⟩ (.int .i64 t261)).setCell ⟨gb249, 1, none⟩ (.int .i64 t262)).setCell ⟨gb249, 2, none⟩ (.slice Ao91 t263.length co91)).heap[gb249]? = some (.cells #[.int .i64 t261, .int .i64 t262, .slice Ao91 t263.length co91] 25 (0, 0))) := ⟨by (with_reducible repeat (first | refine blk_drewN ?_ _ | refine blk_drew ?_ | refine blk_alloc ?_ _)); refine blk_put (cs := #[.int .i64 t261, .int .i64 t262, .slice Ao86 t246.length co86]) ?_ 2 _ rfl; refine blk_put (cs := #[.int .i64 t261, .int .i64 t245, .slice Ao86 t246.length co86]) ?_ 1 _ rfl; refine blk_put (cs := #[.int .i64 t244, .int .i64 t245, .slice Ao86 t246.length co86]) ?_ 0 _ rfl; (with_reducible repeat (first | refine blk_drewN ?_ _ | refine blk_drew ?_ | refine blk_alloc ?_ _)); exact BK249.out⟩
          have n6_ : Aside0 (Below w.heap.size w (((w89.setCell ⟨gb249, 0, none⟩ (.int .i64 t261)).setCell ⟨gb249, 1, none⟩ (.int .i64 t262)).setCell ⟨gb249, 2, none⟩ (.slice Ao91 t263.length co91))) := ⟨by repeat (first | (with_reducible first | exact HB.out | apply below_alloc | apply pw_below_drewN | apply below_drew1 | refine below_set ?_ GE231.out | refine below_set ?_ GE232.out | refine below_set ?_ GE249.out) | exact HB.out)⟩
          (try clear HO_11)
          (try clear HO248)
          (try clear HO265)
          (try clear BK231)
          (try clear BK232)
          (try clear BK249)
          (try clear HB)
          generalize (((w89.setCell ⟨gb249, 0, none⟩ (.int .i64 t261)).setCell ⟨gb249, 1, none⟩ (.int .i64 t262)).setCell ⟨gb249, 2, none⟩ (.slice Ao91 t263.length co91)) = w92 at n0_ n1_ n2_ n3_ n4_ n5_ n6_ ⊢
          have HO_11 := n0_
          have HO248 := n1_
          have HO265 := n2_
          have BK231 := n3_
          have BK232 := n4_
          have BK249 := n5_
          have HB := n6_
          clear n0_ n1_ n2_ n3_ n4_ n5_ n6_
          replace HO_11 := Aside0.mk (Kd.R_drew HO_11.out)
          replace HO248 := Aside0.mk (Kd.S_drew HO248.out)
          replace HO265 := Aside0.mk (Kd.S_drew HO265.out)
          replace BK231 := Aside0.mk (blk_drew BK231.out)
          replace BK232 := Aside0.mk (blk_drew BK232.out)
          replace BK249 := Aside0.mk (blk_drew BK249.out)
          replace HB := Aside0.mk (below_drew1 HB.out)
          refine start_ (n := 4) (S := fun w' => w'.cell? ⟨gb249, 0, none⟩ = some (.int .i64 t261) ∧ w'.cell? ⟨gb249, 1, none⟩ = some (.int .i64 t262) ∧ w'.cell? ⟨gb249, 2, none⟩ = some (.slice Ao91 t263.length co91)) (ds := []) #[false, false, false, false] (by kernel_rfl) rfl rfl ⟨(blk_cell BK249.out 0).trans rfl, (blk_cell BK249.out 1).trans rfl, (blk_cell BK249.out 2).trans rfl⟩ (fun hHeld => ?_)
          generalize w92.drew = w93 at HO_11 HO248 HO265 BK231 BK232 BK249 HB hHeld ⊢
          refine pure_ (i := 0) (N := some 57) (v := ?_) (a' := ?_) #[true, false, false, false] rfl rfl (by kernel_rfl) (fun _ _ _ h => h) (Or.inl ⟨by rfl, ?_⟩) ?_ ?_
          rotate_left; (intro w'; go_simp; with_reducible rfl); rotate_left; (simp only [Act.put, List.setIfInBounds_toArray, List.set_cons_zero, List.set_cons_succ, i64_w, i32_w]; rfl)
          refine pure_ (i := 2) (N := some 8) (v := ?_) (a' := ?_) #[true, false, true, false] rfl rfl (by kernel_rfl) (fun _ _ _ h => h) (Or.inl ⟨by rfl, ?_⟩) ?_ ?_
          rotate_left; (intro w'; go_simp; with_reducible rfl); rotate_left; (simp only [Act.put, List.setIfInBounds_toArray, List.set_cons_zero, List.set_cons_succ, i64_w, i32_w]; rfl)
          refine take_ (i := 1) (N := some 58) (v := ?_) (a' := ?_) #[true, true, true, false] rfl rfl (by kernel_rfl) (fun _ _ _ h => h) (Or.inl ⟨by rfl, ?_⟩) hHeld ?_ ?_
          rotate_left; (rintro w' ⟨s0, s1, s2⟩; go_simp; with_reducible rfl); rotate_left; (simp only [Act.put, List.setIfInBounds_toArray, List.set_cons_zero, List.set_cons_succ, i64_w, i32_w]; rfl)
          refine one_ (i := 3) (N := none) #[true, true, true, true] rfl rfl (by kernel_rfl) (by decide) (fun K hK => ?_)
          have hs94 : w93.cell? ⟨gb232, 0, none⟩ = some (.int .i64 0) := (blk_cell BK232.out 0).trans rfl
          have hfs94 := blk_frozen BK232.out 0
          have hns94_0 := NB231_232.out
          have hns94_2 := NB249_232.out
          have hms94_0 := NB232_231.out
          have hms94_2 := NB232_249.out
          have hs95 : w93.cell? ⟨gb232, 1, none⟩ = some (.int .i64 0) := (blk_cell BK232.out 1).trans rfl
          have hfs95 := blk_frozen BK232.out 1
          have hns95_0 := NB231_232.out
          have hns95_2 := NB249_232.out
          have hms95_0 := NB232_231.out
          have hms95_2 := NB232_249.out
          have hs96 : w93.cell? ⟨gb232, 2, none⟩ = some (.slice none 0 0) := (blk_cell BK232.out 2).trans rfl
          have hfs96 := blk_frozen BK232.out 2
          have hns96_0 := NB231_232.out
          have hns96_2 := NB249_232.out
          have hms96_0 := NB232_231.out
          have hms96_2 := NB232_249.out
          refine skip_ (w1 := ?_) (by rfl) rfl ?_ ?_
          rotate_left
          · go_simp
            rfl
          refine hK.out _ _ ⟨((cell_far (p := ⟨gb232, _, none⟩) NB249_232.out _).trans (((cell_far (p := ⟨gb232, _, none⟩) NB249_232.out _).trans (((cell_far (p := ⟨gb232, _, none⟩) NB249_232.out _).trans (hHeld.1)))))), ((cell_far (p := ⟨gb232, _, none⟩) NB249_232.out _).trans (((cell_far (p := ⟨gb232, _, none⟩) NB249_232.out _).trans (((cell_far (p := ⟨gb232, _, none⟩) NB249_232.out _).trans (hHeld.2.1)))))), ((cell_far (p := ⟨gb232, _, none⟩) NB249_232.out _).trans (((cell_far (p := ⟨gb232, _, none⟩) NB249_232.out _).trans (((cell_far (p := ⟨gb232, _, none⟩) NB249_232.out _).trans (hHeld.2.2))))))⟩ (fun hHeld => ?_)
          clear hK K
          refine done_ (by kernel_rfl) ?_
          try go_wp2
          refine bodyPost_ret (results_tc rfl _ _ gb232 25 #[.int .i64 t261, .int .i64 t262, .slice Ao91 t263.length co91] (0, 0) _ rfl (by (with_reducible repeat (first | refine blk_drewN ?_ _ | refine blk_drew ?_ | refine blk_alloc ?_ _)); refine blk_put (cs := #[.int .i64 t261, .int .i64 t262, .slice none 0 0]) ?_ 2 _ rfl; refine blk_put (cs := #[.int .i64 t261, .int .i64 0, .slice none 0 0]) ?_ 1 _ rfl; refine blk_put (cs := #[.int .i64 0, .int .i64 0, .slice none 0 0]) ?_ 0 _ rfl; (with_reducible repeat (first | refine blk_drewN ?_ _ | refine blk_drew ?_ | refine blk_alloc ?_ _)); exact BK232.out) Try.underlying25 rfl (by kernel_rfl)) rfl ?_
          exact ⟨_, _, by first | rfl | (simp [errW_none, errW_some] <;> rfl) | (simp [*, errW_none, errW_some] <;> rfl), by (with_reducible repeat (first | apply Kd.R_alloc | apply Kd.R_drewN | apply Kd.R_drew)); exact Kd.R_mono (Kd.R_far (p := ⟨gb232, 2, none⟩) (Kd.R_far (p := ⟨gb232, 1, none⟩) (Kd.R_far (p := ⟨gb232, 0, none⟩) (Kd.R_types HO_11.out BK232.out (by decide)) (fun _ hk => hk.2) (.int .i64 t261)) (fun _ hk => hk.2) (.int .i64 t262)) (fun _ hk => hk.2) (.slice Ao91 t263.length co91)) (fun _ hk => trivial), by (with_reducible repeat (first | apply Kd.S_alloc | apply Kd.S_drewN | apply Kd.S_drew)); exact Kd.S_mono (Kd.S_far (p := ⟨gb232, 2, none⟩) (Kd.S_far (p := ⟨gb232, 1, none⟩) (Kd.S_far (p := ⟨gb232, 0, none⟩) (Kd.S_types HO265.out BK232.out (by decide)) (fun _ hk => hk.2) (.int .i64 t261)) (fun _ hk => hk.2) (.int .i64 t262)) (fun _ hk => hk.2) (.slice Ao91 t263.length co91)) (fun _ hk => hk.1.1), by repeat (first | (with_reducible first | exact HB.out | apply below_alloc | apply pw_below_drewN | apply below_drew1 | refine below_set ?_ GE231.out | refine below_set ?_ GE232.out | refine below_set ?_ GE249.out) | exact HB.out)⟩
        · rw [if_neg c77] at H
          have c77b0 : decide (a0_1 < (t246.length : Int)) = false := decide_eq_false c77
          clear c77
          simp only [Option.some.injEq, Prod.mk.injEq] at H
          obtain ⟨rfl, rfl, rfl, rfl⟩ := H
          have hnb97 := NB231_232.out
          have hnc97 := NB232_231.out
          have hcz98_0 : wc.cell? ⟨gb231, 0, none⟩ = some (.int .i64 a0_0) := (blk_cell BK231.out 0).trans rfl
          have hcz98_1 : wc.cell? ⟨gb231, 1, none⟩ = some (.int .i64 a0_1) := (blk_cell BK231.out 1).trans rfl
          have hcz98_2 : wc.cell? ⟨gb231, 2, none⟩ = some (.slice A0_2 l0_2.length c0_2) := (blk_cell BK231.out 2).trans rfl
          have hfz98_0 := blk_frozen BK231.out 0
          have hfz98_1 := blk_frozen BK231.out 1
          have hfz98_2 := blk_frozen BK231.out 2
          try go_wp2_with (first | ((with_reducible refine gate_callee (f := 71) rfl ?_); refine goesL_ (some 36) rfl rfl Try.func71 (by kernel_rfl) rfl #[.agg #[.int .i64 a0_0, .int .i64 a0_1, .slice A0_2 l0_2.length c0_2], .int .i64 t233] rfl (by (try simp only [List.map_toArray, List.map_cons, List.map_nil]); first | done | rfl | (simp only [List.length_drop, List.length_take]; rfl)) ?_; (with_reducible refine (spec_l3Less.calls kj5 a0_0 a0_1 _ _ l0_2 t233 t244 t245 t246 _ ?side1 ?side2 A22.out).mono ?_); (case side1 => repeat (first | exact (Kd.C_below HR0_2.out HB.out) | (with_reducible refine Kd.C_alloc ?_ _) | (with_reducible refine Kd.C_drewN ?_ _) | (with_reducible refine Kd.C_drew ?_))); (case side2 => exact HC0_2.out); rintro e w99 ⟨v247, rfl, ho0, hb⟩; refine ⟨_, rfl, ?_⟩; have HO248 := Aside0.mk (Kd.S_lower (Kd.S_new' ho0 (Kd.R_lt (by (with_reducible repeat (first | apply Kd.R_alloc | apply Kd.R_drewN | apply Kd.R_drew)); exact HO_11.out))) (below_size (bz HB))); replace HO_11 := rb HO_11 hb; replace BK231 := bk BK231 hb; replace BK232 := bk BK232 hb; replace HB := Aside0.mk (below_step (bz HB) hb); (try clear hb); (try clear hb2); (try clear hk); (try clear hi); (try clear ho0)) | ((with_reducible refine gate_dst (N := 12) rfl ?_); refine box_event ?hg (N := 12) ?hd (cs := #[.int .i64 0, .int .i64 0, .slice none 0 0]) (t := 25) ?hr ?_; (case hd => rfl); (case hg => rfl); (case hr => first | (go_simp; done) | (go_simp; rfl)); intro gb249 hg w100 hbox hb; replace HO_11 := rb HO_11 hb; replace HO248 := Aside0.mk (Kd.S_below (by (with_reducible repeat (first | apply Kd.S_alloc | apply Kd.S_drewN | apply Kd.S_drew)); exact HO248.out) hb); have BK249 := Aside0.mk (hbox); have GW249 := Aside0.mk ((by rw [hg]; exact (below_size (bz HB)) : w.heap.size ≤ gb249)); have GE249 := Aside0.mk ((by rw [hg]; exact (below_size (bz HB)) : w.heap.size ≤ gb249)); replace HB := Aside0.mk (below_step (bz HB) hb); have NB231_249 := nb BK231 hg; have NB249_231 := nc BK231 hg; replace BK231 := bk BK231 hb; have NB232_249 := nb BK232 hg; have NB249_232 := nc BK232 hg; replace BK232 := bk BK232 hb; clear hb hbox hg; have hnb101 := NB249_231.out; have hnc101 := NB231_249.out; have hnb102 := NB249_232.out; have hnc102 := NB232_249.out; have hcz103_0 : w100.cell? ⟨gb249, 0, none⟩ = some (.int .i64 0) := (blk_cell BK249.out 0).trans rfl; have hcz103_1 : w100.cell? ⟨gb249, 1, none⟩ = some (.int .i64 0) := (blk_cell BK249.out 1).trans rfl; have hcz103_2 : w100.cell? ⟨gb249, 2, none⟩ = some (.slice none 0 0) := (blk_cell BK249.out 2).trans rfl; have hfz103_0 := blk_frozen BK249.out 0; have hfz103_1 := blk_frozen BK249.out 1; have hfz103_2 := blk_frozen BK249.out 2; obtain ⟨Ao104, co104, eo104⟩ := Kd.S_slice HO248.out; subst eo104; obtain ⟨Ao105, co105, eo105⟩ := Kd.R_slice HO_11.out; subst eo105; have hcz106_0 : w100.cell? ⟨gb231, 0, none⟩ = some (.int .i64 a0_0) := (blk_cell BK231.out 0).trans rfl; have hcz106_1 : w100.cell? ⟨gb231, 1, none⟩ = some (.int .i64 a0_1) := (blk_cell BK231.out 1).trans rfl; have hcz106_2 : w100.cell? ⟨gb231, 2, none⟩ = some (.slice A0_2 l0_2.length c0_2) := (blk_cell BK231.out 2).trans rfl; have hfz106_0 := blk_frozen BK231.out 0; have hfz106_1 := blk_frozen BK231.out 1; have hfz106_2 := blk_frozen BK231.out 2))
          have n0_ : Aside0 (Kd.R (Kd.int .u8) 5 (((w100.setCell ⟨gb249, 0, none⟩ (.int .i64 t244)).setCell ⟨gb249, 1, none⟩ (.int .i64 t245)).setCell ⟨gb249, 2, none⟩ (.slice Ao104 t246.length co104)) w.heap.size (fun _ => True) (.slice Ao105 x11_5.length co105) x11_5) := ⟨by (with_reducible repeat (first | apply Kd.R_alloc | apply Kd.R_drewN | apply Kd.R_drew)); exact Kd.R_mono (Kd.R_far (p := ⟨gb249, 2, none⟩) (Kd.R_far (p := ⟨gb249, 1, none⟩) (Kd.R_far (p := ⟨gb249, 0, none⟩) (Kd.R_types HO_11.out BK249.out (by decide)) (fun _ hk => hk.2) (.int .i64 t244)) (fun _ hk => hk.2) (.int .i64 t245)) (fun _ hk => hk.2) (.slice Ao104 t246.length co104)) (fun _ hk => trivial)⟩
          have n1_ : Aside0 (Kd.S k80 80 (((w100.setCell ⟨gb249, 0, none⟩ (.int .i64 t244)).setCell ⟨gb249, 1, none⟩ (.int .i64 t245)).setCell ⟨gb249, 2, none⟩ (.slice Ao104 t246.length co104)) w.heap.size (fun k_ => some k_ ≠ (.slice Ao105 x11_5.length co105 : Value).ownBlock) (.slice Ao104 t246.length co104) t246) := ⟨by (with_reducible repeat (first | apply Kd.S_alloc | apply Kd.S_drewN | apply Kd.S_drew)); exact Kd.S_mono (Kd.S_far (p := ⟨gb249, 2, none⟩) (Kd.S_far (p := ⟨gb249, 1, none⟩) (Kd.S_far (p := ⟨gb249, 0, none⟩) (Kd.S_types HO248.out BK249.out (by decide)) (fun _ hk => hk.2) (.int .i64 t244)) (fun _ hk => hk.2) (.int .i64 t245)) (fun _ hk => hk.2) (.slice Ao104 t246.length co104)) (fun _ hk => hk.1.2)⟩
          have n2_ : Aside0 ((((w100.setCell ⟨gb249, 0, none⟩ (.int .i64 t244)).setCell ⟨gb249, 1, none⟩ (.int .i64 t245)).setCell ⟨gb249, 2, none⟩ (.slice Ao104 t246.length co104)).heap[gb231]? = some (.cells #[.int .i64 a0_0, .int .i64 a0_1, .slice A0_2 l0_2.length c0_2] 25 (0, 0))) := ⟨by (with_reducible repeat (first | refine blk_drewN ?_ _ | refine blk_drew ?_ | refine blk_alloc ?_ _)); refine blk_far ?_ NB231_249.out _; refine blk_far ?_ NB231_249.out _; refine blk_far ?_ NB231_249.out _; (with_reducible repeat (first | refine blk_drewN ?_ _ | refine blk_drew ?_ | refine blk_alloc ?_ _)); exact BK231.out⟩
          have n3_ : Aside0 ((((w100.setCell ⟨gb249, 0, none⟩ (.int .i64 t244)).setCell ⟨gb249, 1, none⟩ (.int .i64 t245)).setCell ⟨gb249, 2, none⟩ (.slice Ao104 t246.length co104)).heap[gb232]? = some (.cells #[.int .i64 0, .int .i64 0, .slice none 0 0] 25 (0, 0))) := ⟨by (with_reducible repeat (first | refine blk_drewN ?_ _ | refine blk_drew ?_ | refine blk_alloc ?_ _)); refine blk_far ?_ NB232_249.out _; refine blk_far ?_ NB232_249.out _; refine blk_far ?_ NB232_249.out _; (with_reducible repeat (first | refine blk_drewN ?_ _ | refine blk_drew ?_ | refine blk_alloc ?_ _)); exact BK232.out⟩
          have n4_ : Aside0 ((((w100.setCell ⟨gb249, 0, none⟩ (.int .i64 t244)).setCell ⟨gb249, 1, none⟩ (.int .i64 t245)).setCell ⟨gb249, 2, none⟩ (.slice Ao104 t246.length co104)).heap[gb249]? = some (.cells #[.int .i64 t244, .int .i64 t245, .slice Ao104 t246.length co104] 25 (0, 0))) := ⟨by (with_reducible repeat (first | refine blk_drewN ?_ _ | refine blk_drew ?_ | refine blk_alloc ?_ _)); refine blk_put (cs := #[.int .i64 t244, .int .i64 t245, .slice none 0 0]) ?_ 2 _ rfl; refine blk_put (cs := #[.int .i64 t244, .int .i64 0, .slice none 0 0]) ?_ 1 _ rfl; refine blk_put (cs := #[.int .i64 0, .int .i64 0, .slice none 0 0]) ?_ 0 _ rfl; (with_reducible repeat (first | refine blk_drewN ?_ _ | refine blk_drew ?_ | refine blk_alloc ?_ _)); exact BK249.out⟩
          have n5_ : Aside0 (Below w.heap.size w (((w100.setCell ⟨gb249, 0, none⟩ (.int .i64 t244)).setCell ⟨gb249, 1, none⟩ (.int .i64 t245)).setCell ⟨gb249, 2, none⟩ (.slice Ao104 t246.length co104))) := ⟨by repeat (first | (with_reducible first | exact HB.out | apply below_alloc | apply pw_below_drewN | apply below_drew1 | refine below_set ?_ GE231.out | refine below_set ?_ GE232.out | refine below_set ?_ GE249.out) | exact HB.out)⟩
          (try clear HO_11)
          (try clear HO248)
          (try clear BK231)
          (try clear BK232)
          (try clear BK249)
          (try clear HB)
          generalize (((w100.setCell ⟨gb249, 0, none⟩ (.int .i64 t244)).setCell ⟨gb249, 1, none⟩ (.int .i64 t245)).setCell ⟨gb249, 2, none⟩ (.slice Ao104 t246.length co104)) = w107 at n0_ n1_ n2_ n3_ n4_ n5_ ⊢
          have HO_11 := n0_
          have HO248 := n1_
          have BK231 := n2_
          have BK232 := n3_
          have BK249 := n4_
          have HB := n5_
          clear n0_ n1_ n2_ n3_ n4_ n5_
          replace HO_11 := Aside0.mk (Kd.R_drew HO_11.out)
          replace HO248 := Aside0.mk (Kd.S_drew HO248.out)
          replace BK231 := Aside0.mk (blk_drew BK231.out)
          replace BK232 := Aside0.mk (blk_drew BK232.out)
          replace BK249 := Aside0.mk (blk_drew BK249.out)
          replace HB := Aside0.mk (below_drew1 HB.out)
          refine start_ (n := 4) (S := fun w' => w'.cell? ⟨gb249, 0, none⟩ = some (.int .i64 t244) ∧ w'.cell? ⟨gb249, 1, none⟩ = some (.int .i64 t245) ∧ w'.cell? ⟨gb249, 2, none⟩ = some (.slice Ao104 t246.length co104)) (ds := []) #[false, false, false, false] (by kernel_rfl) rfl rfl ⟨(blk_cell BK249.out 0).trans rfl, (blk_cell BK249.out 1).trans rfl, (blk_cell BK249.out 2).trans rfl⟩ (fun hHeld => ?_)
          generalize w107.drew = w108 at HO_11 HO248 BK231 BK232 BK249 HB hHeld ⊢
          refine pure_ (i := 0) (N := some 57) (v := ?_) (a' := ?_) #[true, false, false, false] rfl rfl (by kernel_rfl) (fun _ _ _ h => h) (Or.inl ⟨by rfl, ?_⟩) ?_ ?_
          rotate_left; (intro w'; go_simp; with_reducible rfl); rotate_left; (simp only [Act.put, List.setIfInBounds_toArray, List.set_cons_zero, List.set_cons_succ, i64_w, i32_w]; rfl)
          refine pure_ (i := 2) (N := some 8) (v := ?_) (a' := ?_) #[true, false, true, false] rfl rfl (by kernel_rfl) (fun _ _ _ h => h) (Or.inl ⟨by rfl, ?_⟩) ?_ ?_
          rotate_left; (intro w'; go_simp; with_reducible rfl); rotate_left; (simp only [Act.put, List.setIfInBounds_toArray, List.set_cons_zero, List.set_cons_succ, i64_w, i32_w]; rfl)
          refine take_ (i := 1) (N := some 58) (v := ?_) (a' := ?_) #[true, true, true, false] rfl rfl (by kernel_rfl) (fun _ _ _ h => h) (Or.inl ⟨by rfl, ?_⟩) hHeld ?_ ?_
          rotate_left; (rintro w' ⟨s0, s1, s2⟩; go_simp; with_reducible rfl); rotate_left; (simp only [Act.put, List.setIfInBounds_toArray, List.set_cons_zero, List.set_cons_succ, i64_w, i32_w]; rfl)
          refine one_ (i := 3) (N := none) #[true, true, true, true] rfl rfl (by kernel_rfl) (by decide) (fun K hK => ?_)
          have hs109 : w108.cell? ⟨gb232, 0, none⟩ = some (.int .i64 0) := (blk_cell BK232.out 0).trans rfl
          have hfs109 := blk_frozen BK232.out 0
          have hns109_0 := NB231_232.out
          have hns109_2 := NB249_232.out
          have hms109_0 := NB232_231.out
          have hms109_2 := NB232_249.out
          have hs110 : w108.cell? ⟨gb232, 1, none⟩ = some (.int .i64 0) := (blk_cell BK232.out 1).trans rfl
          have hfs110 := blk_frozen BK232.out 1
          have hns110_0 := NB231_232.out
          have hns110_2 := NB249_232.out
          have hms110_0 := NB232_231.out
          have hms110_2 := NB232_249.out
          have hs111 : w108.cell? ⟨gb232, 2, none⟩ = some (.slice none 0 0) := (blk_cell BK232.out 2).trans rfl
          have hfs111 := blk_frozen BK232.out 2
          have hns111_0 := NB231_232.out
          have hns111_2 := NB249_232.out
          have hms111_0 := NB232_231.out
          have hms111_2 := NB232_249.out
          refine skip_ (w1 := ?_) (by rfl) rfl ?_ ?_
          rotate_left
          · go_simp
            rfl
          refine hK.out _ _ ⟨((cell_far (p := ⟨gb232, _, none⟩) NB249_232.out _).trans (((cell_far (p := ⟨gb232, _, none⟩) NB249_232.out _).trans (((cell_far (p := ⟨gb232, _, none⟩) NB249_232.out _).trans (hHeld.1)))))), ((cell_far (p := ⟨gb232, _, none⟩) NB249_232.out _).trans (((cell_far (p := ⟨gb232, _, none⟩) NB249_232.out _).trans (((cell_far (p := ⟨gb232, _, none⟩) NB249_232.out _).trans (hHeld.2.1)))))), ((cell_far (p := ⟨gb232, _, none⟩) NB249_232.out _).trans (((cell_far (p := ⟨gb232, _, none⟩) NB249_232.out _).trans (((cell_far (p := ⟨gb232, _, none⟩) NB249_232.out _).trans (hHeld.2.2))))))⟩ (fun hHeld => ?_)
          clear hK K
          refine done_ (by kernel_rfl) ?_
          try go_wp2
          refine bodyPost_ret (results_tc rfl _ _ gb232 25 #[.int .i64 t244, .int .i64 t245, .slice Ao104 t246.length co104] (0, 0) _ rfl (by (with_reducible repeat (first | refine blk_drewN ?_ _ | refine blk_drew ?_ | refine blk_alloc ?_ _)); refine blk_put (cs := #[.int .i64 t244, .int .i64 t245, .slice none 0 0]) ?_ 2 _ rfl; refine blk_put (cs := #[.int .i64 t244, .int .i64 0, .slice none 0 0]) ?_ 1 _ rfl; refine blk_put (cs := #[.int .i64 0, .int .i64 0, .slice none 0 0]) ?_ 0 _ rfl; (with_reducible repeat (first | refine blk_drewN ?_ _ | refine blk_drew ?_ | refine blk_alloc ?_ _)); exact BK232.out) Try.underlying25 rfl (by kernel_rfl)) rfl ?_
          exact ⟨_, _, by first | rfl | (simp [errW_none, errW_some] <;> rfl) | (simp [*, errW_none, errW_some] <;> rfl), by (with_reducible repeat (first | apply Kd.R_alloc | apply Kd.R_drewN | apply Kd.R_drew)); exact Kd.R_mono (Kd.R_far (p := ⟨gb232, 2, none⟩) (Kd.R_far (p := ⟨gb232, 1, none⟩) (Kd.R_far (p := ⟨gb232, 0, none⟩) (Kd.R_types HO_11.out BK232.out (by decide)) (fun _ hk => hk.2) (.int .i64 t244)) (fun _ hk => hk.2) (.int .i64 t245)) (fun _ hk => hk.2) (.slice Ao104 t246.length co104)) (fun _ hk => trivial), by (with_reducible repeat (first | apply Kd.S_alloc | apply Kd.S_drewN | apply Kd.S_drew)); exact Kd.S_mono (Kd.S_far (p := ⟨gb232, 2, none⟩) (Kd.S_far (p := ⟨gb232, 1, none⟩) (Kd.S_far (p := ⟨gb232, 0, none⟩) (Kd.S_types HO248.out BK232.out (by decide)) (fun _ hk => hk.2) (.int .i64 t244)) (fun _ hk => hk.2) (.int .i64 t245)) (fun _ hk => hk.2) (.slice Ao104 t246.length co104)) (fun _ hk => hk.1), by repeat (first | (with_reducible first | exact HB.out | apply below_alloc | apply pw_below_drewN | apply below_drew1 | refine below_set ?_ GE231.out | refine below_set ?_ GE232.out | refine below_set ?_ GE249.out) | exact HB.out)⟩

end Go.Proofs.Ytkocconggohdgaa.PFnExactReadRange
