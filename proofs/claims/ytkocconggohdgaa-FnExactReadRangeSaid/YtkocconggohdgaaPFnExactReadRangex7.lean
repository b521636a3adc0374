/- Functions of the given program as plain Lean functions, each with a proof that the Go code answers just so; made by a program of this session out of the translation. Conditions: those that each theorem names. -/
import Derived.Test.YtkocconggohdgaaPFnExactReadRangex0
import Derived.Test.YtkocconggohdgaaPFnExactReadRangex5
import Derived.Test.YtkocconggohdgaaPFnExactReadRangex6
namespace Go.Proofs.Ytkocconggohdgaa.PFnExactReadRange
open Go.RowKit Go.Proofs.YtkocconggohdgaaW.PrintWords Go.Proofs.YtkocconggohdgaaW.PrintLast Go.Proofs.YtkocconggohdgaaW.PrintMore
attribute [local go_sem] max2_int min2_int max_two min_two max_three min_three max_four min_four   -- for this text's walks alone
set_option linter.unusedVariables false
set_option linter.unusedSimpArgs false

/-! ### spec_l3Range: function 70 -/
def spec_l3Range.l0 : Nat → List (S44) → Int → Int → Int → List Int → Int → Int → List (S80) → Option (List Int × Int × Int × (List (S80)))
  | 0, _, _, _, _, _, _, _, _ => none
  | k + 1, x1, x2, x3, x4, x12, x267000, x267001, x267002 => if (x12.length : Int) < x3 then (if x267000 = 0 then (none) else ((spec_l3Fetch.f k x267000 x267001 x267002 x1 (wrap64 (Int.tdiv (wrap64 (x2 + (x12.length : Int))) x267000)) x4).bind fun bt274 => (if bt274.2.1 = 0 then (none) else (if (Int.tmod (wrap64 (x2 + (x12.length : Int))) bt274.2.1) ≥ (bt274.1.length : Int) then (some (x12, bt274.2.1, bt274.2.2.1, bt274.2.2.2)) else ((spec_l1Min.f (wrap64 (x3 - (x12.length : Int))) (wrap64 ((bt274.1.length : Int) - (Int.tmod (wrap64 (x2 + (x12.length : Int))) bt274.2.1)))).bind fun t282 => (if 0 ≤ (Int.tmod (wrap64 (x2 + (x12.length : Int))) bt274.2.1) then (if (Int.tmod (wrap64 (x2 + (x12.length : Int))) bt274.2.1) ≤ (wrap64 ((Int.tmod (wrap64 (x2 + (x12.length : Int))) bt274.2.1) + t282)) then (if (wrap64 ((Int.tmod (wrap64 (x2 + (x12.length : Int))) bt274.2.1) + t282)) ≤ (bt274.1.length : Int) then ((some ((bt274.1.take ((wrap64 ((Int.tmod (wrap64 (x2 + (x12.length : Int))) bt274.2.1) + t282)) : Int).toNat).drop ((Int.tmod (wrap64 (x2 + (x12.length : Int))) bt274.2.1) : Int).toNat : List Int)).bind fun y283 => (if x12.length + y283.length < 140737488355328 then ((some (x12 ++ y283 : List Int)).bind fun y287 => (if (bt274.1.length : Int) < bt274.2.1 then (some (y287, bt274.2.1, bt274.2.2.1, bt274.2.2.2)) else (spec_l3Range.l0 k x1 x2 x3 x4 y287 bt274.2.1 bt274.2.2.1 bt274.2.2.2))) else (none))) else (none)) else (none)) else (none))))))) else (some (x12, x267000, x267001, x267002))
def spec_l3Range.f (k : Nat) (a0_0 : Int) (a0_1 : Int) (l0_2 : List (S80)) (l1 : List (S44)) (a2 : Int) (a3 : Int) (a4 : Int) : Option (List Int × Int × Int × (List (S80))) := spec_l3Range.l0 k l1 a2 a3 a4 (([] : List Int)) a0_0 a0_1 l0_2
theorem spec_l3Range.mono_l : ∀ k, (∀ y0 y1 y2 y3 y4 y5 y6 y7, LeO (spec_l3Range.l0 k y0 y1 y2 y3 y4 y5 y6 y7) (spec_l3Range.l0 (k + 1) y0 y1 y2 y3 y4 y5 y6 y7))
  | 0 => fun _ _ _ _ _ _ _ _ r h => by simp [spec_l3Range.l0] at h
  | k + 1 => by
    have ih0 := spec_l3Range.mono_l k
    · intro y0 y1 y2 y3 y4 y5 y6 y7
      unfold spec_l3Range.l0
      repeat' first
      | (with_reducible exact ih0 _ _ _ _ _ _ _ _)
      | (with_reducible exact spec_l3Fetch.mono _ _ _ _ _ _ _)
      | (with_reducible exact LeO.refl _)
      | (with_reducible exact LeO.none _)
      | (with_reducible refine LeO.ite ?_ ?_)
      | (with_reducible refine LeO.bind ?_ (fun _ => ?_))
      | exact ih0 _ _ _ _ _ _ _ _
      | exact spec_l3Fetch.mono _ _ _ _ _ _ _
      | exact LeO.none _
      | refine LeO.ite ?_ ?_
      | refine LeO.bind ?_ (fun _ => ?_)
theorem spec_l3Range.mono : ∀ a0 a1 a2 a3 a4 a5 a6 k, LeO (spec_l3Range.f k a0 a1 a2 a3 a4 a5 a6) (spec_l3Range.f (k + 1) a0 a1 a2 a3 a4 a5 a6) := by
  intro a0 a1 a2 a3 a4 a5 a6 k
  have ih0 := spec_l3Range.mono_l k
  unfold spec_l3Range.f
  repeat' first
      | (with_reducible exact ih0 _ _ _ _ _ _ _ _)
      | (with_reducible exact spec_l3Fetch.mono _ _ _ _ _ _ _)
      | (with_reducible exact LeO.refl _)
      | (with_reducible exact LeO.none _)
      | (with_reducible refine LeO.ite ?_ ?_)
      | (with_reducible refine LeO.bind ?_ (fun _ => ?_))
      | exact ih0 _ _ _ _ _ _ _ _
      | exact spec_l3Fetch.mono _ _ _ _ _ _ _
      | exact LeO.none _
      | refine LeO.ite ?_ ?_
      | refine LeO.bind ?_ (fun _ => ?_)
def spec_l3Range.T5 : Bool × List (List Nat × List Nat) := (true, [([], []), ([], []), ([], []), ([], []), ([3], [3]), ([2, 4], [2, 4]), ([], []), ([0, 1, 5, 6], [0, 1, 5, 6]), ([7], [7]), ([8], [8]), ([8], [8]), ([9, 7, 0, 1, 2, 3, 4, 5, 6, 7, 8, 9], [9]), ([10, 11, 0, 1, 2, 3, 4, 5, 6, 7, 8, 9, 10, 11], [10])])
def spec_l3Range.B5 : List Nat := [0, 0, 0, 0, 8, 28, 0, 127, 255, 511, 511, 1023, 4095]
theorem spec_l3Range.tab5 : rtab .any (opsOf Try.f70 5) = spec_l3Range.T5 := by kernel_rfl
theorem spec_l3Range.bits5 : waitsOk spec_l3Range.T5.2 spec_l3Range.B5 = true := by kernel_rfl
set_option maxHeartbeats 8000000 in
set_option maxRecDepth 100000 in
theorem spec_l3Range.calls (k : Nat) (a0_0 : Int) (a0_1 : Int) (P0_2_ : Nat → Prop) (A0_2 : Option Addr) (c0_2 : Nat) (l0_2 : List (S80)) (A1 : Option Addr) (c1 : Nat) (l1 : List (S44)) (a2 : Int) (a3 : Int) (a4 : Int) (r1 : List Int) (r2 : Int) (r3 : Int) (r4 : List (S80)) (w : World) (hs0_2 : Kd.V k80 80 w w.heap.size (fun k_ => P0_2_ k_) (.slice A0_2 l0_2.length c0_2) l0_2) (hr1 : Kd.C k44 w A1 l1.length l1) (hc1 : l1.length ≤ c1) (h : spec_l3Range.f k a0_0 a0_1 l0_2 l1 a2 a3 a4 = some (r1, r2, r3, r4)) :
    Calls Try.prog 70 #[.agg #[.int .i64 a0_0, .int .i64 a0_1, .slice A0_2 l0_2.length c0_2], .pointer A1, .int .i64 a2, .int .i64 a3, .int .i64 a4] w fun e w' => ∃ v0_ v3_ : Value, e = .returned (.tuple #[v0_, .agg #[.int .i64 r2, .int .i64 r3, v3_]]) ∧ Kd.R (Kd.int .u8) 5 w' w.heap.size (fun k_ => (w.heap.size ≤ k_)) v0_ r1 ∧ Kd.V k80 80 w' w.heap.size (fun k_ => (P0_2_ k_ ∨ w.heap.size ≤ k_) ∧ some k_ ≠ (v0_ : Value).ownBlock) v3_ r4 ∧ Below w.heap.size w w' := by
  have hu25 := Try.underlying25
  have HO0_2 := Aside0.mk (show Kd.V k80 80 w w.heap.size (fun k_ => (P0_2_ k_ ∨ w.heap.size ≤ k_)) (.slice A0_2 l0_2.length c0_2) l0_2 from Kd.V_mono hs0_2 (fun k_ hk => .inl hk))
  have HR1 := Aside0.mk hr1
  have HC1 := Aside0.mk hc1
  clear hr1 hc1
  have HB := Aside0.mk (Below.refl w.heap.size w)
  have H : (spec_l3Range.l0 k l1 a2 a3 a4 (([] : List Int)) a0_0 a0_1 l0_2) = some (r1, r2, r3, r4) := h
  clear h
  obtain ⟨y268, hy268⟩ : ∃ y_ : List Int, y_ = (([] : List Int)) := ⟨_, rfl⟩
  replace H : (spec_l3Range.l0 k l1 a2 a3 a4 y268 a0_0 a0_1 l0_2) = some (r1, r2, r3, r4) := by first | (rw [hy268]; with_reducible exact H) | (have H2_ := (Option.bind_some _ _).symm.trans H; rw [hy268]; with_reducible exact H2_) | (have H2_ := (Option.bind_some _ _).symm.trans H; with_reducible exact H2_) | with_reducible exact H | (rw [hy268]; exact H) | exact H
  have Ny268 := Aside0.mk hy268
  clear hy268
  have H' := Aside0.mk H
  clear H
  go_enter Try.func70, Try.ntmps70
  go_wp2_with (first | ((with_reducible refine gate_dst (N := 5) rfl ?_); refine box_event ?hg (N := 5) ?hd (cs := #[.int .i64 a0_0, .int .i64 a0_1, .slice A0_2 l0_2.length c0_2]) (t := 25) ?hr ?_; (case hd => rfl); (case hg => rfl); (case hr => first | (go_simp; done) | (go_simp; rfl)); intro gb266 hg w6 hbox hb; replace HO0_2 := Aside0.mk (Kd.V_below (Kd.V_elderB (by (with_reducible repeat (first | apply Kd.V_alloc | apply Kd.V_drewN | apply Kd.V_drew)); exact HO0_2.out) gb266 (Nat.le_of_eq hg.symm)) hb); have BK266 := Aside0.mk (hbox); have GW266 := Aside0.mk ((by rw [hg]; exact (below_size (bz HB)) : w.heap.size ≤ gb266)); have GE266 := Aside0.mk ((by rw [hg]; exact (below_size (bz HB)) : w.heap.size ≤ gb266)); replace HB := Aside0.mk (below_step (bz HB) hb); clear hb hbox hg) | ((with_reducible refine gate_dst (N := 11) rfl ?_); refine box_event ?hg (N := 11) ?hd (cs := #[.int .i64 0, .int .i64 0, .slice none 0 0]) (t := 25) ?hr ?_; (case hd => rfl); (case hg => rfl); (case hr => first | (go_simp; done) | (go_simp; rfl)); intro gb267 hg w7 hbox hb; replace HO0_2 := Aside0.mk (Kd.V_below (Kd.V_elderB (by (with_reducible repeat (first | apply Kd.V_alloc | apply Kd.V_drewN | apply Kd.V_drew)); exact HO0_2.out) gb267 (Nat.le_of_eq hg.symm)) hb); have BK267 := Aside0.mk (hbox); have GW267 := Aside0.mk ((by rw [hg]; exact (below_size (bz HB)) : w.heap.size ≤ gb267)); have GE267 := Aside0.mk ((by rw [hg]; exact (below_size (bz HB)) : w.heap.size ≤ gb267)); replace HB := Aside0.mk (below_step (bz HB) hb); have NB266_267 := nb BK266 hg; have NB267_266 := nc BK266 hg; replace BK266 := bk BK266 hb; clear hb hbox hg) | ((with_reducible refine gate_dst (N := 17) rfl ?_); refine Kd.R_lit (Kd.int .u8) _ 5 ?hg (N := 17) ?hd (xs := ([] : List Int)) (inner := []) (ok := fun _ => True) (okp := fun _ => True) ?hr ?hp (fun _ hk => hk) trivial (Below.refl _ _) (Nat.le_refl _) (by simp) ?_; (case hd => rfl); (case hg => rfl); (case hr => first | (go_simp; done) | (go_simp; rfl)); (case hp => exact (Reps.none _ _)); intro v269 w8 ho9 hb hg_ hnew_; clear hg_ hnew_; (first | rw [← Ny268.out] at ho9 | (simp only [Int.reduceToNat] at ho9; rw [← Ny268.out] at ho9)); replace HO0_2 := Aside0.mk (Kd.V_elder' (by (with_reducible repeat (first | apply Kd.V_alloc | apply Kd.V_drewN | apply Kd.V_drew)); exact HO0_2.out) (Kd.R_base ho9) hb); have HO270 := Aside0.mk (Kd.R_lower (Kd.R_newM (M := fun k_ => (w.heap.size ≤ k_)) ho9 (below_size (bz HB)) (fun k_ h_ => h_)) (below_size (bz HB))); replace BK266 := bk BK266 hb; replace BK267 := bk BK267 hb; replace HB := Aside0.mk (below_step (bz HB) hb); clear hb ho9))
  go_loopg [12] k (fun kq v12 w' => ∃ (x12_1 : List Int) (x267000_1 : Int) (x267001_1 : Int) (x267002_1 : List (S80)) (u267002 : Value), Aside0 (spec_l3Range.l0 kq l1 a2 a3 a4 x12_1 x267000_1 x267001_1 x267002_1 = some (r1, r2, r3, r4)) ∧ Aside0 (kq ≤ k) ∧ Aside0 (Kd.R (Kd.int .u8) 5 w' w.heap.size (fun k_ => (w.heap.size ≤ k_)) v12 x12_1) ∧ Aside0 (Kd.V k80 80 w' w.heap.size (fun k_ => (P0_2_ k_ ∨ w.heap.size ≤ k_) ∧ some k_ ≠ (v12 : Value).ownBlock ∧ k_ ≠ gb266 ∧ k_ ≠ gb267) u267002 x267002_1) ∧ Aside0 (w'.heap[gb266]? = some (.cells #[.int .i64 x267000_1, .int .i64 x267001_1, u267002] 25 (0, 0))) ∧ Aside0 (w'.heap[gb267]? = some (.cells #[.int .i64 0, .int .i64 0, (.slice none 0 0)] 25 (0, 0))) ∧ Aside0 (Below w.heap.size w w'))
  case atStart => exact ⟨(y268), (a0_0), (a0_1), (l0_2), (.slice A0_2 l0_2.length c0_2), H', ⟨Nat.le_refl _⟩, ⟨by (with_reducible repeat (first | apply Kd.R_alloc | apply Kd.R_drewN | apply Kd.R_drew)); exact Kd.R_mono HO270.out (fun _ hk => hk.1)⟩, ⟨by (with_reducible repeat (first | apply Kd.V_alloc | apply Kd.V_drewN | apply Kd.V_drew)); exact Kd.V_mono HO0_2.out (fun _ hk => ⟨hk.1.1.1, ⟨hk.2, ⟨hk.1.1.2, hk.1.2⟩⟩⟩)⟩, ⟨by (with_reducible repeat (first | refine blk_drewN ?_ _ | refine blk_drew ?_ | refine blk_alloc ?_ _)); exact BK266.out⟩, ⟨by (with_reducible repeat (first | refine blk_drewN ?_ _ | refine blk_drew ?_ | refine blk_alloc ?_ _)); exact BK267.out⟩, ⟨by repeat (first | (with_reducible first | exact HB.out | apply below_alloc | apply pw_below_drewN | apply below_drew1 | refine below_set ?_ GE266.out | refine below_set ?_ GE267.out) | exact HB.out)⟩⟩
  case round =>
    clear H'
    try clear c1
    try clear p2
    try clear c7
    obtain ⟨x12_1, x267000_1, x267001_1, x267002_1, u267002, HA, HK1, HO_12, HO_267002, BK266, BK267, HB⟩ := hrel
    cases gk with
    | zero => exact absurd HA.out (by simp [spec_l3Range.l0])
    | succ k1 =>
      have H := HA.out
      clear HA
      simp only [spec_l3Range.l0] at H
      by_cases c10 : (x12_1.length : Int) < a3
      · rw [if_pos c10] at H
        have c10b0 : decide ((x12_1.length : Int) < a3) = true := decide_eq_true c10
        clear c10
        obtain ⟨y271, hy271⟩ : ∃ y_ : List Int, y_ = (([] : List Int)) := ⟨_, rfl⟩
        replace H : (if x267000_1 = 0 then (none) else ((spec_l3Fetch.f k1 x267000_1 x267001_1 x267002_1 l1 (wrap64 (Int.tdiv (wrap64 (a2 + (x12_1.length : Int))) x267000_1)) a4).bind fun bt274 => (if bt274.2.1 = 0 then (none) else (if (Int.tmod (wrap64 (a2 + (x12_1.length : Int))) bt274.2.1) ≥ (bt274.1.length : Int) then (some (x12_1, bt274.2.1, bt274.2.2.1, bt274.2.2.2)) else ((spec_l1Min.f (wrap64 (a3 - (x12_1.length : Int))) (wrap64 ((bt274.1.length : Int) - (Int.tmod (wrap64 (a2 + (x12_1.length : Int))) bt274.2.1)))).bind fun t282 => (if 0 ≤ (Int.tmod (wrap64 (a2 + (x12_1.length : Int))) bt274.2.1) then (if (Int.tmod (wrap64 (a2 + (x12_1.length : Int))) bt274.2.1) ≤ (wrap64 ((Int.tmod (wrap64 (a2 + (x12_1.length : Int))) bt274.2.1) + t282)) then (if (wrap64 ((Int.tmod (wrap64 (a2 + (x12_1.length : Int))) bt274.2.1) + t282)) ≤ (bt274.1.length : Int) then ((some ((bt274.1.take ((wrap64 ((Int.tmod (wrap64 (a2 + (x12_1.length : Int))) bt274.2.1) + t282)) : Int).toNat).drop ((Int.tmod (wrap64 (a2 + (x12_1.length : Int))) bt274.2.1) : Int).toNat : List Int)).bind fun y283 => (if x12_1.length + y283.length < 140737488355328 then ((some (x12_1 ++ y283 : List Int)).bind fun y287 => (if (bt274.1.length : Int) < bt274.2.1 then (some (y287, bt274.2.1, bt274.2.2.1, bt274.2.2.2)) else (spec_l3Range.l0 k1 l1 a2 a3 a4 y287 bt274.2.1 bt274.2.2.1 bt274.2.2.2))) else (none))) else (none)) else (none)) else (none))))))) = some (r1, r2, r3, r4) := by first | (rw [hy271]; with_reducible exact H) | (have H2_ := (Option.bind_some _ _).symm.trans H; rw [hy271]; with_reducible exact H2_) | (have H2_ := (Option.bind_some _ _).symm.trans H; with_reducible exact H2_) | with_reducible exact H | (rw [hy271]; exact H) | exact H
        have Ny271 := Aside0.mk hy271
        clear hy271
        by_cases c11 : x267000_1 = 0
        · rw [if_pos c11] at H
          exact absurd H (by simp)
        · rw [if_neg c11] at H
          have c11b0 : (x267000_1 == 0) = false := beq_eq_false_iff_ne.mpr c11
          have c11b1 : (x267000_1 != 0) = true := bne_iff_ne.mpr c11
          replace H := Option.bind_eq_some_iff.mp H
          obtain ⟨⟨t274, t277, t278, t279⟩, A120, H⟩ := H
          try dsimp only at H
          have A12 := Aside0.mk A120
          clear A120
          by_cases c13 : t277 = 0
          · rw [if_pos c13] at H
            exact absurd H (by simp)
          · rw [if_neg c13] at H
            have c13b0 : (t277 == 0) = false := beq_eq_false_iff_ne.mpr c13
            have c13b1 : (t277 != 0) = true := bne_iff_ne.mpr c13
            by_cases c14 : (Int.tmod (wrap64 (a2 + (x12_1.length : Int))) t277) ≥ (t274.length : Int)
            · rw [if_pos c14] at H
              have c14b0 : decide ((t274.length : Int) ≤ (Int.tmod (wrap64 (a2 + (x12_1.length : Int))) t277)) = true := decide_eq_true c14
              clear c14
              simp only [Option.some.injEq, Prod.mk.injEq] at H
              obtain ⟨rfl, rfl, rfl, rfl⟩ := H
              obtain ⟨Ao15, co15, eo15⟩ := Kd.R_slice HO_12.out
              subst eo15
              try go_wp2_with (first | ((with_reducible refine gate_dst (N := 26) rfl ?_); refine Kd.R_lit (Kd.int .u8) _ 5 ?hg (N := 26) ?hd (xs := ([] : List Int)) (inner := []) (ok := fun _ => True) (okp := fun _ => True) ?hr ?hp (fun _ hk => hk) trivial (Below.refl _ _) (Nat.le_refl _) (by simp) ?_; (case hd => rfl); (case hg => rfl); (case hr => first | (go_simp; done) | (go_simp; rfl)); (case hp => exact (Reps.none _ _)); intro v272 w16 ho17 hb hg_ hnew_; clear hg_ hnew_; (first | rw [← Ny271.out] at ho17 | (simp only [Int.reduceToNat] at ho17; rw [← Ny271.out] at ho17)); replace HO_267002 := Aside0.mk (Kd.V_elder' (by (with_reducible repeat (first | apply Kd.V_alloc | apply Kd.V_drewN | apply Kd.V_drew)); exact HO_267002.out) (Kd.R_base ho17) hb); have HO273 := Aside0.mk (Kd.R_lower (Kd.R_new' (Kd.R_newM (M := fun k_ => (w.heap.size ≤ k_)) ho17 (below_size (bz HB)) (fun k_ h_ => h_)) (Kd.R_lt (by (with_reducible repeat (first | apply Kd.R_alloc | apply Kd.R_drewN | apply Kd.R_drew)); exact HO_12.out))) (below_size (bz HB))); replace HO_12 := Aside0.mk (Kd.R_elder' (by (with_reducible repeat (first | apply Kd.R_alloc | apply Kd.R_drewN | apply Kd.R_drew)); exact HO_12.out) (Kd.R_base ho17) hb); replace BK266 := bk BK266 hb; replace BK267 := bk BK267 hb; replace HB := Aside0.mk (below_step (bz HB) hb); clear hb ho17))
              replace HO_12 := Aside0.mk (Kd.R_drew HO_12.out)
              replace HO_267002 := Aside0.mk (Kd.V_drew HO_267002.out)
              replace HO273 := Aside0.mk (Kd.R_drew HO273.out)
              replace BK266 := Aside0.mk (blk_drew BK266.out)
              replace BK267 := Aside0.mk (blk_drew BK267.out)
              replace HB := Aside0.mk (below_drew1 HB.out)
              obtain ⟨Ao19, co19, eo19⟩ := Kd.V_slice HO_267002.out
              (first | subst eo19 | (injection eo19 with f1_ f2_ f3_; have f4_ := f1_.symm; have f5_ := f3_.symm; clear f1_ f2_ f3_; subst f4_; subst f5_))
              refine start_ (n := 13) (S := fun w' => w'.cell? ⟨gb266, 0, none⟩ = some (.int .i64 x267000_1) ∧ w'.cell? ⟨gb266, 1, none⟩ = some (.int .i64 x267001_1) ∧ w'.cell? ⟨gb266, 2, none⟩ = some (.slice Ao19 x267002_1.length co19)) (ds := [12]) #[false, false, false, false, false, false, false, false, false, false, false, false, false] (by kernel_rfl) rfl rfl ⟨(blk_cell BK266.out 0).trans rfl, (blk_cell BK266.out 1).trans rfl, (blk_cell BK266.out 2).trans rfl⟩ (fun hHeld => ?_); refine with_tabW spec_l3Range.tab5 spec_l3Range.bits5 (fun HT_ HW_ => ?_)
              generalize w16.drew = w18 at HO_12 HO_267002 HO273 BK266 BK267 HB hHeld ⊢
              refine pure_ (i := 1) (N := some 29) (v := ?_) (a' := ?_) #[false, true, false, false, false, false, false, false, false, false, false, false, false] rfl rfl (any_of HT_.out (by kernel_rfl)) (fun _ _ _ h => h) (Or.inl ⟨by rfl, ?_⟩) ?_ ?_
              rotate_left; (intro w'; go_simp; with_reducible rfl); rotate_left; (simp only [Act.put, List.setIfInBounds_toArray, List.set_cons_zero, List.set_cons_succ, i64_w, i32_w]; rfl)
              refine pure_ (i := 2) (N := some 30) (v := ?_) (a' := ?_) #[false, true, true, false, false, false, false, false, false, false, false, false, false] rfl rfl (any_of HT_.out (by kernel_rfl)) (fun _ _ _ h => h) (Or.inl ⟨by rfl, ?_⟩) ?_ ?_
              rotate_left; (intro w'; go_simp; with_reducible rfl); rotate_left; (simp only [Act.put, List.setIfInBounds_toArray, List.set_cons_zero, List.set_cons_succ, i64_w, i32_w]; rfl)
              refine pure_ (i := 3) (N := some 31) (v := ?_) (a' := ?_) #[false, true, true, true, false, false, false, false, false, false, false, false, false] rfl rfl (any_of HT_.out (by kernel_rfl)) (fun _ _ _ h => h) (Or.inl ⟨by rfl, ?_⟩) ?_ ?_
              rotate_left; (intro w'; go_simp; with_reducible rfl); rotate_left; (simp only [Act.put, List.setIfInBounds_toArray, List.set_cons_zero, List.set_cons_succ, i64_w, i32_w]; rfl)
              refine pure_ (i := 6) (N := some 34) (v := ?_) (a' := ?_) #[false, true, true, true, false, false, true, false, false, false, false, false, false] rfl rfl (any_of HT_.out (by kernel_rfl)) (fun _ _ _ h => h) (Or.inl ⟨by rfl, ?_⟩) ?_ ?_
              rotate_left; (intro w'; go_simp; with_reducible rfl); rotate_left; (simp only [Act.put, List.setIfInBounds_toArray, List.set_cons_zero, List.set_cons_succ, i64_w, i32_w]; rfl)
              refine take_ (i := 0) (N := some 28) (v := ?_) (a' := ?_) #[true, true, true, true, false, false, true, false, false, false, false, false, false] rfl rfl (take_ofW HT_.out HW_.out (by kernel_rfl)) (fun _ _ _ h => h) (Or.inl ⟨by rfl, ?_⟩) hHeld ?_ ?_
              rotate_left; (rintro w' ⟨s0, s1, s2⟩; go_simp; with_reducible rfl); rotate_left; (simp only [Act.put, List.setIfInBounds_toArray, List.set_cons_zero, List.set_cons_succ, i64_w, i32_w]; rfl)
              refine take_ (i := 4) (N := some 32) (v := ?_) (a' := ?_) #[true, true, true, true, true, false, true, false, false, false, false, false, false] rfl rfl (take_ofW HT_.out HW_.out (by kernel_rfl)) (fun _ _ _ h => h) (Or.inl ⟨by rfl, ?_⟩) hHeld ?_ ?_
              rotate_left; (rintro w' ⟨s0, s1, s2⟩; go_simp; with_reducible rfl); rotate_left; (simp only [Act.put, List.setIfInBounds_toArray, List.set_cons_zero, List.set_cons_succ, i64_w, i32_w]; rfl)
              refine pure_ (i := 5) (N := some 33) (v := ?_) (a' := ?_) #[true, true, true, true, true, true, true, false, false, false, false, false, false] rfl rfl (any_of HT_.out (by kernel_rfl)) (fun _ _ _ h => h) (Or.inl ⟨by rfl, ?_⟩) ?_ ?_
              rotate_left; (intro w'; go_simp; with_reducible rfl); rotate_left; (simp only [Act.put, List.setIfInBounds_toArray, List.set_cons_zero, List.set_cons_succ, i64_w, i32_w]; rfl)
              refine one_ (i := 7) (N := some 35) #[true, true, true, true, true, true, true, true, false, false, false, false, false] rfl rfl (one_of HT_.out (by kernel_rfl)) (by decide) (fun K hK => ?_)
              refine goes_ Try.func66 (by kernel_rfl) rfl #[.agg #[.int .i64 x267000_1, .int .i64 x267001_1, .slice Ao19 x267002_1.length co19], .pointer A1, .int .i64 (wrap64 (Int.tdiv (wrap64 (a2 + (x12_1.length : Int))) x267000_1)), .int .i64 a4] (by rfl) rfl rfl (by (try simp only [List.map_toArray, List.map_cons, List.map_nil]); first | done | rfl | (simp only [List.length_drop, List.length_take]; rfl)) ?_
              with_reducible refine (spec_l3Fetch.calls k1 x267000_1 x267001_1 _ _ x267002_1 _ (l1).length l1 (wrap64 (Int.tdiv (wrap64 (a2 + (x12_1.length : Int))) x267000_1)) a4 t274 t277 t278 t279 _ ?side1 ?side2 ?side3 ?side4 A12.out).mono ?_
              (case side1 => repeat (first | exact (Kd.V_reads' HO_267002.out).2.2 | (with_reducible refine Kd.C_alloc ?_ _) | (with_reducible refine Kd.C_drewN ?_ _) | (with_reducible refine Kd.C_drew ?_)))
              (case side2 => exact (Kd.V_reads' HO_267002.out).2.1)
              (case side3 => repeat (first | exact (Kd.C_below HR1.out HB.out) | (with_reducible refine Kd.C_alloc ?_ _) | (with_reducible refine Kd.C_drewN ?_ _) | (with_reducible refine Kd.C_drew ?_)))
              (case side4 => exact Nat.le_refl _)
              rintro e w20 ⟨v275, v280, rfl, ho0, ho1, hb⟩
              refine ⟨_, rfl, ?_⟩
              replace HO_267002 := Aside0.mk (Kd.V_mono (Kd.V_told (Kd.V_told (Kd.V_old (by (with_reducible repeat (first | apply Kd.V_alloc | apply Kd.V_drewN | apply Kd.V_drew)); exact HO_267002.out) hb) (Kd.R_base ho0)) (Kd.S_base ho1)) (fun _ h_ => h_.1))
              have HO276 := Aside0.mk (Kd.R_lower (Kd.R_new' (Kd.R_new' (Kd.R_newM (M := fun k_ => (w.heap.size ≤ k_)) ho0 (below_size (bz HB)) (fun k_ h_ => h_)) (Kd.R_lt (by (with_reducible repeat (first | apply Kd.R_alloc | apply Kd.R_drewN | apply Kd.R_drew)); exact HO_12.out))) (Kd.R_lt (by (with_reducible repeat (first | apply Kd.R_alloc | apply Kd.R_drewN | apply Kd.R_drew)); exact HO273.out))) (below_size (bz HB)))
              have HO281 := Aside0.mk (Kd.S_lower (Kd.S_new' (Kd.S_new' (Kd.S_newM (M := fun k_ => (w.heap.size ≤ k_)) ho1 (below_size (bz HB)) (fun k_ h_ => h_)) (Kd.R_lt (by (with_reducible repeat (first | apply Kd.R_alloc | apply Kd.R_drewN | apply Kd.R_drew)); exact HO_12.out))) (Kd.R_lt (by (with_reducible repeat (first | apply Kd.R_alloc | apply Kd.R_drewN | apply Kd.R_drew)); exact HO273.out))) (below_size (bz HB)))
              replace HO_12 := Aside0.mk (Kd.R_elder' (by (with_reducible repeat (first | apply Kd.R_alloc | apply Kd.R_drewN | apply Kd.R_drew)); exact HO_12.out) (Kd.R_base ho0) hb)
              replace HO273 := Aside0.mk (Kd.R_elder' (by (with_reducible repeat (first | apply Kd.R_alloc | apply Kd.R_drewN | apply Kd.R_drew)); exact HO273.out) (Kd.R_base ho0) hb)
              replace BK266 := bk BK266 hb
              replace BK267 := bk BK267 hb
              replace HB := Aside0.mk (below_step (bz HB) hb)
              (try clear hb)
              (try clear hb2)
              (try clear hk)
              (try clear hi)
              (try clear ho0)
              (try clear ho1)
              obtain ⟨Ao23, co23, eo23⟩ := Kd.S_slice HO281.out
              (first | subst eo23 | (injection eo23 with f1_ f2_ f3_; have f4_ := f1_.symm; have f5_ := f3_.symm; clear f1_ f2_ f3_; subst f4_; subst f5_))
              refine hK.out _ _ ⟨(blk_cell BK266.out 0).trans rfl, (blk_cell BK266.out 1).trans rfl, (blk_cell BK266.out 2).trans rfl⟩ (fun hHeld => ?_)
              clear hK K
              refine norm_ (a' := ?_) ?_ ?_
              rotate_left
              · show Act.put _ (some 35) _ = _
                simp only [Act.put, List.setIfInBounds_toArray, List.set_cons_zero, List.set_cons_succ, i64_w, i32_w]
                rfl
              refine pure_ (i := 8) (N := some 27) (v := ?_) (a' := ?_) #[true, true, true, true, true, true, true, true, true, false, false, false, false] rfl rfl (any_of HT_.out (by kernel_rfl)) (fun _ _ _ h => h) (Or.inl ⟨by rfl, ?_⟩) ?_ ?_
              rotate_left; (intro w'; go_simp; with_reducible rfl); rotate_left; (simp only [Act.put, List.setIfInBounds_toArray, List.set_cons_zero, List.set_cons_succ, i64_w, i32_w]; rfl)
              refine pure_ (i := 9) (N := some 36) (v := ?_) (a' := ?_) #[true, true, true, true, true, true, true, true, true, true, false, false, false] rfl rfl (any_of HT_.out (by kernel_rfl)) (fun _ _ _ h => h) (Or.inl ⟨by rfl, ?_⟩) ?_ ?_
              rotate_left; (intro w'; go_simp; with_reducible rfl); rotate_left; (simp only [Act.put, List.setIfInBounds_toArray, List.set_cons_zero, List.set_cons_succ, i64_w, i32_w]; rfl)
              refine pure_ (i := 10) (N := some 37) (v := ?_) (a' := ?_) #[true, true, true, true, true, true, true, true, true, true, true, false, false] rfl rfl (any_of HT_.out (by kernel_rfl)) (fun _ _ _ h => h) (Or.inl ⟨by rfl, ?_⟩) ?_ ?_
              rotate_left; (intro w'; go_simp; with_reducible rfl); rotate_left; (simp only [Act.put, List.setIfInBounds_toArray, List.set_cons_zero, List.set_cons_succ, i64_w, i32_w]; rfl)
              refine pure_ (i := 11) (N := some 14) (v := ?_) (a' := ?_) #[true, true, true, true, true, true, true, true, true, true, true, true, false] rfl rfl (any_of HT_.out (by kernel_rfl)) (fun _ _ _ h => h) (Or.inl ⟨by rfl, ?_⟩) ?_ ?_
              rotate_left; (intro w'; go_simp; with_reducible rfl); rotate_left; (simp only [Act.put, List.setIfInBounds_toArray, List.set_cons_zero, List.set_cons_succ, i64_w, i32_w]; rfl)
              refine last_ (i := 12) (N := none) #[true, true, true, true, true, true, true, true, true, true, true, true, true] rfl rfl (one_of HT_.out (by kernel_rfl)) (by decide) (fun K hK => ?_)
              have hs21 : w20.cell? ⟨gb266, 0, none⟩ = some (.int .i64 x267000_1) := (blk_cell BK266.out 0).trans rfl
              have hfs21 := blk_frozen BK266.out 0
              have hns21_1 := NB267_266.out
              have hms21_1 := NB266_267.out
              have hs22 : w20.cell? ⟨gb266, 1, none⟩ = some (.int .i64 x267001_1) := (blk_cell BK266.out 1).trans rfl
              have hfs22 := blk_frozen BK266.out 1
              have hns22_1 := NB267_266.out
              have hms22_1 := NB266_267.out
              have hs24 : w20.cell? ⟨gb266, 2, none⟩ = some (.slice Ao19 x267002_1.length co19) := (blk_cell BK266.out 2).trans rfl
              have hfs24 := blk_frozen BK266.out 2
              have hns24_1 := NB267_266.out
              have hms24_1 := NB266_267.out
              refine skip_ (w1 := ?_) (by rfl) rfl ?_ ?_
              rotate_left
              · go_simp
                rfl
              refine hK.out _ _ ?_
              clear hK K
              refine done_ (done_of HT_.out (by kernel_rfl)) ?_
              have hnb25 := NB266_267.out
              have hnc25 := NB267_266.out
              have hcz26_0 : w20.cell? ⟨gb266, 0, none⟩ = some (.int .i64 x267000_1) := (blk_cell BK266.out 0).trans rfl
              have hcz26_1 : w20.cell? ⟨gb266, 1, none⟩ = some (.int .i64 x267001_1) := (blk_cell BK266.out 1).trans rfl
              have hcz26_2 : w20.cell? ⟨gb266, 2, none⟩ = some (.slice Ao19 x267002_1.length co19) := (blk_cell BK266.out 2).trans rfl
              have hfz26_0 := blk_frozen BK266.out 0
              have hfz26_1 := blk_frozen BK266.out 1
              have hfz26_2 := blk_frozen BK266.out 2
              obtain ⟨Ao27, co27, eo27⟩ := Kd.R_slice HO276.out
              subst eo27
              try go_wp2
              have n0_ : Aside0 (Kd.R (Kd.int .u8) 5 (((w20.setCell ⟨gb266, 0, none⟩ (.int .i64 t277)).setCell ⟨gb266, 1, none⟩ (.int .i64 t278)).setCell ⟨gb266, 2, none⟩ (.slice Ao23 t279.length co23)) w.heap.size (fun k_ => (w.heap.size ≤ k_) ∧ some k_ ≠ (v272 : Value).ownBlock ∧ some k_ ≠ (.slice Ao27 t274.length co27 : Value).ownBlock) (.slice Ao15 x12_1.length co15) x12_1) := ⟨by (with_reducible repeat (first | apply Kd.R_alloc | apply Kd.R_drewN | apply Kd.R_drew)); exact Kd.R_mono (Kd.R_far (p := ⟨gb266, 2, none⟩) (Kd.R_far (p := ⟨gb266, 1, none⟩) (Kd.R_far (p := ⟨gb266, 0, none⟩) (Kd.R_types HO_12.out BK266.out (by decide)) (fun _ hk => hk.2) (.int .i64 t277)) (fun _ hk => hk.2) (.int .i64 t278)) (fun _ hk => hk.2) (.slice Ao23 t279.length co23)) (fun _ hk => ⟨hk.1.1.1, ⟨hk.1.1.2, hk.1.2⟩⟩)⟩
              have n1_ : Aside0 (Kd.V k80 80 (((w20.setCell ⟨gb266, 0, none⟩ (.int .i64 t277)).setCell ⟨gb266, 1, none⟩ (.int .i64 t278)).setCell ⟨gb266, 2, none⟩ (.slice Ao23 t279.length co23)) w.heap.size (fun k_ => (P0_2_ k_ ∨ w.heap.size ≤ k_) ∧ some k_ ≠ (.slice Ao15 x12_1.length co15 : Value).ownBlock ∧ some k_ ≠ (v272 : Value).ownBlock ∧ some k_ ≠ (.slice Ao27 t274.length co27 : Value).ownBlock ∧ some k_ ≠ (.slice Ao23 t279.length co23 : Value).ownBlock ∧ k_ ≠ gb266 ∧ k_ ≠ gb267) (.slice Ao19 x267002_1.length co19) x267002_1) := ⟨by (with_reducible repeat (first | apply Kd.V_alloc | apply Kd.V_drewN | apply Kd.V_drew)); exact Kd.V_mono (Kd.V_far (p := ⟨gb266, 2, none⟩) (Kd.V_far (p := ⟨gb266, 1, none⟩) (Kd.V_far (p := ⟨gb266, 0, none⟩) (Kd.V_mono HO_267002.out (fun k_ hk => (⟨hk, hk.1.1.1.2.2.1⟩ : _ ∧ k_ ≠ gb266))) (fun _ hk => hk.2) (.int .i64 t277)) (fun _ hk => hk.2) (.int .i64 t278)) (fun _ hk => hk.2) (.slice Ao23 t279.length co23)) (fun _ hk => ⟨hk.1.1.1.1.1, ⟨hk.1.1.1.1.2.1, ⟨hk.1.1.1.2, ⟨hk.1.1.2, ⟨hk.1.2, ⟨hk.1.1.1.1.2.2.1, hk.1.1.1.1.2.2.2⟩⟩⟩⟩⟩⟩)⟩
              have n2_ : Aside0 (Kd.R (Kd.int .u8) 5 (((w20.setCell ⟨gb266, 0, none⟩ (.int .i64 t277)).setCell ⟨gb266, 1, none⟩ (.int .i64 t278)).setCell ⟨gb266, 2, none⟩ (.slice Ao23 t279.length co23)) w.heap.size (fun k_ => (w.heap.size ≤ k_) ∧ some k_ ≠ (.slice Ao15 x12_1.length co15 : Value).ownBlock ∧ some k_ ≠ (.slice Ao27 t274.length co27 : Value).ownBlock) v272 y271) := ⟨by (with_reducible repeat (first | apply Kd.R_alloc | apply Kd.R_drewN | apply Kd.R_drew)); exact Kd.R_mono (Kd.R_far (p := ⟨gb266, 2, none⟩) (Kd.R_far (p := ⟨gb266, 1, none⟩) (Kd.R_far (p := ⟨gb266, 0, none⟩) (Kd.R_types HO273.out BK266.out (by decide)) (fun _ hk => hk.2) (.int .i64 t277)) (fun _ hk => hk.2) (.int .i64 t278)) (fun _ hk => hk.2) (.slice Ao23 t279.length co23)) (fun _ hk => ⟨hk.1.1.1.1, ⟨hk.1.1.2, hk.1.2⟩⟩)⟩
              have n3_ : Aside0 (Kd.R (Kd.int .u8) 5 (((w20.setCell ⟨gb266, 0, none⟩ (.int .i64 t277)).setCell ⟨gb266, 1, none⟩ (.int .i64 t278)).setCell ⟨gb266, 2, none⟩ (.slice Ao23 t279.length co23)) w.heap.size (fun k_ => (w.heap.size ≤ k_) ∧ some k_ ≠ (.slice Ao15 x12_1.length co15 : Value).ownBlock ∧ some k_ ≠ (v272 : Value).ownBlock) (.slice Ao27 t274.length co27) t274) := ⟨by (with_reducible repeat (first | apply Kd.R_alloc | apply Kd.R_drewN | apply Kd.R_drew)); exact Kd.R_mono (Kd.R_far (p := ⟨gb266, 2, none⟩) (Kd.R_far (p := ⟨gb266, 1, none⟩) (Kd.R_far (p := ⟨gb266, 0, none⟩) (Kd.R_types HO276.out BK266.out (by decide)) (fun _ hk => hk.2) (.int .i64 t277)) (fun _ hk => hk.2) (.int .i64 t278)) (fun _ hk => hk.2) (.slice Ao23 t279.length co23)) (fun _ hk => ⟨hk.1.1.1.1, ⟨hk.1.1.2, hk.1.2⟩⟩)⟩
              have n4_ : Aside0 (Kd.S k80 80 (((w20.setCell ⟨gb266, 0, none⟩ (.int .i64 t277)).setCell ⟨gb266, 1, none⟩ (.int .i64 t278)).setCell ⟨gb266, 2, none⟩ (.slice Ao23 t279.length co23)) w.heap.size (fun k_ => (w.heap.size ≤ k_) ∧ some k_ ≠ (.slice Ao15 x12_1.length co15 : Value).ownBlock ∧ some k_ ≠ (v272 : Value).ownBlock ∧ some k_ ≠ (.slice Ao27 t274.length co27 : Value).ownBlock) (.slice Ao23 t279.length co23) t279) := ⟨by (with_reducible repeat (first | apply Kd.S_alloc | apply Kd.S_drewN | apply Kd.S_drew)); exact Kd.S_mono (Kd.S_far (p := ⟨gb266, 2, none⟩) (Kd.S_far (p := ⟨gb266, 1, none⟩) (Kd.S_far (p := ⟨gb266, 0, none⟩) (Kd.S_types HO281.out BK266.out (by decide)) (fun _ hk => hk.2) (.int .i64 t277)) (fun _ hk => hk.2) (.int .i64 t278)) (fun _ hk => hk.2) (.slice Ao23 t279.length co23)) (fun _ hk => ⟨hk.1.1.1.1, ⟨hk.1.1.2, ⟨hk.1.2, hk.1.1.1.2⟩⟩⟩)⟩
              have n5_ : Aside0 ((((w20.setCell ⟨gb266, 0, none⟩ (.int .i64 t277)).setCell ⟨gb266, 1, none⟩ (.int .i64 t278)).setCell ⟨gb266, 2, none⟩ (.slice Ao23 t279.length co23)).heap[gb266]? = some (.cells #[.int .i64 t277, .int .i64 t278, .slice Ao23 t279.length co23] 25 (0, 0))) := ⟨by (with_reducible repeat (first | refine blk_drewN ?_ _ | refine blk_drew ?_ | refine blk_alloc ?_ _)); refine blk_put (cs := #[.int .i64 t277, .int .i64 t278, .slice Ao19 x267002_1.length co19]) ?_ 2 _ rfl; refine blk_put (cs := #[.int .i64 t277, .int .i64 x267001_1, .slice Ao19 x267002_1.length co19]) ?_ 1 _ rfl; refine blk_put (cs := #[.int .i64 x267000_1, .int .i64 x267001_1, .slice Ao19 x267002_1.length co19]) ?_ 0 _ rfl; (with_reducible repeat (first | refine blk_drewN ?_ _ | refine blk_drew ?_ | refine blk_alloc ?_ _)); exact BK266.out⟩
              have n6_ : Aside0 ((((w20.setCell ⟨gb266, 0, none⟩ (.int .i64 t277)).setCell ⟨gb266, 1, none⟩ (.int .i64 t278)).setCell ⟨gb266, 2, none⟩ (.slice Ao23 t279.length co23)).heap[gb267]? = some (.cells #[.int .i64 0, .int .i64 0, .slice none 0 0] 25 (0, 0))) := ⟨by (with_reducible repeat (first | refine blk_drewN ?_ _ | refine blk_drew ?_ | refine blk_alloc ?_ _)); refine blk_far ?_ NB267_266.out _; refine blk_far ?_ NB267_266.out _; refine blk_far ?_ NB267_266.out _; (with_reducible repeat (first | refine blk_drewN ?_ _ | refine blk_drew ?_ | refine blk_alloc ?_ _)); exact BK267.out⟩
              have n7_ : Aside0 (Below w.heap.size w (((w20.setCell ⟨gb266, 0, none⟩ (.int .i64 t277)).setCell ⟨gb266, 1, none⟩ (.int .i64 t278)).setCell ⟨gb266, 2, none⟩ (.slice Ao23 t279.length co23))) := ⟨by repeat (first | (with_reducible first | exact HB.out | apply below_alloc | apply pw_below_drewN | apply below_drew1 | refine below_set ?_ GE266.out | refine below_set ?_ GE267.out) | exact HB.out)⟩
              (try clear HO_12)
              (try clear HO_267002)
              (try clear HO273)
              (try clear HO276)
              (try clear HO281)
              (try clear BK266)
              (try clear BK267)
              (try clear HB)
              generalize (((w20.setCell ⟨gb266, 0, none⟩ (.int .i64 t277)).setCell ⟨gb266, 1, none⟩ (.int .i64 t278)).setCell ⟨gb266, 2, none⟩ (.slice Ao23 t279.length co23)) = w28 at n0_ n1_ n2_ n3_ n4_ n5_ n6_ n7_ ⊢
              have HO_12 := n0_
              have HO_267002 := n1_
              have HO273 := n2_
              have HO276 := n3_
              have HO281 := n4_
              have BK266 := n5_
              have BK267 := n6_
              have HB := n7_
              clear n0_ n1_ n2_ n3_ n4_ n5_ n6_ n7_
              replace HO_12 := Aside0.mk (Kd.R_drew HO_12.out)
              replace HO_267002 := Aside0.mk (Kd.V_drew HO_267002.out)
              replace HO273 := Aside0.mk (Kd.R_drew HO273.out)
              replace HO276 := Aside0.mk (Kd.R_drew HO276.out)
              replace HO281 := Aside0.mk (Kd.S_drew HO281.out)
              replace BK266 := Aside0.mk (blk_drew BK266.out)
              replace BK267 := Aside0.mk (blk_drew BK267.out)
              replace HB := Aside0.mk (below_drew1 HB.out)
              refine start_ (n := 4) (S := fun w' => w'.cell? ⟨gb266, 0, none⟩ = some (.int .i64 t277) ∧ w'.cell? ⟨gb266, 1, none⟩ = some (.int .i64 t278) ∧ w'.cell? ⟨gb266, 2, none⟩ = some (.slice Ao23 t279.length co23)) (ds := []) #[false, false, false, false] (by kernel_rfl) rfl rfl ⟨(blk_cell BK266.out 0).trans rfl, (blk_cell BK266.out 1).trans rfl, (blk_cell BK266.out 2).trans rfl⟩ (fun hHeld => ?_)
              generalize w28.drew = w29 at HO_12 HO_267002 HO273 HO276 HO281 BK266 BK267 HB hHeld ⊢
              refine pure_ (i := 0) (N := some 68) (v := ?_) (a' := ?_) #[true, false, false, false] rfl rfl (by kernel_rfl) (fun _ _ _ h => h) (Or.inl ⟨by rfl, ?_⟩) ?_ ?_
              rotate_left; (intro w'; go_simp; with_reducible rfl); rotate_left; (simp only [Act.put, List.setIfInBounds_toArray, List.set_cons_zero, List.set_cons_succ, i64_w, i32_w]; rfl)
              refine pure_ (i := 2) (N := some 10) (v := ?_) (a' := ?_) #[true, false, true, false] rfl rfl (by kernel_rfl) (fun _ _ _ h => h) (Or.inl ⟨by rfl, ?_⟩) ?_ ?_
              rotate_left; (intro w'; go_simp; with_reducible rfl); rotate_left; (simp only [Act.put, List.setIfInBounds_toArray, List.set_cons_zero, List.set_cons_succ, i64_w, i32_w]; rfl)
              refine take_ (i := 1) (N := some 69) (v := ?_) (a' := ?_) #[true, true, true, false] rfl rfl (by kernel_rfl) (fun _ _ _ h => h) (Or.inl ⟨by rfl, ?_⟩) hHeld ?_ ?_
              rotate_left; (rintro w' ⟨s0, s1, s2⟩; go_simp; with_reducible rfl); rotate_left; (simp only [Act.put, List.setIfInBounds_toArray, List.set_cons_zero, List.set_cons_succ, i64_w, i32_w]; rfl)
              refine one_ (i := 3) (N := none) #[true, true, true, true] rfl rfl (by kernel_rfl) (by decide) (fun K hK => ?_)
              have hs30 : w29.cell? ⟨gb267, 0, none⟩ = some (.int .i64 0) := (blk_cell BK267.out 0).trans rfl
              have hfs30 := blk_frozen BK267.out 0
              have hns30_0 := NB266_267.out
              have hms30_0 := NB267_266.out
              have hs31 : w29.cell? ⟨gb267, 1, none⟩ = some (.int .i64 0) := (blk_cell BK267.out 1).trans rfl
              have hfs31 := blk_frozen BK267.out 1
              have hns31_0 := NB266_267.out
              have hms31_0 := NB267_266.out
              have hs32 : w29.cell? ⟨gb267, 2, none⟩ = some (.slice none 0 0) := (blk_cell BK267.out 2).trans rfl
              have hfs32 := blk_frozen BK267.out 2
              have hns32_0 := NB266_267.out
              have hms32_0 := NB267_266.out
              refine skip_ (w1 := ?_) (by rfl) rfl ?_ ?_
              rotate_left
              · go_simp
                rfl
              refine hK.out _ _ ⟨((cell_far (p := ⟨gb267, _, none⟩) NB266_267.out _).trans (((cell_far (p := ⟨gb267, _, none⟩) NB266_267.out _).trans (((cell_far (p := ⟨gb267, _, none⟩) NB266_267.out _).trans (hHeld.1)))))), ((cell_far (p := ⟨gb267, _, none⟩) NB266_267.out _).trans (((cell_far (p := ⟨gb267, _, none⟩) NB266_267.out _).trans (((cell_far (p := ⟨gb267, _, none⟩) NB266_267.out _).trans (hHeld.2.1)))))), ((cell_far (p := ⟨gb267, _, none⟩) NB266_267.out _).trans (((cell_far (p := ⟨gb267, _, none⟩) NB266_267.out _).trans (((cell_far (p := ⟨gb267, _, none⟩) NB266_267.out _).trans (hHeld.2.2))))))⟩ (fun hHeld => ?_)
              clear hK K
              refine done_ (by kernel_rfl) ?_
              try go_wp2
              refine bodyPost_ret (results_tc rfl _ _ gb267 25 #[.int .i64 t277, .int .i64 t278, .slice Ao23 t279.length co23] (0, 0) _ rfl (by (with_reducible repeat (first | refine blk_drewN ?_ _ | refine blk_drew ?_ | refine blk_alloc ?_ _)); refine blk_put (cs := #[.int .i64 t277, .int .i64 t278, .slice none 0 0]) ?_ 2 _ rfl; refine blk_put (cs := #[.int .i64 t277, .int .i64 0, .slice none 0 0]) ?_ 1 _ rfl; refine blk_put (cs := #[.int .i64 0, .int .i64 0, .slice none 0 0]) ?_ 0 _ rfl; (with_reducible repeat (first | refine blk_drewN ?_ _ | refine blk_drew ?_ | refine blk_alloc ?_ _)); exact BK267.out) Try.underlying25 rfl (by kernel_rfl)) rfl ?_
              exact ⟨_, _, by first | rfl | (simp [errW_none, errW_some] <;> rfl) | (simp [*, errW_none, errW_some] <;> rfl), by (with_reducible repeat (first | apply Kd.R_alloc | apply Kd.R_drewN | apply Kd.R_drew)); exact Kd.R_mono (Kd.R_far (p := ⟨gb267, 2, none⟩) (Kd.R_far (p := ⟨gb267, 1, none⟩) (Kd.R_far (p := ⟨gb267, 0, none⟩) (Kd.R_types HO_12.out BK267.out (by decide)) (fun _ hk => hk.2) (.int .i64 t277)) (fun _ hk => hk.2) (.int .i64 t278)) (fun _ hk => hk.2) (.slice Ao23 t279.length co23)) (fun _ hk => hk.1.1), Kd.V_mono (Kd.S_V (by (with_reducible repeat (first | apply Kd.S_alloc | apply Kd.S_drewN | apply Kd.S_drew)); exact (Kd.S_far (p := ⟨gb267, 2, none⟩) (Kd.S_far (p := ⟨gb267, 1, none⟩) (Kd.S_far (p := ⟨gb267, 0, none⟩) (Kd.S_types HO281.out BK267.out (by decide)) (fun _ hk => hk.2) (.int .i64 t277)) (fun _ hk => hk.2) (.int .i64 t278)) (fun _ hk => hk.2) (.slice Ao23 t279.length co23)))) (fun k_ hk => by exact ⟨.inr hk.1.1, hk.1.2.1⟩), by repeat (first | (with_reducible first | exact HB.out | apply below_alloc | apply pw_below_drewN | apply below_drew1 | refine below_set ?_ GE266.out | refine below_set ?_ GE267.out) | exact HB.out)⟩
            · rw [if_neg c14] at H
              have c14b0 : decide ((t274.length : Int) ≤ (Int.tmod (wrap64 (a2 + (x12_1.length : Int))) t277)) = false := decide_eq_false c14
              clear c14
              replace H := Option.bind_eq_some_iff.mp H
              obtain ⟨t282, A330, H⟩ := H
              try dsimp only at H
              have A33 := Aside0.mk A330
              clear A330
              obtain ⟨ji34, hji34⟩ : ∃ j_ : Int, (Int.tmod (wrap64 (a2 + (x12_1.length : Int))) t277) = j_ := ⟨_, rfl⟩
              replace H : (if 0 ≤ (ji34) then (if (ji34) ≤ (wrap64 ((ji34) + t282)) then (if (wrap64 ((ji34) + t282)) ≤ (t274.length : Int) then ((some ((t274.take ((wrap64 ((ji34) + t282)) : Int).toNat).drop ((ji34) : Int).toNat : List Int)).bind fun y283 => (if x12_1.length + y283.length < 140737488355328 then ((some (x12_1 ++ y283 : List Int)).bind fun y287 => (if (t274.length : Int) < t277 then (some (y287, t277, t278, t279)) else (spec_l3Range.l0 k1 l1 a2 a3 a4 y287 t277 t278 t279))) else (none))) else (none)) else (none)) else (none)) = some (r1, r2, r3, r4) := by first | (rw [hji34] at H; exact H) | (simp only [hji34] at H ⊢; exact H)
              (try rw [hji34] at c14b0)
              (try rw [hji34] at A12)
              (try rw [hji34] at A33)
              by_cases c35 : 0 ≤ (ji34)
              · rw [if_pos c35] at H
                have c35b0 := eq_true c35
                have c35b1 : decide (0 ≤ (ji34)) = true := decide_eq_true c35
                clear c35
                by_cases c36 : (ji34) ≤ (wrap64 ((ji34) + t282))
                · rw [if_pos c36] at H
                  have c36b0 := eq_true c36
                  have c36b1 : decide ((ji34) ≤ (wrap64 ((ji34) + t282))) = true := decide_eq_true c36
                  by_cases c37 : (wrap64 ((ji34) + t282)) ≤ (t274.length : Int)
                  · rw [if_pos c37] at H
                    have c37b0 := eq_true c37
                    have c37b1 : decide ((wrap64 ((ji34) + t282)) ≤ (t274.length : Int)) = true := decide_eq_true c37
                    obtain ⟨y283, hy283⟩ : ∃ y_ : List Int, y_ = ((t274.take ((wrap64 ((ji34) + t282)) : Int).toNat).drop ((ji34) : Int).toNat) := ⟨_, rfl⟩
                    replace H : (if x12_1.length + y283.length < 140737488355328 then ((some (x12_1 ++ y283 : List Int)).bind fun y287 => (if (t274.length : Int) < t277 then (some (y287, t277, t278, t279)) else (spec_l3Range.l0 k1 l1 a2 a3 a4 y287 t277 t278 t279))) else (none)) = some (r1, r2, r3, r4) := by first | (rw [hy283]; with_reducible exact H) | (have H2_ := (Option.bind_some _ _).symm.trans H; rw [hy283]; with_reducible exact H2_) | (have H2_ := (Option.bind_some _ _).symm.trans H; with_reducible exact H2_) | with_reducible exact H | (rw [hy283]; exact H) | exact H
                    have Ny283 := Aside0.mk hy283
                    clear hy283
                    by_cases c38 : x12_1.length + y283.length < 140737488355328
                    · rw [if_pos c38] at H
                      have LMc38 := Aside0.mk c38
                      clear c38
                      obtain ⟨y287, hy287⟩ : ∃ y_ : List Int, y_ = (x12_1 ++ y283) := ⟨_, rfl⟩
                      replace H : (if (t274.length : Int) < t277 then (some (y287, t277, t278, t279)) else (spec_l3Range.l0 k1 l1 a2 a3 a4 y287 t277 t278 t279)) = some (r1, r2, r3, r4) := by first | (rw [hy287]; with_reducible exact H) | (have H2_ := (Option.bind_some _ _).symm.trans H; rw [hy287]; with_reducible exact H2_) | (have H2_ := (Option.bind_some _ _).symm.trans H; with_reducible exact H2_) | with_reducible exact H | (rw [hy287]; exact H) | exact H
                      have Ny287 := Aside0.mk hy287
                      clear hy287
                      by_cases c39 : (t274.length : Int) < t277
                      · rw [if_pos c39] at H
                        have c39b0 : decide ((t274.length : Int) < t277) = true := decide_eq_true c39
                        clear c39
                        simp only [Option.some.injEq, Prod.mk.injEq] at H
                        obtain ⟨rfl, rfl, rfl, rfl⟩ := H
                        obtain ⟨Ao40, co40, eo40⟩ := Kd.R_slice HO_12.out
                        subst eo40
                        try go_wp2_with (first | ((with_reducible refine gate_dst (N := 26) rfl ?_); refine Kd.R_lit (Kd.int .u8) _ 5 ?hg (N := 26) ?hd (xs := ([] : List Int)) (inner := []) (ok := fun _ => True) (okp := fun _ => True) ?hr ?hp (fun _ hk => hk) trivial (Below.refl _ _) (Nat.le_refl _) (by simp) ?_; (case hd => rfl); (case hg => rfl); (case hr => first | (go_simp; done) | (go_simp; rfl)); (case hp => exact (Reps.none _ _)); intro v272 w41 ho42 hb hg_ hnew_; clear hg_ hnew_; (first | rw [← Ny271.out] at ho42 | (simp only [Int.reduceToNat] at ho42; rw [← Ny271.out] at ho42)); replace HO_267002 := Aside0.mk (Kd.V_elder' (by (with_reducible repeat (first | apply Kd.V_alloc | apply Kd.V_drewN | apply Kd.V_drew)); exact HO_267002.out) (Kd.R_base ho42) hb); have HO273 := Aside0.mk (Kd.R_lower (Kd.R_new' (Kd.R_newM (M := fun k_ => (w.heap.size ≤ k_)) ho42 (below_size (bz HB)) (fun k_ h_ => h_)) (Kd.R_lt (by (with_reducible repeat (first | apply Kd.R_alloc | apply Kd.R_drewN | apply Kd.R_drew)); exact HO_12.out))) (below_size (bz HB))); replace HO_12 := Aside0.mk (Kd.R_elder' (by (with_reducible repeat (first | apply Kd.R_alloc | apply Kd.R_drewN | apply Kd.R_drew)); exact HO_12.out) (Kd.R_base ho42) hb); replace BK266 := bk BK266 hb; replace BK267 := bk BK267 hb; replace HB := Aside0.mk (below_step (bz HB) hb); clear hb ho42))
                        replace HO_12 := Aside0.mk (Kd.R_drew HO_12.out)
                        replace HO_267002 := Aside0.mk (Kd.V_drew HO_267002.out)
                        replace HO273 := Aside0.mk (Kd.R_drew HO273.out)
                        replace BK266 := Aside0.mk (blk_drew BK266.out)
                        replace BK267 := Aside0.mk (blk_drew BK267.out)
                        replace HB := Aside0.mk (below_drew1 HB.out)
                        obtain ⟨Ao44, co44, eo44⟩ := Kd.V_slice HO_267002.out
                        (first | subst eo44 | (injection eo44 with f1_ f2_ f3_; have f4_ := f1_.symm; have f5_ := f3_.symm; clear f1_ f2_ f3_; subst f4_; subst f5_))
                        refine start_ (n := 13) (S := fun w' => w'.cell? ⟨gb266, 0, none⟩ = some (.int .i64 x267000_1) ∧ w'.cell? ⟨gb266, 1, none⟩ = some (.int .i64 x267001_1) ∧ w'.cell? ⟨gb266, 2, none⟩ = some (.slice Ao44 x267002_1.length co44)) (ds := [12]) #[false, false, false, false, false, false, false, false, false, false, false, false, false] (by kernel_rfl) rfl rfl ⟨(blk_cell BK266.out 0).trans rfl, (blk_cell BK266.out 1).trans rfl, (blk_cell BK266.out 2).trans rfl⟩ (fun hHeld => ?_); refine with_tabW spec_l3Range.tab5 spec_l3Range.bits5 (fun HT_ HW_ => ?_)
                        generalize w41.drew = w43 at HO_12 HO_267002 HO273 BK266 BK267 HB hHeld ⊢
                        refine pure_ (i := 1) (N := some 29) (v := ?_) (a' := ?_) #[false, true, false, false, false, false, false, false, false, false, false, false, false] rfl rfl (any_of HT_.out (by kernel_rfl)) (fun _ _ _ h => h) (Or.inl ⟨by rfl, ?_⟩) ?_ ?_
                        rotate_left; (intro w'; go_simp; with_reducible rfl); rotate_left; (simp only [Act.put, List.setIfInBounds_toArray, List.set_cons_zero, List.set_cons_succ, i64_w, i32_w]; rfl)
                        refine pure_ (i := 2) (N := some 30) (v := ?_) (a' := ?_) #[false, true, true, false, false, false, false, false, false, false, false, false, false] rfl rfl (any_of HT_.out (by kernel_rfl)) (fun _ _ _ h => h) (Or.inl ⟨by rfl, ?_⟩) ?_ ?_
                        rotate_left; (intro w'; go_simp; with_reducible rfl); rotate_left; (simp only [Act.put, List.setIfInBounds_toArray, List.set_cons_zero, List.set_cons_succ, i64_w, i32_w]; rfl)
                        refine pure_ (i := 3) (N := some 31) (v := ?_) (a' := ?_) #[false, true, true, true, false, false, false, false, false, false, false, false, false] rfl rfl (any_of HT_.out (by kernel_rfl)) (fun _ _ _ h => h) (Or.inl ⟨by rfl, ?_⟩) ?_ ?_
                        rotate_left; (intro w'; go_simp; with_reducible rfl); rotate_left; (simp only [Act.put, List.setIfInBounds_toArray, List.set_cons_zero, List.set_cons_succ, i64_w, i32_w]; rfl)
                        refine pure_ (i := 6) (N := some 34) (v := ?_) (a' := ?_) #[false, true, true, true, false, false, true, false, false, false, false, false, false] rfl rfl (any_of HT_.out (by kernel_rfl)) (fun _ _ _ h => h) (Or.inl ⟨by rfl, ?_⟩) ?_ ?_
                        rotate_left; (intro w'; go_simp; with_reducible rfl); rotate_left; (simp only [Act.put, List.setIfInBounds_toArray, List.set_cons_zero, List.set_cons_succ, i64_w, i32_w]; rfl)
                        refine take_ (i := 0) (N := some 28) (v := ?_) (a' := ?_) #[true, true, true, true, false, false, true, false, false, false, false, false, false] rfl rfl (take_ofW HT_.out HW_.out (by kernel_rfl)) (fun _ _ _ h => h) (Or.inl ⟨by rfl, ?_⟩) hHeld ?_ ?_
                        rotate_left; (rintro w' ⟨s0, s1, s2⟩; go_simp; with_reducible rfl); rotate_left; (simp only [Act.put, List.setIfInBounds_toArray, List.set_cons_zero, List.set_cons_succ, i64_w, i32_w]; rfl)
                        refine take_ (i := 4) (N := some 32) (v := ?_) (a' := ?_) #[true, true, true, true, true, false, true, false, false, false, false, false, false] rfl rfl (take_ofW HT_.out HW_.out (by kernel_rfl)) (fun _ _ _ h => h) (Or.inl ⟨by rfl, ?_⟩) hHeld ?_ ?_
                        rotate_left; (rintro w' ⟨s0, s1, s2⟩; go_simp; with_reducible rfl); rotate_left; (simp only [Act.put, List.setIfInBounds_toArray, List.set_cons_zero, List.set_cons_succ, i64_w, i32_w]; rfl)
                        refine pure_ (i := 5) (N := some 33) (v := ?_) (a' := ?_) #[true, true, true, true, true, true, true, false, false, false, false, false, false] rfl rfl (any_of HT_.out (by kernel_rfl)) (fun _ _ _ h => h) (Or.inl ⟨by rfl, ?_⟩) ?_ ?_
                        rotate_left; (intro w'; go_simp; with_reducible rfl); rotate_left; (simp only [Act.put, List.setIfInBounds_toArray, List.set_cons_zero, List.set_cons_succ, i64_w, i32_w]; rfl)
                        refine one_ (i := 7) (N := some 35) #[true, true, true, true, true, true, true, true, false, false, false, false, false] rfl rfl (one_of HT_.out (by kernel_rfl)) (by decide) (fun K hK => ?_)
                        refine goes_ Try.func66 (by kernel_rfl) rfl #[.agg #[.int .i64 x267000_1, .int .i64 x267001_1, .slice Ao44 x267002_1.length co44], .pointer A1, .int .i64 (wrap64 (Int.tdiv (wrap64 (a2 + (x12_1.length : Int))) x267000_1)), .int .i64 a4] (by rfl) rfl rfl (by (try simp only [List.map_toArray, List.map_cons, List.map_nil]); first | done | rfl | (simp only [List.length_drop, List.length_take]; rfl)) ?_
                        with_reducible refine (spec_l3Fetch.calls k1 x267000_1 x267001_1 _ _ x267002_1 _ (l1).length l1 (wrap64 (Int.tdiv (wrap64 (a2 + (x12_1.length : Int))) x267000_1)) a4 t274 t277 t278 t279 _ ?side1 ?side2 ?side3 ?side4 A12.out).mono ?_
                        (case side1 => repeat (first | exact (Kd.V_reads' HO_267002.out).2.2 | (with_reducible refine Kd.C_alloc ?_ _) | (with_reducible refine Kd.C_drewN ?_ _) | (with_reducible refine Kd.C_drew ?_)))
                        (case side2 => exact (Kd.V_reads' HO_267002.out).2.1)
                        (case side3 => repeat (first | exact (Kd.C_below HR1.out HB.out) | (with_reducible refine Kd.C_alloc ?_ _) | (with_reducible refine Kd.C_drewN ?_ _) | (with_reducible refine Kd.C_drew ?_)))
                        (case side4 => exact Nat.le_refl _)
                        rintro e w45 ⟨v275, v280, rfl, ho0, ho1, hb⟩
                        refine ⟨_, rfl, ?_⟩
                        replace HO_267002 := Aside0.mk (Kd.V_mono (Kd.V_told (Kd.V_told (Kd.V_old (by (with_reducible repeat (first | apply Kd.V_alloc | apply Kd.V_drewN | apply Kd.V_drew)); exact HO_267002.out) hb) (Kd.R_base ho0)) (Kd.S_base ho1)) (fun _ h_ => h_.1))
                        have HO276 := Aside0.mk (Kd.R_lower (Kd.R_new' (Kd.R_new' (Kd.R_newM (M := fun k_ => (w.heap.size ≤ k_)) ho0 (below_size (bz HB)) (fun k_ h_ => h_)) (Kd.R_lt (by (with_reducible repeat (first | apply Kd.R_alloc | apply Kd.R_drewN | apply Kd.R_drew)); exact HO_12.out))) (Kd.R_lt (by (with_reducible repeat (first | apply Kd.R_alloc | apply Kd.R_drewN | apply Kd.R_drew)); exact HO273.out))) (below_size (bz HB)))
                        have HO281 := Aside0.mk (Kd.S_lower (Kd.S_new' (Kd.S_new' (Kd.S_newM (M := fun k_ => (w.heap.size ≤ k_)) ho1 (below_size (bz HB)) (fun k_ h_ => h_)) (Kd.R_lt (by (with_reducible repeat (first | apply Kd.R_alloc | apply Kd.R_drewN | apply Kd.R_drew)); exact HO_12.out))) (Kd.R_lt (by (with_reducible repeat (first | apply Kd.R_alloc | apply Kd.R_drewN | apply Kd.R_drew)); exact HO273.out))) (below_size (bz HB)))
                        replace HO_12 := Aside0.mk (Kd.R_elder' (by (with_reducible repeat (first | apply Kd.R_alloc | apply Kd.R_drewN | apply Kd.R_drew)); exact HO_12.out) (Kd.R_base ho0) hb)
                        replace HO273 := Aside0.mk (Kd.R_elder' (by (with_reducible repeat (first | apply Kd.R_alloc | apply Kd.R_drewN | apply Kd.R_drew)); exact HO273.out) (Kd.R_base ho0) hb)
                        replace BK266 := bk BK266 hb
                        replace BK267 := bk BK267 hb
                        replace HB := Aside0.mk (below_step (bz HB) hb)
                        (try clear hb)
                        (try clear hb2)
                        (try clear hk)
                        (try clear hi)
                        (try clear ho0)
                        (try clear ho1)
                        obtain ⟨Ao48, co48, eo48⟩ := Kd.S_slice HO281.out
                        (first | subst eo48 | (injection eo48 with f1_ f2_ f3_; have f4_ := f1_.symm; have f5_ := f3_.symm; clear f1_ f2_ f3_; subst f4_; subst f5_))
                        refine hK.out _ _ ⟨(blk_cell BK266.out 0).trans rfl, (blk_cell BK266.out 1).trans rfl, (blk_cell BK266.out 2).trans rfl⟩ (fun hHeld => ?_)
                        clear hK K
                        refine norm_ (a' := ?_) ?_ ?_
                        rotate_left
                        · show Act.put _ (some 35) _ = _
                          simp only [Act.put, List.setIfInBounds_toArray, List.set_cons_zero, List.set_cons_succ, i64_w, i32_w]
                          rfl
                        refine pure_ (i := 8) (N := some 27) (v := ?_) (a' := ?_) #[true, true, true, true, true, true, true, true, true, false, false, false, false] rfl rfl (any_of HT_.out (by kernel_rfl)) (fun _ _ _ h => h) (Or.inl ⟨by rfl, ?_⟩) ?_ ?_
                        rotate_left; (intro w'; go_simp; with_reducible rfl); rotate_left; (simp only [Act.put, List.setIfInBounds_toArray, List.set_cons_zero, List.set_cons_succ, i64_w, i32_w]; rfl)
                        refine pure_ (i := 9) (N := some 36) (v := ?_) (a' := ?_) #[true, true, true, true, true, true, true, true, true, true, false, false, false] rfl rfl (any_of HT_.out (by kernel_rfl)) (fun _ _ _ h => h) (Or.inl ⟨by rfl, ?_⟩) ?_ ?_
                        rotate_left; (intro w'; go_simp; with_reducible rfl); rotate_left; (simp only [Act.put, List.setIfInBounds_toArray, List.set_cons_zero, List.set_cons_succ, i64_w, i32_w]; rfl)
                        refine pure_ (i := 10) (N := some 37) (v := ?_) (a' := ?_) #[true, true, true, true, true, true, true, true, true, true, true, false, false] rfl rfl (any_of HT_.out (by kernel_rfl)) (fun _ _ _ h => h) (Or.inl ⟨by rfl, ?_⟩) ?_ ?_
                        rotate_left; (intro w'; go_simp; with_reducible rfl); rotate_left; (simp only [Act.put, List.setIfInBounds_toArray, List.set_cons_zero, List.set_cons_succ, i64_w, i32_w]; rfl)
                        refine pure_ (i := 11) (N := some 14) (v := ?_) (a' := ?_) #[true, true, true, true, true, true, true, true, true, true, true, true, false] rfl rfl (any_of HT_.out (by kernel_rfl)) (fun _ _ _ h => h) (Or.inl ⟨by rfl, ?_⟩) ?_ ?_
                        rotate_left; (intro w'; go_simp; with_reducible rfl); rotate_left; (simp only [Act.put, List.setIfInBounds_toArray, List.set_cons_zero, List.set_cons_succ, i64_w, i32_w]; rfl)
                        refine last_ (i := 12) (N := none) #[true, true, true, true, true, true, true, true, true, true, true, true, true] rfl rfl (one_of HT_.out (by kernel_rfl)) (by decide) (fun K hK => ?_)
                        have hs46 : w45.cell? ⟨gb266, 0, none⟩ = some (.int .i64 x267000_1) := (blk_cell BK266.out 0).trans rfl
                        have hfs46 := blk_frozen BK266.out 0
                        have hns46_1 := NB267_266.out
                        have hms46_1 := NB266_267.out
                        have hs47 : w45.cell? ⟨gb266, 1, none⟩ = some (.int .i64 x267001_1) := (blk_cell BK266.out 1).trans rfl
                        have hfs47 := blk_frozen BK266.out 1
                        have hns47_1 := NB267_266.out
                        have hms47_1 := NB266_267.out
                        have hs49 : w45.cell? ⟨gb266, 2, none⟩ = some (.slice Ao44 x267002_1.length co44) := (blk_cell BK266.out 2).trans rfl
                        have hfs49 := blk_frozen BK266.out 2
                        have hns49_1 := NB267_266.out
                        have hms49_1 := NB266_267.out
                        refine skip_ (w1 := ?_) (by rfl) rfl ?_ ?_
                        rotate_left
                        · go_simp
                          rfl
                        refine hK.out _ _ ?_
                        clear hK K
                        refine done_ (done_of HT_.out (by kernel_rfl)) ?_
                        have n0_ : Aside0 (Kd.R (Kd.int .u8) 5 (((w45.setCell ⟨gb266, 0, none⟩ (.int .i64 t277)).setCell ⟨gb266, 1, none⟩ (.int .i64 t278)).setCell ⟨gb266, 2, none⟩ (.slice Ao48 t279.length co48)) w.heap.size (fun k_ => (w.heap.size ≤ k_) ∧ some k_ ≠ (v272 : Value).ownBlock ∧ some k_ ≠ (v275 : Value).ownBlock) (.slice Ao40 x12_1.length co40) x12_1) := ⟨by (with_reducible repeat (first | apply Kd.R_alloc | apply Kd.R_drewN | apply Kd.R_drew)); exact Kd.R_mono (Kd.R_far (p := ⟨gb266, 2, none⟩) (Kd.R_far (p := ⟨gb266, 1, none⟩) (Kd.R_far (p := ⟨gb266, 0, none⟩) (Kd.R_types HO_12.out BK266.out (by decide)) (fun _ hk => hk.2) (.int .i64 t277)) (fun _ hk => hk.2) (.int .i64 t278)) (fun _ hk => hk.2) (.slice Ao48 t279.length co48)) (fun _ hk => ⟨hk.1.1.1, ⟨hk.1.1.2, hk.1.2⟩⟩)⟩
                        have n1_ : Aside0 (Kd.V k80 80 (((w45.setCell ⟨gb266, 0, none⟩ (.int .i64 t277)).setCell ⟨gb266, 1, none⟩ (.int .i64 t278)).setCell ⟨gb266, 2, none⟩ (.slice Ao48 t279.length co48)) w.heap.size (fun k_ => (P0_2_ k_ ∨ w.heap.size ≤ k_) ∧ some k_ ≠ (.slice Ao40 x12_1.length co40 : Value).ownBlock ∧ some k_ ≠ (v272 : Value).ownBlock ∧ some k_ ≠ (v275 : Value).ownBlock ∧ some k_ ≠ (.slice Ao48 t279.length co48 : Value).ownBlock ∧ k_ ≠ gb266 ∧ k_ ≠ gb267) (.slice Ao44 x267002_1.length co44) x267002_1) := ⟨by (with_reducible repeat (first | apply Kd.V_alloc | apply Kd.V_drewN | apply Kd.V_drew)); exact Kd.V_mono (Kd.V_far (p := ⟨gb266, 2, none⟩) (Kd.V_far (p := ⟨gb266, 1, none⟩) (Kd.V_far (p := ⟨gb266, 0, none⟩) (Kd.V_mono HO_267002.out (fun k_ hk => (⟨hk, hk.1.1.1.2.2.1⟩ : _ ∧ k_ ≠ gb266))) (fun _ hk => hk.2) (.int .i64 t277)) (fun _ hk => hk.2) (.int .i64 t278)) (fun _ hk => hk.2) (.slice Ao48 t279.length co48)) (fun _ hk => ⟨hk.1.1.1.1.1, ⟨hk.1.1.1.1.2.1, ⟨hk.1.1.1.2, ⟨hk.1.1.2, ⟨hk.1.2, ⟨hk.1.1.1.1.2.2.1, hk.1.1.1.1.2.2.2⟩⟩⟩⟩⟩⟩)⟩
                        have n2_ : Aside0 (Kd.R (Kd.int .u8) 5 (((w45.setCell ⟨gb266, 0, none⟩ (.int .i64 t277)).setCell ⟨gb266, 1, none⟩ (.int .i64 t278)).setCell ⟨gb266, 2, none⟩ (.slice Ao48 t279.length co48)) w.heap.size (fun k_ => (w.heap.size ≤ k_) ∧ some k_ ≠ (.slice Ao40 x12_1.length co40 : Value).ownBlock ∧ some k_ ≠ (v275 : Value).ownBlock) v272 y271) := ⟨by (with_reducible repeat (first | apply Kd.R_alloc | apply Kd.R_drewN | apply Kd.R_drew)); exact Kd.R_mono (Kd.R_far (p := ⟨gb266, 2, none⟩) (Kd.R_far (p := ⟨gb266, 1, none⟩) (Kd.R_far (p := ⟨gb266, 0, none⟩) (Kd.R_types HO273.out BK266.out (by decide)) (fun _ hk => hk.2) (.int .i64 t277)) (fun _ hk => hk.2) (.int .i64 t278)) (fun _ hk => hk.2) (.slice Ao48 t279.length co48)) (fun _ hk => ⟨hk.1.1.1.1, ⟨hk.1.1.2, hk.1.2⟩⟩)⟩
                        have n3_ : Aside0 (Kd.R (Kd.int .u8) 5 (((w45.setCell ⟨gb266, 0, none⟩ (.int .i64 t277)).setCell ⟨gb266, 1, none⟩ (.int .i64 t278)).setCell ⟨gb266, 2, none⟩ (.slice Ao48 t279.length co48)) w.heap.size (fun k_ => (w.heap.size ≤ k_) ∧ some k_ ≠ (.slice Ao40 x12_1.length co40 : Value).ownBlock ∧ some k_ ≠ (v272 : Value).ownBlock) v275 t274) := ⟨by (with_reducible repeat (first | apply Kd.R_alloc | apply Kd.R_drewN | apply Kd.R_drew)); exact Kd.R_mono (Kd.R_far (p := ⟨gb266, 2, none⟩) (Kd.R_far (p := ⟨gb266, 1, none⟩) (Kd.R_far (p := ⟨gb266, 0, none⟩) (Kd.R_types HO276.out BK266.out (by decide)) (fun _ hk => hk.2) (.int .i64 t277)) (fun _ hk => hk.2) (.int .i64 t278)) (fun _ hk => hk.2) (.slice Ao48 t279.length co48)) (fun _ hk => ⟨hk.1.1.1.1, ⟨hk.1.1.2, hk.1.2⟩⟩)⟩
                        have n4_ : Aside0 (Kd.S k80 80 (((w45.setCell ⟨gb266, 0, none⟩ (.int .i64 t277)).setCell ⟨gb266, 1, none⟩ (.int .i64 t278)).setCell ⟨gb266, 2, none⟩ (.slice Ao48 t279.length co48)) w.heap.size (fun k_ => (w.heap.size ≤ k_) ∧ some k_ ≠ (.slice Ao40 x12_1.length co40 : Value).ownBlock ∧ some k_ ≠ (v272 : Value).ownBlock ∧ some k_ ≠ (v275 : Value).ownBlock) (.slice Ao48 t279.length co48) t279) := ⟨by (with_reducible repeat (first | apply Kd.S_alloc | apply Kd.S_drewN | apply Kd.S_drew)); exact Kd.S_mono (Kd.S_far (p := ⟨gb266, 2, none⟩) (Kd.S_far (p := ⟨gb266, 1, none⟩) (Kd.S_far (p := ⟨gb266, 0, none⟩) (Kd.S_types HO281.out BK266.out (by decide)) (fun _ hk => hk.2) (.int .i64 t277)) (fun _ hk => hk.2) (.int .i64 t278)) (fun _ hk => hk.2) (.slice Ao48 t279.length co48)) (fun _ hk => ⟨hk.1.1.1.1, ⟨hk.1.1.2, ⟨hk.1.2, hk.1.1.1.2⟩⟩⟩)⟩
                        have n5_ : Aside0 ((((w45.setCell ⟨gb266, 0, none⟩ (.int .i64 t277)).setCell ⟨gb266, 1, none⟩ (.int .i64 t278)).setCell ⟨gb266, 2, none⟩ (.slice Ao48 t279.length co48)).heap[gb266]? = some (.cells #[.int .i64 t277, .int .i64 t278, .slice Ao48 t279.length co48] 25 (0, 0))) := ⟨by (with_reducible repeat (first | refine blk_drewN ?_ _ | refine blk_drew ?_ | refine blk_alloc ?_ _)); refine blk_put (cs := #[.int .i64 t277, .int .i64 t278, .slice Ao44 x267002_1.length co44]) ?_ 2 _ rfl; refine blk_put (cs := #[.int .i64 t277, .int .i64 x267001_1, .slice Ao44 x267002_1.length co44]) ?_ 1 _ rfl; refine blk_put (cs := #[.int .i64 x267000_1, .int .i64 x267001_1, .slice Ao44 x267002_1.length co44]) ?_ 0 _ rfl; (with_reducible repeat (first | refine blk_drewN ?_ _ | refine blk_drew ?_ | refine blk_alloc ?_ _)); exact BK266.out⟩
                        have n6_ : Aside0 ((((w45.setCell ⟨gb266, 0, none⟩ (.int .i64 t277)).setCell ⟨gb266, 1, none⟩ (.int .i64 t278)).setCell ⟨gb266, 2, none⟩ (.slice Ao48 t279.length co48)).heap[gb267]? = some (.cells #[.int .i64 0, .int .i64 0, .slice none 0 0] 25 (0, 0))) := ⟨by (with_reducible repeat (first | refine blk_drewN ?_ _ | refine blk_drew ?_ | refine blk_alloc ?_ _)); refine blk_far ?_ NB267_266.out _; refine blk_far ?_ NB267_266.out _; refine blk_far ?_ NB267_266.out _; (with_reducible repeat (first | refine blk_drewN ?_ _ | refine blk_drew ?_ | refine blk_alloc ?_ _)); exact BK267.out⟩
                        have n7_ : Aside0 (Below w.heap.size w (((w45.setCell ⟨gb266, 0, none⟩ (.int .i64 t277)).setCell ⟨gb266, 1, none⟩ (.int .i64 t278)).setCell ⟨gb266, 2, none⟩ (.slice Ao48 t279.length co48))) := ⟨by repeat (first | (with_reducible first | exact HB.out | apply below_alloc | apply pw_below_drewN | apply below_drew1 | refine below_set ?_ GE266.out | refine below_set ?_ GE267.out) | exact HB.out)⟩
                        (try clear HO_12)
                        (try clear HO_267002)
                        (try clear HO273)
                        (try clear HO276)
                        (try clear HO281)
                        (try clear BK266)
                        (try clear BK267)
                        (try clear HB)
                        generalize (((w45.setCell ⟨gb266, 0, none⟩ (.int .i64 t277)).setCell ⟨gb266, 1, none⟩ (.int .i64 t278)).setCell ⟨gb266, 2, none⟩ (.slice Ao48 t279.length co48)) = w50 at n0_ n1_ n2_ n3_ n4_ n5_ n6_ n7_ ⊢
                        have HO_12 := n0_
                        have HO_267002 := n1_
                        have HO273 := n2_
                        have HO276 := n3_
                        have HO281 := n4_
                        have BK266 := n5_
                        have BK267 := n6_
                        have HB := n7_
                        clear n0_ n1_ n2_ n3_ n4_ n5_ n6_ n7_
                        have hnb51 := NB266_267.out
                        have hnc51 := NB267_266.out
                        have hcz52_0 : w50.cell? ⟨gb266, 0, none⟩ = some (.int .i64 t277) := (blk_cell BK266.out 0).trans rfl
                        have hcz52_1 : w50.cell? ⟨gb266, 1, none⟩ = some (.int .i64 t278) := (blk_cell BK266.out 1).trans rfl
                        have hcz52_2 : w50.cell? ⟨gb266, 2, none⟩ = some (.slice Ao48 t279.length co48) := (blk_cell BK266.out 2).trans rfl
                        have hfz52_0 := blk_frozen BK266.out 0
                        have hfz52_1 := blk_frozen BK266.out 1
                        have hfz52_2 := blk_frozen BK266.out 2
                        obtain ⟨Ao53, co53, eo53⟩ := Kd.R_slice HO276.out
                        subst eo53
                        try go_wp2_with (first | ((with_reducible refine gate_callee (f := 94) rfl ?_); refine goesL_ (some 54) rfl rfl Try.func94 (by kernel_rfl) rfl #[.int .i64 (wrap64 (a3 - (x12_1.length : Int))), .int .i64 (wrap64 ((t274.length : Int) - (ji34)))] rfl (by (try simp only [List.map_toArray, List.map_cons, List.map_nil]); first | done | (simp only [hji34]; rfl) | rfl | (simp only [List.length_drop, List.length_take]; rfl)) ?_; (with_reducible refine (spec_l1Min.calls (wrap64 (a3 - (x12_1.length : Int))) (wrap64 ((t274.length : Int) - (ji34))) t282 _ A33.out).mono ?_); rintro e w' ⟨rfl, ⟨nd, rfl⟩⟩; refine ⟨_, rfl, ?_⟩; have q54 : ((wrap64 ((ji34) + t282)) : Int) ≤ ((t274.length : Int) : Int) := of_decide_eq_true (by first | (with_reducible assumption) | assumption); obtain ⟨i054, hi054, _, hsz54, _⟩ := info_parts info5; have hroom54 : t274.length ≤ co53 := (Kd.R_reads' HO276.out).2.1; have hC54 : Kd.C (Kd.int .u8) _ Ao53 t274.length t274 := (Kd.R_reads' HO276.out).2.2; have ql54 : ((ji34) : Int) ≤ ((wrap64 ((ji34) + t282)) : Int) := of_decide_eq_true (by first | (with_reducible assumption) | assumption); have q054 : (0 : Int) ≤ ((ji34) : Int) := of_decide_eq_true (by first | (with_reducible assumption) | assumption); have hcut54 := cut_mid (P := Try.prog) 22 5 .i64 .i64 Try.underlying22 hi054 1 hsz54 Ao53 t274.length co53 (ji34) (wrap64 ((ji34) + t282)) q054 ql54 q54 hroom54; have hr54 := Kd.C_mid (lo := ((ji34) : Int).toNat) (hi := ((wrap64 ((ji34) + t282)) : Int).toNat) (c := co53) hC54 (by omega) (by omega) hroom54; obtain ⟨A54, hA54⟩ : ∃ A1, A1 = (if co53 = ((ji34) : Int).toNat then Ao53 else (Ao53 : Option Addr).map (·.add (((ji34) : Int).toNat * 1))) := ⟨_, rfl⟩; obtain ⟨c54, hc54⟩ : ∃ c1, c1 = co53 - ((ji34) : Int).toNat := ⟨_, rfl⟩; have hy54 : y283.length = ((wrap64 ((ji34) + t282)) : Int).toNat - ((ji34) : Int).toNat := (by rw [Ny283.out, List.length_drop, List.length_take] <;> omega); rw [show ((t274).take ((wrap64 ((ji34) + t282)) : Int).toNat).drop ((ji34) : Int).toNat = y283 from Ny283.out.symm] at hr54; replace hr54 : Kd.C (Kd.int .u8) _ A54 y283.length y283 := (by rw [hA54]; exact hr54); rw [← hy54, ← hA54, ← hc54] at hcut54; have HR286 := Aside0.mk hr54; have HC286 := Aside0.mk (show y283.length ≤ c54 from by rw [hy54, hc54]; exact Nat.sub_le_sub_right (Nat.le_trans (by omega) hroom54) _); clear hr54 hC54 hroom54 hi054 hsz54 hc54; have KY54 := Aside0.mk hy54; have KA54 := Aside0.mk hA54; clear hy54 hA54; have KL54 := Aside0.mk (show ((wrap64 ((ji34) + t282)) : Int).toNat ≤ t274.length from by omega); have KM54 := Aside0.mk (show ((ji34) : Int).toNat ≤ ((wrap64 ((ji34) + t282)) : Int).toNat from by omega); replace q54 := eq_true q54) | ((with_reducible refine gate_builtin (b := .append) (xs := #[.tmp 55, .tmp 61]) rfl ?_); at_builtin; refine Kd.R_append_rows (Kd.int .u8) (w0 := w) w.heap.size rfl (.tmp 55) (.tmp 61) 22 5 (.int .u8 0) 1 rfl Try.underlying22 info5 rfl (by decide) (by omega) (.slice Ao40 x12_1.length co40) x12_1 y283 _ _ _ (fun k_ => (w.heap.size ≤ k_) ∧ some k_ ≠ (v272 : Value).ownBlock ∧ some k_ ≠ (.slice Ao53 t274.length co53 : Value).ownBlock) (fun _ => False) rfl rfl ?aO ?aR (fun _ _ h => h) (fun _ h => h.elim) ?aF ?aB ?aS ?aL ?_; (case aR => repeat (first | exact (by repeat (first | (with_reducible exact HR286.out) | (with_reducible refine Kd.C_alloc ?_ _) | (with_reducible refine Kd.C_drewN ?_ _) | (with_reducible refine Kd.C_drew ?_) | exact HR286.out)) | (with_reducible refine Kd.C_alloc ?_ _) | (with_reducible refine Kd.C_drewN ?_ _) | (with_reducible refine Kd.C_drew ?_))); (case aB => exact (bz HB)); (case aF => exact (fun k_ hk => ⟨(Nat.le_trans (below_size (bz HB)) hk), Kd.fresh' (Kd.R_lt (by (with_reducible repeat (first | apply Kd.R_alloc | apply Kd.R_drewN | apply Kd.R_drew)); exact HO273.out)) k_ hk, Kd.fresh' (Kd.R_lt (by (with_reducible repeat (first | apply Kd.R_alloc | apply Kd.R_drewN | apply Kd.R_drew)); exact HO276.out)) k_ hk⟩)); (case aO => exact (by (with_reducible repeat (first | apply Kd.R_alloc | apply Kd.R_drewN | apply Kd.R_drew)); exact HO_12.out)); (case aS => exact (below_size (bz HB))); (case aL => have := LMc38.out; omega); intro v288 w55 ho hb hg hat; rw [← Ny287.out] at ho; have n0_ := Aside0.mk (Kd.V_afterv (ok := (fun k_ => (P0_2_ k_ ∨ w.heap.size ≤ k_) ∧ some k_ ≠ (v272 : Value).ownBlock ∧ some k_ ≠ (.slice Ao53 t274.length co53 : Value).ownBlock ∧ some k_ ≠ (.slice Ao48 t279.length co48 : Value).ownBlock ∧ k_ ≠ gb266 ∧ k_ ≠ gb267)) (by (with_reducible repeat (first | apply Kd.V_alloc | apply Kd.V_drewN | apply Kd.V_drew)); exact Kd.V_mono HO_267002.out (fun _ hk => ⟨⟨hk.1, ⟨hk.2.2.1, ⟨hk.2.2.2.1, ⟨hk.2.2.2.2.1, ⟨hk.2.2.2.2.2.1, hk.2.2.2.2.2.2⟩⟩⟩⟩⟩, hk.2.1⟩)) hg hat); have n1_ := Aside0.mk (blk_grown (g := gb266) (o := .cells #[.int .i64 t277, .int .i64 t278, .slice Ao48 t279.length co48] 25 (0, 0)) (by (with_reducible repeat (first | refine blk_drewN ?_ _ | refine blk_drew ?_ | refine blk_alloc ?_ _)); exact BK266.out) hg (Kd.R_ne HO_12.out BK266.out (by decide))); have n2_ := Aside0.mk (blk_grown (g := gb267) (o := .cells #[.int .i64 0, .int .i64 0, .slice none 0 0] 25 (0, 0)) (by (with_reducible repeat (first | refine blk_drewN ?_ _ | refine blk_drew ?_ | refine blk_alloc ?_ _)); exact BK267.out) hg (Kd.R_ne HO_12.out BK267.out (by decide))); have n3_ := Aside0.mk (Kd.R_after (ok := (fun k_ => (w.heap.size ≤ k_) ∧ some k_ ≠ (.slice Ao53 t274.length co53 : Value).ownBlock)) (by (with_reducible repeat (first | apply Kd.R_alloc | apply Kd.R_drewN | apply Kd.R_drew)); exact Kd.R_mono HO273.out (fun _ hk => ⟨⟨hk.1, hk.2.2⟩, hk.2.1⟩)) hg hat); have n4_ := Aside0.mk (Kd.R_after (ok := (fun k_ => (w.heap.size ≤ k_) ∧ some k_ ≠ (v272 : Value).ownBlock)) (by (with_reducible repeat (first | apply Kd.R_alloc | apply Kd.R_drewN | apply Kd.R_drew)); exact Kd.R_mono HO276.out (fun _ hk => ⟨⟨hk.1, hk.2.2⟩, hk.2.1⟩)) hg hat); have n5_ := Aside0.mk (Kd.S_after (ok := (fun k_ => (w.heap.size ≤ k_) ∧ some k_ ≠ (v272 : Value).ownBlock ∧ some k_ ≠ (.slice Ao53 t274.length co53 : Value).ownBlock)) (by (with_reducible repeat (first | apply Kd.S_alloc | apply Kd.S_drewN | apply Kd.S_drew)); exact Kd.S_mono HO281.out (fun _ hk => ⟨⟨hk.1, ⟨hk.2.2.1, hk.2.2.2⟩⟩, hk.2.1⟩)) hg hat); have n6_ := Aside0.mk (hb); have n7_ := Aside0.mk ((show Kd.C (Kd.int .u8) w55 A54 y283.length y283 from by rw [Ny283.out, KA54.out]; exact Kd.C_mid (lo := ((ji34) : Int).toNat) (hi := ((wrap64 ((ji34) + t282)) : Int).toNat) (c := co53) ((Kd.R_reads' (Kd.R_after (ok := (fun k_ => (w.heap.size ≤ k_) ∧ some k_ ≠ (v272 : Value).ownBlock)) (by (with_reducible repeat (first | apply Kd.R_alloc | apply Kd.R_drewN | apply Kd.R_drew)); exact Kd.R_mono HO276.out (fun _ hk => ⟨⟨hk.1, hk.2.2⟩, hk.2.1⟩)) hg hat)).2.2) KM54.out KL54.out ((Kd.R_reads' (Kd.R_after (ok := (fun k_ => (w.heap.size ≤ k_) ∧ some k_ ≠ (v272 : Value).ownBlock)) (by (with_reducible repeat (first | apply Kd.R_alloc | apply Kd.R_drewN | apply Kd.R_drew)); exact Kd.R_mono HO276.out (fun _ hk => ⟨⟨hk.1, hk.2.2⟩, hk.2.1⟩)) hg hat)).2.1))); have n8_ := Aside0.mk (ho); clear HO_267002; clear BK266; clear BK267; clear HO273; clear HO276; clear HO281; clear HB; clear HR286; clear HO_12; have HO_267002 := n0_; have BK266 := n1_; have BK267 := n2_; have HO273 := n3_; have HO276 := n4_; have HO281 := n5_; have HB := n6_; have HR286 := n7_; have HO289 := n8_; clear n0_ n1_ n2_ n3_ n4_ n5_ n6_ n7_ n8_; clear ho hb hg hat; have hcz56_0 : w55.cell? ⟨gb266, 0, none⟩ = some (.int .i64 t277) := (blk_cell BK266.out 0).trans rfl; have hcz56_1 : w55.cell? ⟨gb266, 1, none⟩ = some (.int .i64 t278) := (blk_cell BK266.out 1).trans rfl; have hcz56_2 : w55.cell? ⟨gb266, 2, none⟩ = some (.slice Ao48 t279.length co48) := (blk_cell BK266.out 2).trans rfl; have hfz56_0 := blk_frozen BK266.out 0; have hfz56_1 := blk_frozen BK266.out 1; have hfz56_2 := blk_frozen BK266.out 2))
                        replace HO_267002 := Aside0.mk (Kd.V_drew HO_267002.out)
                        replace HO273 := Aside0.mk (Kd.R_drew HO273.out)
                        replace HO276 := Aside0.mk (Kd.R_drew HO276.out)
                        replace HO281 := Aside0.mk (Kd.S_drew HO281.out)
                        replace HO289 := Aside0.mk (Kd.R_drew HO289.out)
                        replace BK266 := Aside0.mk (blk_drew BK266.out)
                        replace BK267 := Aside0.mk (blk_drew BK267.out)
                        replace HR286 := Aside0.mk (Kd.C_drew HR286.out)
                        replace HB := Aside0.mk (below_drew1 HB.out)
                        refine start_ (n := 4) (S := fun w' => w'.cell? ⟨gb266, 0, none⟩ = some (.int .i64 t277) ∧ w'.cell? ⟨gb266, 1, none⟩ = some (.int .i64 t278) ∧ w'.cell? ⟨gb266, 2, none⟩ = some (.slice Ao48 t279.length co48)) (ds := []) #[false, false, false, false] (by kernel_rfl) rfl rfl ⟨(blk_cell BK266.out 0).trans rfl, (blk_cell BK266.out 1).trans rfl, (blk_cell BK266.out 2).trans rfl⟩ (fun hHeld => ?_)
                        generalize w55.drew = w57 at HO_267002 HO273 HO276 HO281 HO289 BK266 BK267 HR286 HB hHeld ⊢
                        refine pure_ (i := 0) (N := some 68) (v := ?_) (a' := ?_) #[true, false, false, false] rfl rfl (by kernel_rfl) (fun _ _ _ h => h) (Or.inl ⟨by rfl, ?_⟩) ?_ ?_
                        rotate_left; (intro w'; go_simp; with_reducible rfl); rotate_left; (simp only [Act.put, List.setIfInBounds_toArray, List.set_cons_zero, List.set_cons_succ, i64_w, i32_w]; rfl)
                        refine pure_ (i := 2) (N := some 10) (v := ?_) (a' := ?_) #[true, false, true, false] rfl rfl (by kernel_rfl) (fun _ _ _ h => h) (Or.inl ⟨by rfl, ?_⟩) ?_ ?_
                        rotate_left; (intro w'; go_simp; with_reducible rfl); rotate_left; (simp only [Act.put, List.setIfInBounds_toArray, List.set_cons_zero, List.set_cons_succ, i64_w, i32_w]; rfl)
                        refine take_ (i := 1) (N := some 69) (v := ?_) (a' := ?_) #[true, true, true, false] rfl rfl (by kernel_rfl) (fun _ _ _ h => h) (Or.inl ⟨by rfl, ?_⟩) hHeld ?_ ?_
                        rotate_left; (rintro w' ⟨s0, s1, s2⟩; go_simp; with_reducible rfl); rotate_left; (simp only [Act.put, List.setIfInBounds_toArray, List.set_cons_zero, List.set_cons_succ, i64_w, i32_w]; rfl)
                        refine one_ (i := 3) (N := none) #[true, true, true, true] rfl rfl (by kernel_rfl) (by decide) (fun K hK => ?_)
                        have hs58 : w57.cell? ⟨gb267, 0, none⟩ = some (.int .i64 0) := (blk_cell BK267.out 0).trans rfl
                        have hfs58 := blk_frozen BK267.out 0
                        have hns58_0 := NB266_267.out
                        have hms58_0 := NB267_266.out
                        have hs59 : w57.cell? ⟨gb267, 1, none⟩ = some (.int .i64 0) := (blk_cell BK267.out 1).trans rfl
                        have hfs59 := blk_frozen BK267.out 1
                        have hns59_0 := NB266_267.out
                        have hms59_0 := NB267_266.out
                        have hs60 : w57.cell? ⟨gb267, 2, none⟩ = some (.slice none 0 0) := (blk_cell BK267.out 2).trans rfl
                        have hfs60 := blk_frozen BK267.out 2
                        have hns60_0 := NB266_267.out
                        have hms60_0 := NB267_266.out
                        refine skip_ (w1 := ?_) (by rfl) rfl ?_ ?_
                        rotate_left
                        · go_simp
                          rfl
                        refine hK.out _ _ ⟨((cell_far (p := ⟨gb267, _, none⟩) NB266_267.out _).trans (((cell_far (p := ⟨gb267, _, none⟩) NB266_267.out _).trans (((cell_far (p := ⟨gb267, _, none⟩) NB266_267.out _).trans (hHeld.1)))))), ((cell_far (p := ⟨gb267, _, none⟩) NB266_267.out _).trans (((cell_far (p := ⟨gb267, _, none⟩) NB266_267.out _).trans (((cell_far (p := ⟨gb267, _, none⟩) NB266_267.out _).trans (hHeld.2.1)))))), ((cell_far (p := ⟨gb267, _, none⟩) NB266_267.out _).trans (((cell_far (p := ⟨gb267, _, none⟩) NB266_267.out _).trans (((cell_far (p := ⟨gb267, _, none⟩) NB266_267.out _).trans (hHeld.2.2))))))⟩ (fun hHeld => ?_)
                        clear hK K
                        refine done_ (by kernel_rfl) ?_
                        try go_wp2
                        refine bodyPost_ret (results_tc rfl _ _ gb267 25 #[.int .i64 t277, .int .i64 t278, .slice Ao48 t279.length co48] (0, 0) _ rfl (by (with_reducible repeat (first | refine blk_drewN ?_ _ | refine blk_drew ?_ | refine blk_alloc ?_ _)); refine blk_put (cs := #[.int .i64 t277, .int .i64 t278, .slice none 0 0]) ?_ 2 _ rfl; refine blk_put (cs := #[.int .i64 t277, .int .i64 0, .slice none 0 0]) ?_ 1 _ rfl; refine blk_put (cs := #[.int .i64 0, .int .i64 0, .slice none 0 0]) ?_ 0 _ rfl; (with_reducible repeat (first | refine blk_drewN ?_ _ | refine blk_drew ?_ | refine blk_alloc ?_ _)); exact BK267.out) Try.underlying25 rfl (by kernel_rfl)) rfl ?_
                        exact ⟨_, _, by first | rfl | (simp [errW_none, errW_some] <;> rfl) | (simp only [← hji34]; first | rfl | (simp [errW_none, errW_some] <;> rfl)) | (simp [*, errW_none, errW_some] <;> rfl), by (with_reducible repeat (first | apply Kd.R_alloc | apply Kd.R_drewN | apply Kd.R_drew)); exact Kd.R_mono (Kd.R_far (p := ⟨gb267, 2, none⟩) (Kd.R_far (p := ⟨gb267, 1, none⟩) (Kd.R_far (p := ⟨gb267, 0, none⟩) (Kd.R_types HO289.out BK267.out (by decide)) (fun _ hk => hk.2) (.int .i64 t277)) (fun _ hk => hk.2) (.int .i64 t278)) (fun _ hk => hk.2) (.slice Ao48 t279.length co48)) (fun _ hk => hk.1.1), Kd.V_mono (Kd.S_V (by (with_reducible repeat (first | apply Kd.S_alloc | apply Kd.S_drewN | apply Kd.S_drew)); exact (Kd.S_far (p := ⟨gb267, 2, none⟩) (Kd.S_far (p := ⟨gb267, 1, none⟩) (Kd.S_far (p := ⟨gb267, 0, none⟩) (Kd.S_types HO281.out BK267.out (by decide)) (fun _ hk => hk.2) (.int .i64 t277)) (fun _ hk => hk.2) (.int .i64 t278)) (fun _ hk => hk.2) (.slice Ao48 t279.length co48)))) (fun k_ hk => by exact ⟨.inr hk.1.1.1, hk.1.2⟩), by repeat (first | (with_reducible first | exact HB.out | apply below_alloc | apply pw_below_drewN | apply below_drew1 | refine below_set ?_ GE266.out | refine below_set ?_ GE267.out) | exact HB.out)⟩
                      · rw [if_neg c39] at H
                        have c39b0 : decide ((t274.length : Int) < t277) = false := decide_eq_false c39
                        clear c39
                        have H' := Aside0.mk H
                        clear H
                        obtain ⟨Ao61, co61, eo61⟩ := Kd.R_slice HO_12.out
                        subst eo61
                        try go_wp2_with (first | ((with_reducible refine gate_dst (N := 26) rfl ?_); refine Kd.R_lit (Kd.int .u8) _ 5 ?hg (N := 26) ?hd (xs := ([] : List Int)) (inner := []) (ok := fun _ => True) (okp := fun _ => True) ?hr ?hp (fun _ hk => hk) trivial (Below.refl _ _) (Nat.le_refl _) (by simp) ?_; (case hd => rfl); (case hg => rfl); (case hr => first | (go_simp; done) | (go_simp; rfl)); (case hp => exact (Reps.none _ _)); intro v272 w62 ho63 hb hg_ hnew_; clear hg_ hnew_; (first | rw [← Ny271.out] at ho63 | (simp only [Int.reduceToNat] at ho63; rw [← Ny271.out] at ho63)); replace HO_267002 := Aside0.mk (Kd.V_elder' (by (with_reducible repeat (first | apply Kd.V_alloc | apply Kd.V_drewN | apply Kd.V_drew)); exact HO_267002.out) (Kd.R_base ho63) hb); have HO273 := Aside0.mk (Kd.R_lower (Kd.R_new' (Kd.R_newM (M := fun k_ => (w.heap.size ≤ k_)) ho63 (below_size (bz HB)) (fun k_ h_ => h_)) (Kd.R_lt (by (with_reducible repeat (first | apply Kd.R_alloc | apply Kd.R_drewN | apply Kd.R_drew)); exact HO_12.out))) (below_size (bz HB))); replace HO_12 := Aside0.mk (Kd.R_elder' (by (with_reducible repeat (first | apply Kd.R_alloc | apply Kd.R_drewN | apply Kd.R_drew)); exact HO_12.out) (Kd.R_base ho63) hb); replace BK266 := bk BK266 hb; replace BK267 := bk BK267 hb; replace HB := Aside0.mk (below_step (bz HB) hb); clear hb ho63))
                        replace HO_12 := Aside0.mk (Kd.R_drew HO_12.out)
                        replace HO_267002 := Aside0.mk (Kd.V_drew HO_267002.out)
                        replace HO273 := Aside0.mk (Kd.R_drew HO273.out)
                        replace BK266 := Aside0.mk (blk_drew BK266.out)
                        replace BK267 := Aside0.mk (blk_drew BK267.out)
                        replace HB := Aside0.mk (below_drew1 HB.out)
                        obtain ⟨Ao65, co65, eo65⟩ := Kd.V_slice HO_267002.out
                        (first | subst eo65 | (injection eo65 with f1_ f2_ f3_; have f4_ := f1_.symm; have f5_ := f3_.symm; clear f1_ f2_ f3_; subst f4_; subst f5_))
                        refine start_ (n := 13) (S := fun w' => w'.cell? ⟨gb266, 0, none⟩ = some (.int .i64 x267000_1) ∧ w'.cell? ⟨gb266, 1, none⟩ = some (.int .i64 x267001_1) ∧ w'.cell? ⟨gb266, 2, none⟩ = some (.slice Ao65 x267002_1.length co65)) (ds := [12]) #[false, false, false, false, false, false, false, false, false, false, false, false, false] (by kernel_rfl) rfl rfl ⟨(blk_cell BK266.out 0).trans rfl, (blk_cell BK266.out 1).trans rfl, (blk_cell BK266.out 2).trans rfl⟩ (fun hHeld => ?_); refine with_tabW spec_l3Range.tab5 spec_l3Range.bits5 (fun HT_ HW_ => ?_)
                        generalize w62.drew = w64 at HO_12 HO_267002 HO273 BK266 BK267 HB hHeld ⊢
                        refine pure_ (i := 1) (N := some 29) (v := ?_) (a' := ?_) #[false, true, false, false, false, false, false, false, false, false, false, false, false] rfl rfl (any_of HT_.out (by kernel_rfl)) (fun _ _ _ h => h) (Or.inl ⟨by rfl, ?_⟩) ?_ ?_
                        rotate_left; (intro w'; go_simp; with_reducible rfl); rotate_left; (simp only [Act.put, List.setIfInBounds_toArray, List.set_cons_zero, List.set_cons_succ, i64_w, i32_w]; rfl)
                        refine pure_ (i := 2) (N := some 30) (v := ?_) (a' := ?_) #[false, true, true, false, false, false, false, false, false, false, false, false, false] rfl rfl (any_of HT_.out (by kernel_rfl)) (fun _ _ _ h => h) (Or.inl ⟨by rfl, ?_⟩) ?_ ?_
                        rotate_left; (intro w'; go_simp; with_reducible rfl); rotate_left; (simp only [Act.put, List.setIfInBounds_toArray, List.set_cons_zero, List.set_cons_succ, i64_w, i32_w]; rfl)
                        refine pure_ (i := 3) (N := some 31) (v := ?_) (a' := ?_) #[false, true, true, true, false, false, false, false, false, false, false, false, false] rfl rfl (any_of HT_.out (by kernel_rfl)) (fun _ _ _ h => h) (Or.inl ⟨by rfl, ?_⟩) ?_ ?_
                        rotate_left; (intro w'; go_simp; with_reducible rfl); rotate_left; (simp only [Act.put, List.setIfInBounds_toArray, List.set_cons_zero, List.set_cons_succ, i64_w, i32_w]; rfl)
                        refine pure_ (i := 6) (N := some 34) (v := ?_) (a' := ?_) #[false, true, true, true, false, false, true, false, false, false, false, false, false] rfl rfl (any_of HT_.out (by kernel_rfl)) (fun _ _ _ h => h) (Or.inl ⟨by rfl, ?_⟩) ?_ ?_
                        rotate_left; (intro w'; go_simp; with_reducible rfl); rotate_left; (simp only [Act.put, List.setIfInBounds_toArray, List.set_cons_zero, List.set_cons_succ, i64_w, i32_w]; rfl)
                        refine take_ (i := 0) (N := some 28) (v := ?_) (a' := ?_) #[true, true, true, true, false, false, true, false, false, false, false, false, false] rfl rfl (take_ofW HT_.out HW_.out (by kernel_rfl)) (fun _ _ _ h => h) (Or.inl ⟨by rfl, ?_⟩) hHeld ?_ ?_
                        rotate_left; (rintro w' ⟨s0, s1, s2⟩; go_simp; with_reducible rfl); rotate_left; (simp only [Act.put, List.setIfInBounds_toArray, List.set_cons_zero, List.set_cons_succ, i64_w, i32_w]; rfl)
                        refine take_ (i := 4) (N := some 32) (v := ?_) (a' := ?_) #[true, true, true, true, true, false, true, false, false, false, false, false, false] rfl rfl (take_ofW HT_.out HW_.out (by kernel_rfl)) (fun _ _ _ h => h) (Or.inl ⟨by rfl, ?_⟩) hHeld ?_ ?_
                        rotate_left; (rintro w' ⟨s0, s1, s2⟩; go_simp; with_reducible rfl); rotate_left; (simp only [Act.put, List.setIfInBounds_toArray, List.set_cons_zero, List.set_cons_succ, i64_w, i32_w]; rfl)
                        refine pure_ (i := 5) (N := some 33) (v := ?_) (a' := ?_) #[true, true, true, true, true, true, true, false, false, false, false, false, false] rfl rfl (any_of HT_.out (by kernel_rfl)) (fun _ _ _ h => h) (Or.inl ⟨by rfl, ?_⟩) ?_ ?_
                        rotate_left; (intro w'; go_simp; with_reducible rfl); rotate_left; (simp only [Act.put, List.setIfInBounds_toArray, List.set_cons_zero, List.set_cons_succ, i64_w, i32_w]; rfl)
                        refine one_ (i := 7) (N := some 35) #[true, true, true, true, true, true, true, true, false, false, false, false, false] rfl rfl (one_of HT_.out (by kernel_rfl)) (by decide) (fun K hK => ?_)
                        refine goes_ Try.func66 (by kernel_rfl) rfl #[.agg #[.int .i64 x267000_1, .int .i64 x267001_1, .slice Ao65 x267002_1.length co65], .pointer A1, .int .i64 (wrap64 (Int.tdiv (wrap64 (a2 + (x12_1.length : Int))) x267000_1)), .int .i64 a4] (by rfl) rfl rfl (by (try simp only [List.map_toArray, List.map_cons, List.map_nil]); first | done | rfl | (simp only [List.length_drop, List.length_take]; rfl)) ?_
                        with_reducible refine (spec_l3Fetch.calls k1 x267000_1 x267001_1 _ _ x267002_1 _ (l1).length l1 (wrap64 (Int.tdiv (wrap64 (a2 + (x12_1.length : Int))) x267000_1)) a4 t274 t277 t278 t279 _ ?side1 ?side2 ?side3 ?side4 A12.out).mono ?_
                        (case side1 => repeat (first | exact (Kd.V_reads' HO_267002.out).2.2 | (with_reducible refine Kd.C_alloc ?_ _) | (with_reducible refine Kd.C_drewN ?_ _) | (with_reducible refine Kd.C_drew ?_)))
                        (case side2 => exact (Kd.V_reads' HO_267002.out).2.1)
                        (case side3 => repeat (first | exact (Kd.C_below HR1.out HB.out) | (with_reducible refine Kd.C_alloc ?_ _) | (with_reducible refine Kd.C_drewN ?_ _) | (with_reducible refine Kd.C_drew ?_)))
                        (case side4 => exact Nat.le_refl _)
                        rintro e w66 ⟨v275, v280, rfl, ho0, ho1, hb⟩
                        refine ⟨_, rfl, ?_⟩
                        replace HO_267002 := Aside0.mk (Kd.V_mono (Kd.V_told (Kd.V_told (Kd.V_old (by (with_reducible repeat (first | apply Kd.V_alloc | apply Kd.V_drewN | apply Kd.V_drew)); exact HO_267002.out) hb) (Kd.R_base ho0)) (Kd.S_base ho1)) (fun _ h_ => h_.1))
                        have HO276 := Aside0.mk (Kd.R_lower (Kd.R_new' (Kd.R_new' (Kd.R_newM (M := fun k_ => (w.heap.size ≤ k_)) ho0 (below_size (bz HB)) (fun k_ h_ => h_)) (Kd.R_lt (by (with_reducible repeat (first | apply Kd.R_alloc | apply Kd.R_drewN | apply Kd.R_drew)); exact HO_12.out))) (Kd.R_lt (by (with_reducible repeat (first | apply Kd.R_alloc | apply Kd.R_drewN | apply Kd.R_drew)); exact HO273.out))) (below_size (bz HB)))
                        have HO281 := Aside0.mk (Kd.S_lower (Kd.S_new' (Kd.S_new' (Kd.S_newM (M := fun k_ => (w.heap.size ≤ k_)) ho1 (below_size (bz HB)) (fun k_ h_ => h_)) (Kd.R_lt (by (with_reducible repeat (first | apply Kd.R_alloc | apply Kd.R_drewN | apply Kd.R_drew)); exact HO_12.out))) (Kd.R_lt (by (with_reducible repeat (first | apply Kd.R_alloc | apply Kd.R_drewN | apply Kd.R_drew)); exact HO273.out))) (below_size (bz HB)))
                        replace HO_12 := Aside0.mk (Kd.R_elder' (by (with_reducible repeat (first | apply Kd.R_alloc | apply Kd.R_drewN | apply Kd.R_drew)); exact HO_12.out) (Kd.R_base ho0) hb)
                        replace HO273 := Aside0.mk (Kd.R_elder' (by (with_reducible repeat (first | apply Kd.R_alloc | apply Kd.R_drewN | apply Kd.R_drew)); exact HO273.out) (Kd.R_base ho0) hb)
                        replace BK266 := bk BK266 hb
                        replace BK267 := bk BK267 hb
                        replace HB := Aside0.mk (below_step (bz HB) hb)
                        (try clear hb)
                        (try clear hb2)
                        (try clear hk)
                        (try clear hi)
                        (try clear ho0)
                        (try clear ho1)
                        obtain ⟨Ao69, co69, eo69⟩ := Kd.S_slice HO281.out
                        (first | subst eo69 | (injection eo69 with f1_ f2_ f3_; have f4_ := f1_.symm; have f5_ := f3_.symm; clear f1_ f2_ f3_; subst f4_; subst f5_))
                        refine hK.out _ _ ⟨(blk_cell BK266.out 0).trans rfl, (blk_cell BK266.out 1).trans rfl, (blk_cell BK266.out 2).trans rfl⟩ (fun hHeld => ?_)
                        clear hK K
                        refine norm_ (a' := ?_) ?_ ?_
                        rotate_left
                        · show Act.put _ (some 35) _ = _
                          simp only [Act.put, List.setIfInBounds_toArray, List.set_cons_zero, List.set_cons_succ, i64_w, i32_w]
                          rfl
                        refine pure_ (i := 8) (N := some 27) (v := ?_) (a' := ?_) #[true, true, true, true, true, true, true, true, true, false, false, false, false] rfl rfl (any_of HT_.out (by kernel_rfl)) (fun _ _ _ h => h) (Or.inl ⟨by rfl, ?_⟩) ?_ ?_
                        rotate_left; (intro w'; go_simp; with_reducible rfl); rotate_left; (simp only [Act.put, List.setIfInBounds_toArray, List.set_cons_zero, List.set_cons_succ, i64_w, i32_w]; rfl)
                        refine pure_ (i := 9) (N := some 36) (v := ?_) (a' := ?_) #[true, true, true, true, true, true, true, true, true, true, false, false, false] rfl rfl (any_of HT_.out (by kernel_rfl)) (fun _ _ _ h => h) (Or.inl ⟨by rfl, ?_⟩) ?_ ?_
                        rotate_left; (intro w'; go_simp; with_reducible rfl); rotate_left; (simp only [Act.put, List.setIfInBounds_toArray, List.set_cons_zero, List.set_cons_succ, i64_w, i32_w]; rfl)
                        refine pure_ (i := 10) (N := some 37) (v := ?_) (a' := ?_) #[true, true, true, true, true, true, true, true, true, true, true, false, false] rfl rfl (any_of HT_.out (by kernel_rfl)) (fun _ _ _ h => h) (Or.inl ⟨by rfl, ?_⟩) ?_ ?_
                        rotate_left; (intro w'; go_simp; with_reducible rfl); rotate_left; (simp only [Act.put, List.setIfInBounds_toArray, List.set_cons_zero, List.set_cons_succ, i64_w, i32_w]; rfl)
                        refine pure_ (i := 11) (N := some 14) (v := ?_) (a' := ?_) #[true, true, true, true, true, true, true, true, true, true, true, true, false] rfl rfl (any_of HT_.out (by kernel_rfl)) (fun _ _ _ h => h) (Or.inl ⟨by rfl, ?_⟩) ?_ ?_
                        rotate_left; (intro w'; go_simp; with_reducible rfl); rotate_left; (simp only [Act.put, List.setIfInBounds_toArray, List.set_cons_zero, List.set_cons_succ, i64_w, i32_w]; rfl)
                        refine last_ (i := 12) (N := none) #[true, true, true, true, true, true, true, true, true, true, true, true, true] rfl rfl (one_of HT_.out (by kernel_rfl)) (by decide) (fun K hK => ?_)
                        have hs67 : w66.cell? ⟨gb266, 0, none⟩ = some (.int .i64 x267000_1) := (blk_cell BK266.out 0).trans rfl
                        have hfs67 := blk_frozen BK266.out 0
                        have hns67_1 := NB267_266.out
                        have hms67_1 := NB266_267.out
                        have hs68 : w66.cell? ⟨gb266, 1, none⟩ = some (.int .i64 x267001_1) := (blk_cell BK266.out 1).trans rfl
                        have hfs68 := blk_frozen BK266.out 1
                        have hns68_1 := NB267_266.out
                        have hms68_1 := NB266_267.out
                        have hs70 : w66.cell? ⟨gb266, 2, none⟩ = some (.slice Ao65 x267002_1.length co65) := (blk_cell BK266.out 2).trans rfl
                        have hfs70 := blk_frozen BK266.out 2
                        have hns70_1 := NB267_266.out
                        have hms70_1 := NB266_267.out
                        refine skip_ (w1 := ?_) (by rfl) rfl ?_ ?_
                        rotate_left
                        · go_simp
                          rfl
                        refine hK.out _ _ ?_
                        clear hK K
                        refine done_ (done_of HT_.out (by kernel_rfl)) ?_
                        have n0_ : Aside0 (Kd.R (Kd.int .u8) 5 (((w66.setCell ⟨gb266, 0, none⟩ (.int .i64 t277)).setCell ⟨gb266, 1, none⟩ (.int .i64 t278)).setCell ⟨gb266, 2, none⟩ (.slice Ao69 t279.length co69)) w.heap.size (fun k_ => (w.heap.size ≤ k_) ∧ some k_ ≠ (v272 : Value).ownBlock ∧ some k_ ≠ (v275 : Value).ownBlock) (.slice Ao61 x12_1.length co61) x12_1) := ⟨by (with_reducible repeat (first | apply Kd.R_alloc | apply Kd.R_drewN | apply Kd.R_drew)); exact Kd.R_mono (Kd.R_far (p := ⟨gb266, 2, none⟩) (Kd.R_far (p := ⟨gb266, 1, none⟩) (Kd.R_far (p := ⟨gb266, 0, none⟩) (Kd.R_types HO_12.out BK266.out (by decide)) (fun _ hk => hk.2) (.int .i64 t277)) (fun _ hk => hk.2) (.int .i64 t278)) (fun _ hk => hk.2) (.slice Ao69 t279.length co69)) (fun _ hk => ⟨hk.1.1.1, ⟨hk.1.1.2, hk.1.2⟩⟩)⟩
                        have n1_ : Aside0 (Kd.V k80 80 (((w66.setCell ⟨gb266, 0, none⟩ (.int .i64 t277)).setCell ⟨gb266, 1, none⟩ (.int .i64 t278)).setCell ⟨gb266, 2, none⟩ (.slice Ao69 t279.length co69)) w.heap.size (fun k_ => (P0_2_ k_ ∨ w.heap.size ≤ k_) ∧ some k_ ≠ (.slice Ao61 x12_1.length co61 : Value).ownBlock ∧ some k_ ≠ (v272 : Value).ownBlock ∧ some k_ ≠ (v275 : Value).ownBlock ∧ some k_ ≠ (.slice Ao69 t279.length co69 : Value).ownBlock ∧ k_ ≠ gb266 ∧ k_ ≠ gb267) (.slice Ao65 x267002_1.length co65) x267002_1) := ⟨by (with_reducible repeat (first | apply Kd.V_alloc | apply Kd.V_drewN | apply Kd.V_drew)); exact Kd.V_mono (Kd.V_far (p := ⟨gb266, 2, none⟩) (Kd.V_far (p := ⟨gb266, 1, none⟩) (Kd.V_far (p := ⟨gb266, 0, none⟩) (Kd.V_mono HO_267002.out (fun k_ hk => (⟨hk, hk.1.1.1.2.2.1⟩ : _ ∧ k_ ≠ gb266))) (fun _ hk => hk.2) (.int .i64 t277)) (fun _ hk => hk.2) (.int .i64 t278)) (fun _ hk => hk.2) (.slice Ao69 t279.length co69)) (fun _ hk => ⟨hk.1.1.1.1.1, ⟨hk.1.1.1.1.2.1, ⟨hk.1.1.1.2, ⟨hk.1.1.2, ⟨hk.1.2, ⟨hk.1.1.1.1.2.2.1, hk.1.1.1.1.2.2.2⟩⟩⟩⟩⟩⟩)⟩
                        have n2_ : Aside0 (Kd.R (Kd.int .u8) 5 (((w66.setCell ⟨gb266, 0, none⟩ (.int .i64 t277)).setCell ⟨gb266, 1, none⟩ (.int .i64 t278)).setCell ⟨gb266, 2, none⟩ (.slice Ao69 t279.length co69)) w.heap.size (fun k_ => (w.heap.size ≤ k_) ∧ some k_ ≠ (.slice Ao61 x12_1.length co61 : Value).ownBlock ∧ some k_ ≠ (v275 : Value).ownBlock) v272 y271) := ⟨by (with_reducible repeat (first | apply Kd.R_alloc | apply Kd.R_drewN | apply Kd.R_drew)); exact Kd.R_mono (Kd.R_far (p := ⟨gb266, 2, none⟩) (Kd.R_far (p := ⟨gb266, 1, none⟩) (Kd.R_far (p := ⟨gb266, 0, none⟩) (Kd.R_types HO273.out BK266.out (by decide)) (fun _ hk => hk.2) (.int .i64 t277)) (fun _ hk => hk.2) (.int .i64 t278)) (fun _ hk => hk.2) (.slice Ao69 t279.length co69)) (fun _ hk => ⟨hk.1.1.1.1, ⟨hk.1.1.2, hk.1.2⟩⟩)⟩
                        have n3_ : Aside0 (Kd.R (Kd.int .u8) 5 (((w66.setCell ⟨gb266, 0, none⟩ (.int .i64 t277)).setCell ⟨gb266, 1, none⟩ (.int .i64 t278)).setCell ⟨gb266, 2, none⟩ (.slice Ao69 t279.length co69)) w.heap.size (fun k_ => (w.heap.size ≤ k_) ∧ some k_ ≠ (.slice Ao61 x12_1.length co61 : Value).ownBlock ∧ some k_ ≠ (v272 : Value).ownBlock) v275 t274) := ⟨by (with_reducible repeat (first | apply Kd.R_alloc | apply Kd.R_drewN | apply Kd.R_drew)); exact Kd.R_mono (Kd.R_far (p := ⟨gb266, 2, none⟩) (Kd.R_far (p := ⟨gb266, 1, none⟩) (Kd.R_far (p := ⟨gb266, 0, none⟩) (Kd.R_types HO276.out BK266.out (by decide)) (fun _ hk => hk.2) (.int .i64 t277)) (fun _ hk => hk.2) (.int .i64 t278)) (fun _ hk => hk.2) (.slice Ao69 t279.length co69)) (fun _ hk => ⟨hk.1.1.1.1, ⟨hk.1.1.2, hk.1.2⟩⟩)⟩
                        have n4_ : Aside0 (Kd.S k80 80 (((w66.setCell ⟨gb266, 0, none⟩ (.int .i64 t277)).setCell ⟨gb266, 1, none⟩ (.int .i64 t278)).setCell ⟨gb266, 2, none⟩ (.slice Ao69 t279.length co69)) w.heap.size (fun k_ => (w.heap.size ≤ k_) ∧ some k_ ≠ (.slice Ao61 x12_1.length co61 : Value).ownBlock ∧ some k_ ≠ (v272 : Value).ownBlock ∧ some k_ ≠ (v275 : Value).ownBlock) (.slice Ao69 t279.length co69) t279) := ⟨by (with_reducible repeat (first | apply Kd.S_alloc | apply Kd.S_drewN | apply Kd.S_drew)); exact Kd.S_mono (Kd.S_far (p := ⟨gb266, 2, none⟩) (Kd.S_far (p := ⟨gb266, 1, none⟩) (Kd.S_far (p := ⟨gb266, 0, none⟩) (Kd.S_types HO281.out BK266.out (by decide)) (fun _ hk => hk.2) (.int .i64 t277)) (fun _ hk => hk.2) (.int .i64 t278)) (fun _ hk => hk.2) (.slice Ao69 t279.length co69)) (fun _ hk => ⟨hk.1.1.1.1, ⟨hk.1.1.2, ⟨hk.1.2, hk.1.1.1.2⟩⟩⟩)⟩
                        have n5_ : Aside0 ((((w66.setCell ⟨gb266, 0, none⟩ (.int .i64 t277)).setCell ⟨gb266, 1, none⟩ (.int .i64 t278)).setCell ⟨gb266, 2, none⟩ (.slice Ao69 t279.length co69)).heap[gb266]? = some (.cells #[.int .i64 t277, .int .i64 t278, .slice Ao69 t279.length co69] 25 (0, 0))) := ⟨by (with_reducible repeat (first | refine blk_drewN ?_ _ | refine blk_drew ?_ | refine blk_alloc ?_ _)); refine blk_put (cs := #[.int .i64 t277, .int .i64 t278, .slice Ao65 x267002_1.length co65]) ?_ 2 _ rfl; refine blk_put (cs := #[.int .i64 t277, .int .i64 x267001_1, .slice Ao65 x267002_1.length co65]) ?_ 1 _ rfl; refine blk_put (cs := #[.int .i64 x267000_1, .int .i64 x267001_1, .slice Ao65 x267002_1.length co65]) ?_ 0 _ rfl; (with_reducible repeat (first | refine blk_drewN ?_ _ | refine blk_drew ?_ | refine blk_alloc ?_ _)); exact BK266.out⟩
                        have n6_ : Aside0 ((((w66.setCell ⟨gb266, 0, none⟩ (.int .i64 t277)).setCell ⟨gb266, 1, none⟩ (.int .i64 t278)).setCell ⟨gb266, 2, none⟩ (.slice Ao69 t279.length co69)).heap[gb267]? = some (.cells #[.int .i64 0, .int .i64 0, .slice none 0 0] 25 (0, 0))) := ⟨by (with_reducible repeat (first | refine blk_drewN ?_ _ | refine blk_drew ?_ | refine blk_alloc ?_ _)); refine blk_far ?_ NB267_266.out _; refine blk_far ?_ NB267_266.out _; refine blk_far ?_ NB267_266.out _; (with_reducible repeat (first | refine blk_drewN ?_ _ | refine blk_drew ?_ | refine blk_alloc ?_ _)); exact BK267.out⟩
                        have n7_ : Aside0 (Below w.heap.size w (((w66.setCell ⟨gb266, 0, none⟩ (.int .i64 t277)).setCell ⟨gb266, 1, none⟩ (.int .i64 t278)).setCell ⟨gb266, 2, none⟩ (.slice Ao69 t279.length co69))) := ⟨by repeat (first | (with_reducible first | exact HB.out | apply below_alloc | apply pw_below_drewN | apply below_drew1 | refine below_set ?_ GE266.out | refine below_set ?_ GE267.out) | exact HB.out)⟩
                        (try clear HO_12)
                        (try clear HO_267002)
                        (try clear HO273)
                        (try clear HO276)
                        (try clear HO281)
                        (try clear BK266)
                        (try clear BK267)
                        (try clear HB)
                        generalize (((w66.setCell ⟨gb266, 0, none⟩ (.int .i64 t277)).setCell ⟨gb266, 1, none⟩ (.int .i64 t278)).setCell ⟨gb266, 2, none⟩ (.slice Ao69 t279.length co69)) = w71 at n0_ n1_ n2_ n3_ n4_ n5_ n6_ n7_ ⊢
                        have HO_12 := n0_
                        have HO_267002 := n1_
                        have HO273 := n2_
                        have HO276 := n3_
                        have HO281 := n4_
                        have BK266 := n5_
                        have BK267 := n6_
                        have HB := n7_
                        clear n0_ n1_ n2_ n3_ n4_ n5_ n6_ n7_
                        have hnb72 := NB266_267.out
                        have hnc72 := NB267_266.out
                        have hcz73_0 : w71.cell? ⟨gb266, 0, none⟩ = some (.int .i64 t277) := (blk_cell BK266.out 0).trans rfl
                        have hcz73_1 : w71.cell? ⟨gb266, 1, none⟩ = some (.int .i64 t278) := (blk_cell BK266.out 1).trans rfl
                        have hcz73_2 : w71.cell? ⟨gb266, 2, none⟩ = some (.slice Ao69 t279.length co69) := (blk_cell BK266.out 2).trans rfl
                        have hfz73_0 := blk_frozen BK266.out 0
                        have hfz73_1 := blk_frozen BK266.out 1
                        have hfz73_2 := blk_frozen BK266.out 2
                        obtain ⟨Ao74, co74, eo74⟩ := Kd.R_slice HO276.out
                        subst eo74
                        try go_wp2_with (first | ((with_reducible refine gate_callee (f := 94) rfl ?_); refine goesL_ (some 54) rfl rfl Try.func94 (by kernel_rfl) rfl #[.int .i64 (wrap64 (a3 - (x12_1.length : Int))), .int .i64 (wrap64 ((t274.length : Int) - (ji34)))] rfl (by (try simp only [List.map_toArray, List.map_cons, List.map_nil]); first | done | (simp only [hji34]; rfl) | rfl | (simp only [List.length_drop, List.length_take]; rfl)) ?_; (with_reducible refine (spec_l1Min.calls (wrap64 (a3 - (x12_1.length : Int))) (wrap64 ((t274.length : Int) - (ji34))) t282 _ A33.out).mono ?_); rintro e w' ⟨rfl, ⟨nd, rfl⟩⟩; refine ⟨_, rfl, ?_⟩; have q75 : ((wrap64 ((ji34) + t282)) : Int) ≤ ((t274.length : Int) : Int) := of_decide_eq_true (by first | (with_reducible assumption) | assumption); obtain ⟨i075, hi075, _, hsz75, _⟩ := info_parts info5; have hroom75 : t274.length ≤ co74 := (Kd.R_reads' HO276.out).2.1; have hC75 : Kd.C (Kd.int .u8) _ Ao74 t274.length t274 := (Kd.R_reads' HO276.out).2.2; have ql75 : ((ji34) : Int) ≤ ((wrap64 ((ji34) + t282)) : Int) := of_decide_eq_true (by first | (with_reducible assumption) | assumption); have q075 : (0 : Int) ≤ ((ji34) : Int) := of_decide_eq_true (by first | (with_reducible assumption) | assumption); have hcut75 := cut_mid (P := Try.prog) 22 5 .i64 .i64 Try.underlying22 hi075 1 hsz75 Ao74 t274.length co74 (ji34) (wrap64 ((ji34) + t282)) q075 ql75 q75 hroom75; have hr75 := Kd.C_mid (lo := ((ji34) : Int).toNat) (hi := ((wrap64 ((ji34) + t282)) : Int).toNat) (c := co74) hC75 (by omega) (by omega) hroom75; obtain ⟨A75, hA75⟩ : ∃ A1, A1 = (if co74 = ((ji34) : Int).toNat then Ao74 else (Ao74 : Option Addr).map (·.add (((ji34) : Int).toNat * 1))) := ⟨_, rfl⟩; obtain ⟨c75, hc75⟩ : ∃ c1, c1 = co74 - ((ji34) : Int).toNat := ⟨_, rfl⟩; have hy75 : y283.length = ((wrap64 ((ji34) + t282)) : Int).toNat - ((ji34) : Int).toNat := (by rw [Ny283.out, List.length_drop, List.length_take] <;> omega); rw [show ((t274).take ((wrap64 ((ji34) + t282)) : Int).toNat).drop ((ji34) : Int).toNat = y283 from Ny283.out.symm] at hr75; replace hr75 : Kd.C (Kd.int .u8) _ A75 y283.length y283 := (by rw [hA75]; exact hr75); rw [← hy75, ← hA75, ← hc75] at hcut75; have HR286 := Aside0.mk hr75; have HC286 := Aside0.mk (show y283.length ≤ c75 from by rw [hy75, hc75]; exact Nat.sub_le_sub_right (Nat.le_trans (by omega) hroom75) _); clear hr75 hC75 hroom75 hi075 hsz75 hc75; have KY75 := Aside0.mk hy75; have KA75 := Aside0.mk hA75; clear hy75 hA75; have KL75 := Aside0.mk (show ((wrap64 ((ji34) + t282)) : Int).toNat ≤ t274.length from by omega); have KM75 := Aside0.mk (show ((ji34) : Int).toNat ≤ ((wrap64 ((ji34) + t282)) : Int).toNat from by omega); replace q75 := eq_true q75) | ((with_reducible refine gate_builtin (b := .append) (xs := #[.tmp 55, .tmp 61]) rfl ?_); at_builtin; refine Kd.R_append_rows (Kd.int .u8) (w0 := w) w.heap.size rfl (.tmp 55) (.tmp 61) 22 5 (.int .u8 0) 1 rfl Try.underlying22 info5 rfl (by decide) (by omega) (.slice Ao61 x12_1.length co61) x12_1 y283 _ _ _ (fun k_ => (w.heap.size ≤ k_) ∧ some k_ ≠ (v272 : Value).ownBlock ∧ some k_ ≠ (.slice Ao74 t274.length co74 : Value).ownBlock) (fun _ => False) rfl rfl ?aO ?aR (fun _ _ h => h) (fun _ h => h.elim) ?aF ?aB ?aS ?aL ?_; (case aR => repeat (first | exact (by repeat (first | (with_reducible exact HR286.out) | (with_reducible refine Kd.C_alloc ?_ _) | (with_reducible refine Kd.C_drewN ?_ _) | (with_reducible refine Kd.C_drew ?_) | exact HR286.out)) | (with_reducible refine Kd.C_alloc ?_ _) | (with_reducible refine Kd.C_drewN ?_ _) | (with_reducible refine Kd.C_drew ?_))); (case aB => exact (bz HB)); (case aF => exact (fun k_ hk => ⟨(Nat.le_trans (below_size (bz HB)) hk), Kd.fresh' (Kd.R_lt (by (with_reducible repeat (first | apply Kd.R_alloc | apply Kd.R_drewN | apply Kd.R_drew)); exact HO273.out)) k_ hk, Kd.fresh' (Kd.R_lt (by (with_reducible repeat (first | apply Kd.R_alloc | apply Kd.R_drewN | apply Kd.R_drew)); exact HO276.out)) k_ hk⟩)); (case aO => exact (by (with_reducible repeat (first | apply Kd.R_alloc | apply Kd.R_drewN | apply Kd.R_drew)); exact HO_12.out)); (case aS => exact (below_size (bz HB))); (case aL => have := LMc38.out; omega); intro v288 w76 ho hb hg hat; rw [← Ny287.out] at ho; have n0_ := Aside0.mk (Kd.V_afterv (ok := (fun k_ => (P0_2_ k_ ∨ w.heap.size ≤ k_) ∧ some k_ ≠ (v272 : Value).ownBlock ∧ some k_ ≠ (.slice Ao74 t274.length co74 : Value).ownBlock ∧ some k_ ≠ (.slice Ao69 t279.length co69 : Value).ownBlock ∧ k_ ≠ gb266 ∧ k_ ≠ gb267)) (by (with_reducible repeat (first | apply Kd.V_alloc | apply Kd.V_drewN | apply Kd.V_drew)); exact Kd.V_mono HO_267002.out (fun _ hk => ⟨⟨hk.1, ⟨hk.2.2.1, ⟨hk.2.2.2.1, ⟨hk.2.2.2.2.1, ⟨hk.2.2.2.2.2.1, hk.2.2.2.2.2.2⟩⟩⟩⟩⟩, hk.2.1⟩)) hg hat); have n1_ := Aside0.mk (blk_grown (g := gb266) (o := .cells #[.int .i64 t277, .int .i64 t278, .slice Ao69 t279.length co69] 25 (0, 0)) (by (with_reducible repeat (first | refine blk_drewN ?_ _ | refine blk_drew ?_ | refine blk_alloc ?_ _)); exact BK266.out) hg (Kd.R_ne HO_12.out BK266.out (by decide))); have n2_ := Aside0.mk (blk_grown (g := gb267) (o := .cells #[.int .i64 0, .int .i64 0, .slice none 0 0] 25 (0, 0)) (by (with_reducible repeat (first | refine blk_drewN ?_ _ | refine blk_drew ?_ | refine blk_alloc ?_ _)); exact BK267.out) hg (Kd.R_ne HO_12.out BK267.out (by decide))); have n3_ := Aside0.mk (Kd.R_after (ok := (fun k_ => (w.heap.size ≤ k_) ∧ some k_ ≠ (.slice Ao74 t274.length co74 : Value).ownBlock)) (by (with_reducible repeat (first | apply Kd.R_alloc | apply Kd.R_drewN | apply Kd.R_drew)); exact Kd.R_mono HO273.out (fun _ hk => ⟨⟨hk.1, hk.2.2⟩, hk.2.1⟩)) hg hat); have n4_ := Aside0.mk (Kd.R_after (ok := (fun k_ => (w.heap.size ≤ k_) ∧ some k_ ≠ (v272 : Value).ownBlock)) (by (with_reducible repeat (first | apply Kd.R_alloc | apply Kd.R_drewN | apply Kd.R_drew)); exact Kd.R_mono HO276.out (fun _ hk => ⟨⟨hk.1, hk.2.2⟩, hk.2.1⟩)) hg hat); have n5_ := Aside0.mk (Kd.S_after (ok := (fun k_ => (w.heap.size ≤ k_) ∧ some k_ ≠ (v272 : Value).ownBlock ∧ some k_ ≠ (.slice Ao74 t274.length co74 : Value).ownBlock)) (by (with_reducible repeat (first | apply Kd.S_alloc | apply Kd.S_drewN | apply Kd.S_drew)); exact Kd.S_mono HO281.out (fun _ hk => ⟨⟨hk.1, ⟨hk.2.2.1, hk.2.2.2⟩⟩, hk.2.1⟩)) hg hat); have n6_ := Aside0.mk (hb); have n7_ := Aside0.mk ((show Kd.C (Kd.int .u8) w76 A75 y283.length y283 from by rw [Ny283.out, KA75.out]; exact Kd.C_mid (lo := ((ji34) : Int).toNat) (hi := ((wrap64 ((ji34) + t282)) : Int).toNat) (c := co74) ((Kd.R_reads' (Kd.R_after (ok := (fun k_ => (w.heap.size ≤ k_) ∧ some k_ ≠ (v272 : Value).ownBlock)) (by (with_reducible repeat (first | apply Kd.R_alloc | apply Kd.R_drewN | apply Kd.R_drew)); exact Kd.R_mono HO276.out (fun _ hk => ⟨⟨hk.1, hk.2.2⟩, hk.2.1⟩)) hg hat)).2.2) KM75.out KL75.out ((Kd.R_reads' (Kd.R_after (ok := (fun k_ => (w.heap.size ≤ k_) ∧ some k_ ≠ (v272 : Value).ownBlock)) (by (with_reducible repeat (first | apply Kd.R_alloc | apply Kd.R_drewN | apply Kd.R_drew)); exact Kd.R_mono HO276.out (fun _ hk => ⟨⟨hk.1, hk.2.2⟩, hk.2.1⟩)) hg hat)).2.1))); have n8_ := Aside0.mk (ho); clear HO_267002; clear BK266; clear BK267; clear HO273; clear HO276; clear HO281; clear HB; clear HR286; clear HO_12; have HO_267002 := n0_; have BK266 := n1_; have BK267 := n2_; have HO273 := n3_; have HO276 := n4_; have HO281 := n5_; have HB := n6_; have HR286 := n7_; have HO289 := n8_; clear n0_ n1_ n2_ n3_ n4_ n5_ n6_ n7_ n8_; clear ho hb hg hat; have hcz77_0 : w76.cell? ⟨gb266, 0, none⟩ = some (.int .i64 t277) := (blk_cell BK266.out 0).trans rfl; have hcz77_1 : w76.cell? ⟨gb266, 1, none⟩ = some (.int .i64 t278) := (blk_cell BK266.out 1).trans rfl; have hcz77_2 : w76.cell? ⟨gb266, 2, none⟩ = some (.slice Ao69 t279.length co69) := (blk_cell BK266.out 2).trans rfl; have hfz77_0 := blk_frozen BK266.out 0; have hfz77_1 := blk_frozen BK266.out 1; have hfz77_2 := blk_frozen BK266.out 2))
                        go_roundg k1
                        case measure => have := HK1.out; omega
                        case rel => exact ⟨(y287), (t277), (t278), (t279), (.slice Ao69 t279.length co69), H', ⟨by have := HK1.out; omega⟩, ⟨by (with_reducible repeat (first | apply Kd.R_alloc | apply Kd.R_drewN | apply Kd.R_drew)); exact Kd.R_mono HO289.out (fun _ hk => hk.1)⟩, ⟨Kd.V_mono (Kd.S_V (by (with_reducible repeat (first | apply Kd.S_alloc | apply Kd.S_drewN | apply Kd.S_drew)); exact (Kd.S_types (Kd.S_types HO281.out BK266.out (by decide)) BK267.out (by decide)))) (fun k_ hk => by exact ⟨.inr hk.1.1.1.1, ⟨hk.1.1.2, ⟨hk.1.2, hk.2⟩⟩⟩)⟩, ⟨by (with_reducible repeat (first | refine blk_drewN ?_ _ | refine blk_drew ?_ | refine blk_alloc ?_ _)); exact BK266.out⟩, ⟨by (with_reducible repeat (first | refine blk_drewN ?_ _ | refine blk_drew ?_ | refine blk_alloc ?_ _)); exact BK267.out⟩, ⟨by repeat (first | (with_reducible first | exact HB.out | apply below_alloc | apply pw_below_drewN | apply below_drew1 | refine below_set ?_ GE266.out | refine below_set ?_ GE267.out) | exact HB.out)⟩⟩
                    · rw [if_neg c38] at H
                      exact absurd H (by simp)
                  · rw [if_neg c37] at H
                    exact absurd H (by simp)
                · rw [if_neg c36] at H
                  exact absurd H (by simp)
              · rw [if_neg c35] at H
                exact absurd H (by simp)
      · rw [if_neg c10] at H
        have c10b0 : decide ((x12_1.length : Int) < a3) = false := decide_eq_false c10
        clear c10
        simp only [Option.some.injEq, Prod.mk.injEq] at H
        obtain ⟨rfl, rfl, rfl, rfl⟩ := H
        obtain ⟨Ao78, co78, eo78⟩ := Kd.R_slice HO_12.out
        subst eo78
        try go_wp2
        replace HO_12 := Aside0.mk (Kd.R_drew HO_12.out)
        replace HO_267002 := Aside0.mk (Kd.V_drew HO_267002.out)
        replace BK266 := Aside0.mk (blk_drew BK266.out)
        replace BK267 := Aside0.mk (blk_drew BK267.out)
        replace HB := Aside0.mk (below_drew1 HB.out)
        obtain ⟨Ao82, co82, eo82⟩ := Kd.V_slice HO_267002.out
        (first | subst eo82 | (injection eo82 with f1_ f2_ f3_; have f4_ := f1_.symm; have f5_ := f3_.symm; clear f1_ f2_ f3_; subst f4_; subst f5_))
        refine start_ (n := 4) (S := fun w' => w'.cell? ⟨gb266, 0, none⟩ = some (.int .i64 x267000_1) ∧ w'.cell? ⟨gb266, 1, none⟩ = some (.int .i64 x267001_1) ∧ w'.cell? ⟨gb266, 2, none⟩ = some (.slice Ao82 x267002_1.length co82)) (ds := []) #[false, false, false, false] (by kernel_rfl) rfl rfl ⟨(blk_cell BK266.out 0).trans rfl, (blk_cell BK266.out 1).trans rfl, (blk_cell BK266.out 2).trans rfl⟩ (fun hHeld => ?_)
        generalize wr.drew = w79 at HO_12 HO_267002 BK266 BK267 HB hHeld ⊢
        refine pure_ (i := 0) (N := some 68) (v := ?_) (a' := ?_) #[true, false, false, false] rfl rfl (by kernel_rfl) (fun _ _ _ h => h) (Or.inl ⟨by rfl, ?_⟩) ?_ ?_
        rotate_left; (intro w'; go_simp; with_reducible rfl); rotate_left; (simp only [Act.put, List.setIfInBounds_toArray, List.set_cons_zero, List.set_cons_succ, i64_w, i32_w]; rfl)
        refine pure_ (i := 2) (N := some 10) (v := ?_) (a' := ?_) #[true, false, true, false] rfl rfl (by kernel_rfl) (fun _ _ _ h => h) (Or.inl ⟨by rfl, ?_⟩) ?_ ?_
        rotate_left; (intro w'; go_simp; with_reducible rfl); rotate_left; (simp only [Act.put, List.setIfInBounds_toArray, List.set_cons_zero, List.set_cons_succ, i64_w, i32_w]; rfl)
        refine take_ (i := 1) (N := some 69) (v := ?_) (a' := ?_) #[true, true, true, false] rfl rfl (by kernel_rfl) (fun _ _ _ h => h) (Or.inl ⟨by rfl, ?_⟩) hHeld ?_ ?_
        rotate_left; (rintro w' ⟨s0, s1, s2⟩; go_simp; with_reducible rfl); rotate_left; (simp only [Act.put, List.setIfInBounds_toArray, List.set_cons_zero, List.set_cons_succ, i64_w, i32_w]; rfl)
        refine one_ (i := 3) (N := none) #[true, true, true, true] rfl rfl (by kernel_rfl) (by decide) (fun K hK => ?_)
        have hs80 : w79.cell? ⟨gb267, 0, none⟩ = some (.int .i64 0) := (blk_cell BK267.out 0).trans rfl
        have hfs80 := blk_frozen BK267.out 0
        have hns80_0 := NB266_267.out
        have hms80_0 := NB267_266.out
        have hs81 : w79.cell? ⟨gb267, 1, none⟩ = some (.int .i64 0) := (blk_cell BK267.out 1).trans rfl
        have hfs81 := blk_frozen BK267.out 1
        have hns81_0 := NB266_267.out
        have hms81_0 := NB267_266.out
        have hs83 : w79.cell? ⟨gb267, 2, none⟩ = some (.slice none 0 0) := (blk_cell BK267.out 2).trans rfl
        have hfs83 := blk_frozen BK267.out 2
        have hns83_0 := NB266_267.out
        have hms83_0 := NB267_266.out
        refine skip_ (w1 := ?_) (by rfl) rfl ?_ ?_
        rotate_left
        · go_simp
          rfl
        refine hK.out _ _ ⟨((cell_far (p := ⟨gb267, _, none⟩) NB266_267.out _).trans (((cell_far (p := ⟨gb267, _, none⟩) NB266_267.out _).trans (((cell_far (p := ⟨gb267, _, none⟩) NB266_267.out _).trans (hHeld.1)))))), ((cell_far (p := ⟨gb267, _, none⟩) NB266_267.out _).trans (((cell_far (p := ⟨gb267, _, none⟩) NB266_267.out _).trans (((cell_far (p := ⟨gb267, _, none⟩) NB266_267.out _).trans (hHeld.2.1)))))), ((cell_far (p := ⟨gb267, _, none⟩) NB266_267.out _).trans (((cell_far (p := ⟨gb267, _, none⟩) NB266_267.out _).trans (((cell_far (p := ⟨gb267, _, none⟩) NB266_267.out _).trans (hHeld.2.2))))))⟩ (fun hHeld => ?_)
        clear hK K
        refine done_ (by kernel_rfl) ?_
        try go_wp2
        refine bodyPost_ret (results_tc rfl _ _ gb267 25 #[.int .i64 x267000_1, .int .i64 x267001_1, .slice Ao82 x267002_1.length co82] (0, 0) _ rfl (by (with_reducible repeat (first | refine blk_drewN ?_ _ | refine blk_drew ?_ | refine blk_alloc ?_ _)); refine blk_put (cs := #[.int .i64 x267000_1, .int .i64 x267001_1, .slice none 0 0]) ?_ 2 _ rfl; refine blk_put (cs := #[.int .i64 x267000_1, .int .i64 0, .slice none 0 0]) ?_ 1 _ rfl; refine blk_put (cs := #[.int .i64 0, .int .i64 0, .slice none 0 0]) ?_ 0 _ rfl; (with_reducible repeat (first | refine blk_drewN ?_ _ | refine blk_drew ?_ | refine blk_alloc ?_ _)); exact BK267.out) Try.underlying25 rfl (by kernel_rfl)) rfl ?_
        exact ⟨_, _, by first | rfl | (simp [errW_none, errW_some] <;> rfl) | (simp [*, errW_none, errW_some] <;> rfl), by (with_reducible repeat (first | apply Kd.R_alloc | apply Kd.R_drewN | apply Kd.R_drew)); exact Kd.R_mono (Kd.R_far (p := ⟨gb267, 2, none⟩) (Kd.R_far (p := ⟨gb267, 1, none⟩) (Kd.R_far (p := ⟨gb267, 0, none⟩) (Kd.R_types HO_12.out BK267.out (by decide)) (fun _ hk => hk.2) (.int .i64 x267000_1)) (fun _ hk => hk.2) (.int .i64 x267001_1)) (fun _ hk => hk.2) (.slice Ao82 x267002_1.length co82)) (fun _ hk => hk.1), by (with_reducible repeat (first | apply Kd.V_alloc | apply Kd.V_drewN | apply Kd.V_drew)); exact Kd.V_mono (Kd.V_far (p := ⟨gb267, 2, none⟩) (Kd.V_far (p := ⟨gb267, 1, none⟩) (Kd.V_far (p := ⟨gb267, 0, none⟩) (Kd.V_mono HO_267002.out (fun k_ hk => (⟨hk, hk.2.2.2⟩ : _ ∧ k_ ≠ gb267))) (fun _ hk => hk.2) (.int .i64 x267000_1)) (fun _ hk => hk.2) (.int .i64 x267001_1)) (fun _ hk => hk.2) (.slice Ao82 x267002_1.length co82)) (fun _ hk => ⟨hk.1.1, hk.1.2.1⟩), by repeat (first | (with_reducible first | exact HB.out | apply below_alloc | apply pw_below_drewN | apply below_drew1 | refine below_set ?_ GE266.out | refine below_set ?_ GE267.out) | exact HB.out)⟩

end Go.Proofs.Ytkocconggohdgaa.PFnExactReadRange
