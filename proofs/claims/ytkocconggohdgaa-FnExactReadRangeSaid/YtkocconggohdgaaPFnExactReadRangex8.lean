/- Functions of the given program as plain Lean functions, each with a proof that the Go code answers just so; made by a program of this session out of the translation. Conditions: those that each theorem names. -/
import Derived.Test.YtkocconggohdgaaPFnExactReadRangex0
import Derived.Test.YtkocconggohdgaaPFnExactReadRangex3
import Derived.Test.YtkocconggohdgaaPFnExactReadRangex4
import Derived.Test.YtkocconggohdgaaPFnExactReadRangex5
import Derived.Test.YtkocconggohdgaaPFnExactReadRangex7
namespace Go.Proofs.Ytkocconggohdgaa.PFnExactReadRange
open Go.RowKit Go.Proofs.YtkocconggohdgaaW.PrintWords Go.Proofs.YtkocconggohdgaaW.PrintLast Go.Proofs.YtkocconggohdgaaW.PrintMore
attribute [local go_sem] max2_int min2_int max_two min_two max_three min_three max_four min_four   -- for this text's walks alone
set_option linter.unusedVariables false
set_option linter.unusedSimpArgs false

/-! ### spec_ReadRange: function 32 -/
def spec_ReadRange.j0 : Nat → Int → Int → Int → Bool → Int → Int → List (S80) → List Int → Option (Int × List Int × Int × Int × (List (S80)))
  | 0, _, _, _, _, _, _, _, _ => none
  | k + 1, x2, x3, x4, x31, x291000, x291001, x291002, x292000 => if x31 = true then ((spec_l3Bad.f 3).bind fun bt306 => (some (bt306.1, bt306.2.1, bt306.2.2.1, bt306.2.2.2.1, bt306.2.2.2.2))) else ((spec_l3Less.f k x291000 x291001 x291002 (-1)).bind fun bt315 => ((spec_l3Range.f k bt315.1 bt315.2.1 bt315.2.2 [(⟨x292000⟩ : S44)] x2 x3 x4).bind fun bt320 => (some (0, bt320.1, bt320.2.1, bt320.2.2.1, bt320.2.2.2))))
def spec_ReadRange.f (k : Nat) (a0_0 : Int) (a0_1 : Int) (l0_2 : List (S80)) (l1_0 : List Int) (a2 : Int) (a3 : Int) (a4 : Int) : Option (Int × List Int × Int × Int × (List (S80))) := (spec_l3Asked.f k [(⟨a0_0, a0_1, l0_2⟩ : S25)] [(⟨l1_0⟩ : S44)]).bind fun t293 => (if t293 = 0 then ((spec_l1In.f a2 0 400).bind fun t303 => (if t303 = true then ((spec_l1In.f a3 0 400).bind fun t304 => (if t304 = true then ((spec_l1In.f a4 1 400).bind fun t305 => (spec_ReadRange.j0 k a2 a3 a4 (!t305) a0_0 a0_1 l0_2 l1_0)) else (spec_ReadRange.j0 k a2 a3 a4 true a0_0 a0_1 l0_2 l1_0))) else (spec_ReadRange.j0 k a2 a3 a4 true a0_0 a0_1 l0_2 l1_0))) else ((spec_l3Bad.f t293).bind fun bt294 => (some (bt294.1, bt294.2.1, bt294.2.2.1, bt294.2.2.2.1, bt294.2.2.2.2))))
theorem spec_ReadRange.mono_l : ∀ k, (∀ y0 y1 y2 y3 y4 y5 y6 y7, LeO (spec_ReadRange.j0 k y0 y1 y2 y3 y4 y5 y6 y7) (spec_ReadRange.j0 (k + 1) y0 y1 y2 y3 y4 y5 y6 y7))
  | 0 => fun _ _ _ _ _ _ _ _ r h => by simp [spec_ReadRange.j0] at h
  | k + 1 => by
    have ih0 := spec_ReadRange.mono_l k
    · intro y0 y1 y2 y3 y4 y5 y6 y7
      unfold spec_ReadRange.j0
      repeat' first
      | (with_reducible exact ih0 _ _ _ _ _ _ _ _)
      | (with_reducible exact spec_l3Asked.mono _ _ _)
      | (with_reducible exact spec_l3Less.mono _ _ _ _ _)
      | (with_reducible exact spec_l3Range.mono _ _ _ _ _ _ _ _)
      | (with_reducible exact LeO.refl _)
      | (with_reducible exact LeO.none _)
      | (with_reducible refine LeO.ite ?_ ?_)
      | (with_reducible refine LeO.bind ?_ (fun _ => ?_))
      | exact ih0 _ _ _ _ _ _ _ _
      | exact spec_l3Asked.mono _ _ _
      | exact spec_l3Less.mono _ _ _ _ _
      | exact spec_l3Range.mono _ _ _ _ _ _ _ _
      | exact LeO.none _
      | refine LeO.ite ?_ ?_
      | refine LeO.bind ?_ (fun _ => ?_)
theorem spec_ReadRange.mono : ∀ a0 a1 a2 a3 a4 a5 a6 k, LeO (spec_ReadRange.f k a0 a1 a2 a3 a4 a5 a6) (spec_ReadRange.f (k + 1) a0 a1 a2 a3 a4 a5 a6) := by
  intro a0 a1 a2 a3 a4 a5 a6 k
  have ih0 := spec_ReadRange.mono_l k
  unfold spec_ReadRange.f
  repeat' first
      | (with_reducible exact ih0 _ _ _ _ _ _ _ _)
      | (with_reducible exact spec_l3Asked.mono _ _ _)
      | (with_reducible exact spec_l3Less.mono _ _ _ _ _)
      | (with_reducible exact spec_l3Range.mono _ _ _ _ _ _ _ _)
      | (with_reducible exact LeO.refl _)
      | (with_reducible exact LeO.none _)
      | (with_reducible refine LeO.ite ?_ ?_)
      | (with_reducible refine LeO.bind ?_ (fun _ => ?_))
      | exact ih0 _ _ _ _ _ _ _ _
      | exact spec_l3Asked.mono _ _ _
      | exact spec_l3Less.mono _ _ _ _ _
      | exact spec_l3Range.mono _ _ _ _ _ _ _ _
      | exact LeO.none _
      | refine LeO.ite ?_ ?_
      | refine LeO.bind ?_ (fun _ => ?_)
set_option maxHeartbeats 8000000 in
set_option maxRecDepth 100000 in
theorem spec_ReadRange.calls (k : Nat) (a0_0 : Int) (a0_1 : Int) (A0_2 : Option Addr) (c0_2 : Nat) (l0_2 : List (S80)) (A1_0 : Option Addr) (c1_0 : Nat) (l1_0 : List Int) (a2 : Int) (a3 : Int) (a4 : Int) (r1 : Int) (r2 : List Int) (r3 : Int) (r4 : Int) (r5 : List (S80)) (w : World) (hr0_2 : Kd.C k80 w A0_2 l0_2.length l0_2) (hc0_2 : l0_2.length ≤ c0_2) (hr1_0 : Kd.C (Kd.int .u8) w A1_0 l1_0.length l1_0) (hc1_0 : l1_0.length ≤ c1_0) (h : spec_ReadRange.f k a0_0 a0_1 l0_2 l1_0 a2 a3 a4 = some (r1, r2, r3, r4, r5)) :
    Calls Try.prog 32 #[.agg #[.int .i64 a0_0, .int .i64 a0_1, .slice A0_2 l0_2.length c0_2], .agg #[.slice A1_0 l1_0.length c1_0], .int .i64 a2, .int .i64 a3, .int .i64 a4] w fun e w' => ∃ v1_ v4_ : Value, e = .returned (.agg #[.int .i64 r1, v1_, .int .i64 r3, .int .i64 r4, v4_]) ∧ Kd.R (Kd.int .u8) 5 w' w.heap.size (fun k_ => (w.heap.size ≤ k_)) v1_ r2 ∧ Kd.V k80 80 w' w.heap.size (fun k_ => (w.heap.size ≤ k_) ∧ some k_ ≠ (v1_ : Value).ownBlock) v4_ r5 ∧ Below w.heap.size w w' := by
  have hu25 := Try.underlying25
  have hu44 := Try.underlying44
  have hu27 := Try.underlying27
  have HR0_2 := Aside0.mk hr0_2
  have HC0_2 := Aside0.mk hc0_2
  clear hr0_2 hc0_2
  have HR1_0 := Aside0.mk hr1_0
  have HC1_0 := Aside0.mk hc1_0
  clear hr1_0 hc1_0
  have HB := Aside0.mk (Below.refl w.heap.size w)
  have H : ((spec_l3Asked.f k [(⟨a0_0, a0_1, l0_2⟩ : S25)] [(⟨l1_0⟩ : S44)]).bind fun t293 => (if t293 = 0 then ((spec_l1In.f a2 0 400).bind fun t303 => (if t303 = true then ((spec_l1In.f a3 0 400).bind fun t304 => (if t304 = true then ((spec_l1In.f a4 1 400).bind fun t305 => (spec_ReadRange.j0 k a2 a3 a4 (!t305) a0_0 a0_1 l0_2 l1_0)) else (spec_ReadRange.j0 k a2 a3 a4 true a0_0 a0_1 l0_2 l1_0))) else (spec_ReadRange.j0 k a2 a3 a4 true a0_0 a0_1 l0_2 l1_0))) else ((spec_l3Bad.f t293).bind fun bt294 => (some (bt294.1, bt294.2.1, bt294.2.2.1, bt294.2.2.2.1, bt294.2.2.2.2))))) = some (r1, r2, r3, r4, r5) := h
  clear h
  replace H := Option.bind_eq_some_iff.mp H
  obtain ⟨t293, A60, H⟩ := H
  try dsimp only at H
  have A6 := Aside0.mk A60
  clear A60
  by_cases c7 : t293 = 0
  · rw [if_pos c7] at H
    have c7b0 : (t293 == 0) = true := beq_iff_eq.mpr c7
    have c7b1 : (t293 != 0) = false := bne_eq_false_iff_eq.mpr c7
    clear c7
    have HC8 := Aside0.mk H
    clear H
    go_enter Try.func32, Try.ntmps32
    go_upto_region 4 with (first | ((with_reducible refine gate_dst (N := 5) rfl ?_); refine box_event ?hg (N := 5) ?hd (cs := #[.int .i64 a0_0, .int .i64 a0_1, .slice A0_2 l0_2.length c0_2]) (t := 25) ?hr ?_; (case hd => rfl); (case hg => rfl); (case hr => first | (go_simp; done) | (go_simp; rfl)); intro gb290 hg w9 hbox hb; have BK290 := Aside0.mk (hbox); have GW290 := Aside0.mk ((by rw [hg]; exact (below_size (bz HB)) : w.heap.size ≤ gb290)); have GE290 := Aside0.mk ((by rw [hg]; exact (below_size (bz HB)) : w.heap.size ≤ gb290)); replace HB := Aside0.mk (below_step (bz HB) hb); clear hb hbox hg) | ((with_reducible refine gate_dst (N := 6) rfl ?_); refine box_event ?hg (N := 6) ?hd (cs := #[.slice A1_0 l1_0.length c1_0]) (t := 44) ?hr ?_; (case hd => rfl); (case hg => rfl); (case hr => first | (go_simp; done) | (go_simp; rfl)); intro gb291 hg w10 hbox hb; have BK291 := Aside0.mk (hbox); have GW291 := Aside0.mk ((by rw [hg]; exact (below_size (bz HB)) : w.heap.size ≤ gb291)); have GE291 := Aside0.mk ((by rw [hg]; exact (below_size (bz HB)) : w.heap.size ≤ gb291)); replace HB := Aside0.mk (below_step (bz HB) hb); have NB290_291 := nb BK290 hg; have NB291_290 := nc BK290 hg; replace BK290 := bk BK290 hb; clear hb hbox hg) | ((with_reducible refine gate_dst (N := 10) rfl ?_); refine box_event ?hg (N := 10) ?hd (cs := #[.int .i64 0, .slice none 0 0, .int .i64 0, .int .i64 0, .slice none 0 0]) (t := 27) ?hr ?_; (case hd => rfl); (case hg => rfl); (case hr => first | (go_simp; done) | (go_simp; rfl)); intro gb292 hg w11 hbox hb; have BK292 := Aside0.mk (hbox); have GW292 := Aside0.mk ((by rw [hg]; exact (below_size (bz HB)) : w.heap.size ≤ gb292)); have GE292 := Aside0.mk ((by rw [hg]; exact (below_size (bz HB)) : w.heap.size ≤ gb292)); replace HB := Aside0.mk (below_step (bz HB) hb); have NB290_292 := nb BK290 hg; have NB292_290 := nc BK290 hg; replace BK290 := bk BK290 hb; have NB291_292 := nb BK291 hg; have NB292_291 := nc BK291 hg; replace BK291 := bk BK291 hb; clear hb hbox hg) | ((with_reducible refine gate_callee (f := 56) rfl ?_); refine goesL_ (some 14) rfl rfl Try.func56 (by kernel_rfl) rfl #[.pointer (some ⟨gb290, 0, none⟩), .pointer (some ⟨gb291, 0, none⟩)] rfl (by (try simp only [List.map_toArray, List.map_cons, List.map_nil]); first | done | rfl | (simp only [List.length_drop, List.length_take]; rfl)) ?_; (with_reducible refine (spec_l3Asked.calls k _ ([(⟨a0_0, a0_1, l0_2⟩ : S25)]).length [(⟨a0_0, a0_1, l0_2⟩ : S25)] _ ([(⟨l1_0⟩ : S44)]).length [(⟨l1_0⟩ : S44)] t293 _ ?side1 ?side2 ?side3 ?side4 A6.out).mono ?_); (case side1 => refine box_C (d := k25) (cs := #[.int .i64 a0_0, .int .i64 a0_1, .slice A0_2 l0_2.length c0_2]) (t := 25) rfl (k25_mk _ _ ?_ ?_) ?_; (· exact HC0_2.out); (· repeat (first | exact (Kd.C_below HR0_2.out HB.out) | (with_reducible refine Kd.C_alloc ?_ _) | (with_reducible refine Kd.C_drewN ?_ _) | (with_reducible refine Kd.C_drew ?_))); exact by (with_reducible repeat (first | refine blk_drewN ?_ _ | refine blk_drew ?_ | refine blk_alloc ?_ _)); exact BK290.out); (case side2 => exact Nat.le_refl _); (case side3 => refine box_C (d := k44) (cs := #[.slice A1_0 l1_0.length c1_0]) (t := 44) rfl (k44_mk _ _ ?_ ?_) ?_; (· exact HC1_0.out); (· repeat (first | exact (Kd.C_below HR1_0.out HB.out) | (with_reducible refine Kd.C_alloc ?_ _) | (with_reducible refine Kd.C_drewN ?_ _) | (with_reducible refine Kd.C_drew ?_))); exact by (with_reducible repeat (first | refine blk_drewN ?_ _ | refine blk_drew ?_ | refine blk_alloc ?_ _)); exact BK291.out); (case side4 => exact Nat.le_refl _); rintro e w' ⟨rfl, ⟨nd, rfl⟩⟩; refine ⟨_, rfl, ?_⟩))
    (try simp only [Act.put, List.setIfInBounds_toArray, List.set_cons_zero, List.set_cons_succ])
    go_cut [31] (fun v31 wc => ∃ (kq : Nat) (x31_7 : Bool), v31 = .bool x31_7 ∧ Aside0 (spec_ReadRange.j0 kq a2 a3 a4 x31_7 a0_0 a0_1 l0_2 l1_0 = some (r1, r2, r3, r4, r5)) ∧ Aside0 (kq ≤ k) ∧ Aside0 (wc.heap[gb290]? = some (.cells #[.int .i64 a0_0, .int .i64 a0_1, (.slice A0_2 l0_2.length c0_2)] 25 (0, 0))) ∧ Aside0 (wc.heap[gb291]? = some (.cells #[(.slice A1_0 l1_0.length c1_0)] 44 (0, 0))) ∧ Aside0 (wc.heap[gb292]? = some (.cells #[.int .i64 0, (.slice none 0 0), .int .i64 0, .int .i64 0, (.slice none 0 0)] 27 (0, 0))) ∧ Aside0 (Below w.heap.size w wc))
    case first =>
      have H := HC8.out
      clear HC8
      replace H := Option.bind_eq_some_iff.mp H
      obtain ⟨t303, A120, H⟩ := H
      try dsimp only at H
      have A12 := Aside0.mk A120
      clear A120
      by_cases c13 : t303 = true
      · subst c13
        rw [if_pos rfl] at H
        replace H := Option.bind_eq_some_iff.mp H
        obtain ⟨t304, A140, H⟩ := H
        try dsimp only at H
        have A14 := Aside0.mk A140
        clear A140
        by_cases c15 : t304 = true
        · subst c15
          rw [if_pos rfl] at H
          replace H := Option.bind_eq_some_iff.mp H
          obtain ⟨t305, A160, H⟩ := H
          try dsimp only at H
          have A16 := Aside0.mk A160
          clear A160
          have H' := Aside0.mk H
          clear H
          go_wp2_with (first | ((with_reducible refine gate_callee (f := 43) rfl ?_); refine goesL_ (some 20) rfl rfl Try.func43 (by kernel_rfl) rfl #[.int .i64 a2, .int .i64 0, .int .i64 400] rfl (by (try simp only [List.map_toArray, List.map_cons, List.map_nil]); first | done | rfl | (simp only [List.length_drop, List.length_take]; rfl)) ?_; (with_reducible refine (spec_l1In.calls a2 0 400 true _ A12.out).mono ?_); rintro e w' ⟨rfl, ⟨nd, rfl⟩⟩; refine ⟨_, rfl, ?_⟩) | (go_at_call 43; (with_reducible refine (spec_l1In.calls a3 0 400 true _ A14.out).mono ?_); rintro e w' ⟨rfl, ⟨nd, rfl⟩⟩) | (go_at_call 43; (with_reducible refine (spec_l1In.calls a4 1 400 t305 _ A16.out).mono ?_); rintro e w' ⟨rfl, ⟨nd, rfl⟩⟩))
          go_meet
          case rel => exact ⟨_, (!t305), (by first | rfl | (simp; done) | (simp [*]; done)), H', ⟨by first | omega | exact Nat.le_refl _⟩, ⟨by (with_reducible repeat (first | refine blk_drewN ?_ _ | refine blk_drew ?_ | refine blk_alloc ?_ _)); exact BK290.out⟩, ⟨by (with_reducible repeat (first | refine blk_drewN ?_ _ | refine blk_drew ?_ | refine blk_alloc ?_ _)); exact BK291.out⟩, ⟨by (with_reducible repeat (first | refine blk_drewN ?_ _ | refine blk_drew ?_ | refine blk_alloc ?_ _)); exact BK292.out⟩, ⟨by repeat (first | (with_reducible first | exact HB.out | apply below_alloc | apply pw_below_drewN | apply below_drew1 | refine below_set ?_ GE290.out | refine below_set ?_ GE291.out | refine below_set ?_ GE292.out) | exact HB.out)⟩⟩
        · replace c15 := Bool.eq_false_iff.mpr c15
          subst c15
          have H1 : (spec_ReadRange.j0 k a2 a3 a4 true a0_0 a0_1 l0_2 l1_0) = some (r1, r2, r3, r4, r5) := by rw [if_neg (show ¬ (false = true) by decide)] at H; exact H
          clear H
          have H := H1
          clear H1
          have H' := Aside0.mk H
          clear H
          go_wp2_with (first | ((with_reducible refine gate_callee (f := 43) rfl ?_); refine goesL_ (some 20) rfl rfl Try.func43 (by kernel_rfl) rfl #[.int .i64 a2, .int .i64 0, .int .i64 400] rfl (by (try simp only [List.map_toArray, List.map_cons, List.map_nil]); first | done | rfl | (simp only [List.length_drop, List.length_take]; rfl)) ?_; (with_reducible refine (spec_l1In.calls a2 0 400 true _ A12.out).mono ?_); rintro e w' ⟨rfl, ⟨nd, rfl⟩⟩; refine ⟨_, rfl, ?_⟩) | (go_at_call 43; (with_reducible refine (spec_l1In.calls a3 0 400 false _ A14.out).mono ?_); rintro e w' ⟨rfl, ⟨nd, rfl⟩⟩))
          go_meet
          case rel => exact ⟨_, (true), (by first | rfl | (simp; done) | (simp [*]; done)), H', ⟨by first | omega | exact Nat.le_refl _⟩, ⟨by (with_reducible repeat (first | refine blk_drewN ?_ _ | refine blk_drew ?_ | refine blk_alloc ?_ _)); exact BK290.out⟩, ⟨by (with_reducible repeat (first | refine blk_drewN ?_ _ | refine blk_drew ?_ | refine blk_alloc ?_ _)); exact BK291.out⟩, ⟨by (with_reducible repeat (first | refine blk_drewN ?_ _ | refine blk_drew ?_ | refine blk_alloc ?_ _)); exact BK292.out⟩, ⟨by repeat (first | (with_reducible first | exact HB.out | apply below_alloc | apply pw_below_drewN | apply below_drew1 | refine below_set ?_ GE290.out | refine below_set ?_ GE291.out | refine below_set ?_ GE292.out) | exact HB.out)⟩⟩
      · replace c13 := Bool.eq_false_iff.mpr c13
        subst c13
        have H1 : (spec_ReadRange.j0 k a2 a3 a4 true a0_0 a0_1 l0_2 l1_0) = some (r1, r2, r3, r4, r5) := by rw [if_neg (show ¬ (false = true) by decide)] at H; exact H
        clear H
        have H := H1
        clear H1
        have H' := Aside0.mk H
        clear H
        go_wp2_with (first | ((with_reducible refine gate_callee (f := 43) rfl ?_); refine goesL_ (some 20) rfl rfl Try.func43 (by kernel_rfl) rfl #[.int .i64 a2, .int .i64 0, .int .i64 400] rfl (by (try simp only [List.map_toArray, List.map_cons, List.map_nil]); first | done | rfl | (simp only [List.length_drop, List.length_take]; rfl)) ?_; (with_reducible refine (spec_l1In.calls a2 0 400 false _ A12.out).mono ?_); rintro e w' ⟨rfl, ⟨nd, rfl⟩⟩; refine ⟨_, rfl, ?_⟩))
        go_meet
        case rel => exact ⟨_, (true), (by first | rfl | (simp; done) | (simp [*]; done)), H', ⟨by first | omega | exact Nat.le_refl _⟩, ⟨by (with_reducible repeat (first | refine blk_drewN ?_ _ | refine blk_drew ?_ | refine blk_alloc ?_ _)); exact BK290.out⟩, ⟨by (with_reducible repeat (first | refine blk_drewN ?_ _ | refine blk_drew ?_ | refine blk_alloc ?_ _)); exact BK291.out⟩, ⟨by (with_reducible repeat (first | refine blk_drewN ?_ _ | refine blk_drew ?_ | refine blk_alloc ?_ _)); exact BK292.out⟩, ⟨by repeat (first | (with_reducible first | exact HB.out | apply below_alloc | apply pw_below_drewN | apply below_drew1 | refine below_set ?_ GE290.out | refine below_set ?_ GE291.out | refine below_set ?_ GE292.out) | exact HB.out)⟩⟩
    case rest =>
      clear HC8
      try clear c1
      try clear p2
      try clear c3
      try clear c4
      try clear c5
      try clear c7
      try clear c7b0
      try clear c7b1
      try clear c13
      try clear c15
      obtain ⟨kq, x31_7, rfl, HA, HJ7, BK290, BK291, BK292, HB⟩ := hcut
      cases kq with
      | zero => exact absurd HA.out (by simp [spec_ReadRange.j0])
      | succ kj7 =>
        have H := HA.out
        clear HA
        simp only [spec_ReadRange.j0] at H
        by_cases c17 : x31_7 = true
        · subst c17
          rw [if_pos rfl] at H
          replace H := Option.bind_eq_some_iff.mp H
          obtain ⟨⟨t306, t307, t310, t311, t312⟩, A180, H⟩ := H
          try dsimp only at H
          have A18 := Aside0.mk A180
          clear A180
          simp only [Option.some.injEq, Prod.mk.injEq] at H
          obtain ⟨rfl, rfl, rfl, rfl, rfl⟩ := H
          go_wp2_with (first | ((with_reducible refine gate_callee (f := 44) rfl ?_); refine goesL_ (some 32) rfl rfl Try.func44 (by kernel_rfl) rfl #[.int .i64 3] rfl (by (try simp only [List.map_toArray, List.map_cons, List.map_nil]); first | done | rfl | (simp only [List.length_drop, List.length_take]; rfl)) ?_; (with_reducible refine (spec_l3Bad.calls 3 t306 t307 t310 t311 t312 _ A18.out).mono ?_); rintro e w19 ⟨v308, v313, rfl, ho0, ho1, hb⟩; refine ⟨_, rfl, ?_⟩; have HO309 := Aside0.mk (Kd.R_lower (Kd.R_newM (M := fun k_ => (w.heap.size ≤ k_)) ho0 (below_size (bz HB)) (fun k_ h_ => h_)) (below_size (bz HB))); have HO314 := Aside0.mk (Kd.S_lower (Kd.S_newM (M := fun k_ => (w.heap.size ≤ k_)) ho1 (below_size (bz HB)) (fun k_ h_ => h_)) (below_size (bz HB))); replace BK290 := bk BK290 hb; replace BK291 := bk BK291 hb; replace BK292 := bk BK292 hb; replace HB := Aside0.mk (below_step (bz HB) hb); (try clear hb); (try clear hb2); (try clear hk); (try clear hi); (try clear ho0); (try clear ho1); have hnb20 := NB292_290.out; have hnc20 := NB290_292.out; have hnb21 := NB292_291.out; have hnc21 := NB291_292.out; have hcz22_0 : w19.cell? ⟨gb292, 0, none⟩ = some (.int .i64 0) := (blk_cell BK292.out 0).trans rfl; have hcz22_1 : w19.cell? ⟨gb292, 1, none⟩ = some (.slice none 0 0) := (blk_cell BK292.out 1).trans rfl; have hcz22_2 : w19.cell? ⟨gb292, 2, none⟩ = some (.int .i64 0) := (blk_cell BK292.out 2).trans rfl; have hcz22_3 : w19.cell? ⟨gb292, 3, none⟩ = some (.int .i64 0) := (blk_cell BK292.out 3).trans rfl; have hcz22_4 : w19.cell? ⟨gb292, 4, none⟩ = some (.slice none 0 0) := (blk_cell BK292.out 4).trans rfl; have hfz22_0 := blk_frozen BK292.out 0; have hfz22_1 := blk_frozen BK292.out 1; have hfz22_2 := blk_frozen BK292.out 2; have hfz22_3 := blk_frozen BK292.out 3; have hfz22_4 := blk_frozen BK292.out 4; obtain ⟨Ao23, co23, eo23⟩ := Kd.R_slice HO309.out; subst eo23; obtain ⟨Ao24, co24, eo24⟩ := Kd.S_slice HO314.out; subst eo24))
          refine bodyPost_ret (results_cell_row rfl _ _ gb292 27 #[.int .i64 t306, .slice Ao23 t307.length co23, .int .i64 t310, .int .i64 t311, .slice Ao24 t312.length co24] (0, 0) _ rfl (by (with_reducible repeat (first | refine blk_drewN ?_ _ | refine blk_drew ?_ | refine blk_alloc ?_ _)); refine blk_put (cs := #[.int .i64 t306, .slice Ao23 t307.length co23, .int .i64 t310, .int .i64 t311, .slice none 0 0]) ?_ 4 _ rfl; refine blk_put (cs := #[.int .i64 t306, .slice Ao23 t307.length co23, .int .i64 t310, .int .i64 0, .slice none 0 0]) ?_ 3 _ rfl; refine blk_put (cs := #[.int .i64 t306, .slice Ao23 t307.length co23, .int .i64 0, .int .i64 0, .slice none 0 0]) ?_ 2 _ rfl; refine blk_put (cs := #[.int .i64 t306, .slice none 0 0, .int .i64 0, .int .i64 0, .slice none 0 0]) ?_ 1 _ rfl; refine blk_put (cs := #[.int .i64 0, .slice none 0 0, .int .i64 0, .int .i64 0, .slice none 0 0]) ?_ 0 _ rfl; (with_reducible repeat (first | refine blk_drewN ?_ _ | refine blk_drew ?_ | refine blk_alloc ?_ _)); exact BK292.out) Try.underlying27 rfl (by kernel_rfl)) rfl ?_
          exact ⟨_, _, by first | rfl | (simp [errW_none, errW_some] <;> rfl) | (simp [*, errW_none, errW_some] <;> rfl), by (with_reducible repeat (first | apply Kd.R_alloc | apply Kd.R_drewN | apply Kd.R_drew)); exact Kd.R_mono (Kd.R_far (p := ⟨gb292, 4, none⟩) (Kd.R_far (p := ⟨gb292, 3, none⟩) (Kd.R_far (p := ⟨gb292, 2, none⟩) (Kd.R_far (p := ⟨gb292, 1, none⟩) (Kd.R_far (p := ⟨gb292, 0, none⟩) (Kd.R_types HO309.out BK292.out (by decide)) (fun _ hk => hk.2) (.int .i64 t306)) (fun _ hk => hk.2) (.slice Ao23 t307.length co23)) (fun _ hk => hk.2) (.int .i64 t310)) (fun _ hk => hk.2) (.int .i64 t311)) (fun _ hk => hk.2) (.slice Ao24 t312.length co24)) (fun _ hk => hk.1.1), Kd.S_V (by (with_reducible repeat (first | apply Kd.S_alloc | apply Kd.S_drewN | apply Kd.S_drew)); exact Kd.S_mono (Kd.S_far (p := ⟨gb292, 4, none⟩) (Kd.S_far (p := ⟨gb292, 3, none⟩) (Kd.S_far (p := ⟨gb292, 2, none⟩) (Kd.S_far (p := ⟨gb292, 1, none⟩) (Kd.S_far (p := ⟨gb292, 0, none⟩) (Kd.S_types HO314.out BK292.out (by decide)) (fun _ hk => hk.2) (.int .i64 t306)) (fun _ hk => hk.2) (.slice Ao23 t307.length co23)) (fun _ hk => hk.2) (.int .i64 t310)) (fun _ hk => hk.2) (.int .i64 t311)) (fun _ hk => hk.2) (.slice Ao24 t312.length co24)) (fun _ hk => ⟨hk.1.1, hk.1.2⟩)), by repeat (first | (with_reducible first | exact HB.out | apply below_alloc | apply pw_below_drewN | apply below_drew1 | refine below_set ?_ GE290.out | refine below_set ?_ GE291.out | refine below_set ?_ GE292.out) | exact HB.out)⟩
        · replace c17 := Bool.eq_false_iff.mpr c17
          subst c17
          have H1 : ((spec_l3Less.f kj7 a0_0 a0_1 l0_2 (-1)).bind fun bt315 => ((spec_l3Range.f kj7 bt315.1 bt315.2.1 bt315.2.2 [(⟨l1_0⟩ : S44)] a2 a3 a4).bind fun bt320 => (some (0, bt320.1, bt320.2.1, bt320.2.2.1, bt320.2.2.2)))) = some (r1, r2, r3, r4, r5) := by rw [if_neg (show ¬ (false = true) by decide)] at H; exact H
          clear H
          have H := H1
          clear H1
          replace H := Option.bind_eq_some_iff.mp H
          obtain ⟨⟨t315, t316, t317⟩, A250, H⟩ := H
          try dsimp only at H
          have A25 := Aside0.mk A250
          clear A250
          replace H := Option.bind_eq_some_iff.mp H
          obtain ⟨⟨t320, t323, t324, t325⟩, A260, H⟩ := H
          try dsimp only at H
          have A26 := Aside0.mk A260
          clear A260
          simp only [Option.some.injEq, Prod.mk.injEq] at H
          obtain ⟨rfl, rfl, rfl, rfl, rfl⟩ := H
          have hnb27 := NB290_291.out
          have hnc27 := NB291_290.out
          have hnb28 := NB290_292.out
          have hnc28 := NB292_290.out
          have hcz29_0 : wc.cell? ⟨gb290, 0, none⟩ = some (.int .i64 a0_0) := (blk_cell BK290.out 0).trans rfl
          have hcz29_1 : wc.cell? ⟨gb290, 1, none⟩ = some (.int .i64 a0_1) := (blk_cell BK290.out 1).trans rfl
          have hcz29_2 : wc.cell? ⟨gb290, 2, none⟩ = some (.slice A0_2 l0_2.length c0_2) := (blk_cell BK290.out 2).trans rfl
          have hfz29_0 := blk_frozen BK290.out 0
          have hfz29_1 := blk_frozen BK290.out 1
          have hfz29_2 := blk_frozen BK290.out 2
          go_wp2_with (first | ((with_reducible refine gate_callee (f := 71) rfl ?_); refine goesL_ (some 35) rfl rfl Try.func71 (by kernel_rfl) rfl #[.agg #[.int .i64 a0_0, .int .i64 a0_1, .slice A0_2 l0_2.length c0_2], .int .i64 (-1)] rfl (by (try simp only [List.map_toArray, List.map_cons, List.map_nil]); first | done | rfl | (simp only [List.length_drop, List.length_take]; rfl)) ?_; (with_reducible refine (spec_l3Less.calls kj7 a0_0 a0_1 _ _ l0_2 (-1) t315 t316 t317 _ ?side1 ?side2 A25.out).mono ?_); (case side1 => repeat (first | exact (Kd.C_below HR0_2.out HB.out) | (with_reducible refine Kd.C_alloc ?_ _) | (with_reducible refine Kd.C_drewN ?_ _) | (with_reducible refine Kd.C_drew ?_))); (case side2 => exact HC0_2.out); rintro e w30 ⟨v318, rfl, ho0, hb⟩; refine ⟨_, rfl, ?_⟩; have HO319 := Aside0.mk (Kd.S_lower (Kd.S_newM (M := fun k_ => (w.heap.size ≤ k_)) ho0 (below_size (bz HB)) (fun k_ h_ => h_)) (below_size (bz HB))); replace BK290 := bk BK290 hb; replace BK291 := bk BK291 hb; replace BK292 := bk BK292 hb; replace HB := Aside0.mk (below_step (bz HB) hb); (try clear hb); (try clear hb2); (try clear hk); (try clear hi); (try clear ho0); obtain ⟨Ao31, co31, eo31⟩ := Kd.S_slice HO319.out; subst eo31) | ((with_reducible refine gate_callee (f := 70) rfl ?_); refine goesL_ (some 39) rfl rfl Try.func70 (by kernel_rfl) rfl #[.agg #[.int .i64 t315, .int .i64 t316, .slice Ao31 t317.length co31], .pointer (some ⟨gb291, 0, none⟩), .int .i64 a2, .int .i64 a3, .int .i64 a4] rfl (by (try simp only [List.map_toArray, List.map_cons, List.map_nil]); first | done | rfl | (simp only [List.length_drop, List.length_take]; rfl)) ?_; (with_reducible refine (spec_l3Range.calls kj7 t315 t316 (fun k_ => (((((w.heap.size ≤ k_) ∧ True) ∧ k_ ≠ gb290) ∧ k_ ≠ gb291) ∧ k_ ≠ gb292)) _ _ t317 _ ([(⟨l1_0⟩ : S44)]).length [(⟨l1_0⟩ : S44)] a2 a3 a4 t320 t323 t324 t325 _ ?side1 ?side2 ?side3 A26.out).mono ?_); (case side1 => exact Kd.S_V (Kd.S_types (Kd.S_types (Kd.S_types (HO319.out) BK290.out (by decide)) BK291.out (by decide)) BK292.out (by decide))); (case side2 => refine box_C (d := k44) (cs := #[.slice A1_0 l1_0.length c1_0]) (t := 44) rfl (k44_mk _ _ ?_ ?_) ?_; (· exact HC1_0.out); (· repeat (first | exact (Kd.C_below HR1_0.out HB.out) | (with_reducible refine Kd.C_alloc ?_ _) | (with_reducible refine Kd.C_drewN ?_ _) | (with_reducible refine Kd.C_drew ?_))); exact by (with_reducible repeat (first | refine blk_drewN ?_ _ | refine blk_drew ?_ | refine blk_alloc ?_ _)); exact BK291.out); (case side3 => exact Nat.le_refl _); rintro e w32 ⟨v321, v326, rfl, ho0, ho1, hb⟩; refine ⟨_, rfl, ?_⟩; replace HO319 := Aside0.mk (Kd.S_elder' (by (with_reducible repeat (first | apply Kd.S_alloc | apply Kd.S_drewN | apply Kd.S_drew)); exact HO319.out) (Kd.R_base ho0) hb); have HO322 := Aside0.mk (Kd.R_lower (Kd.R_newM (M := fun k_ => (w.heap.size ≤ k_)) (Kd.R_mono (ok' := fun k_ => True) ho0 (fun _ hk_ => trivial)) (below_size (bz HB)) (fun k_ h_ => h_)) (below_size (bz HB))); have HO327 := Aside0.mk (Kd.V_lower (Kd.V_mono (ok' := fun k_ => (w.heap.size ≤ k_) ∧ some k_ ≠ (v321 : Value).ownBlock ∧ k_ ≠ gb290 ∧ k_ ≠ gb291 ∧ k_ ≠ gb292) ho1 (fun k_ hk_ => ⟨Or.elim hk_.1 (fun hs_ => hs_.1.1.1.1) (fun hn_ => (Nat.le_trans (below_size (bz HB)) hn_)), hk_.2, Or.elim hk_.1 (fun hs_ => hs_.1.1.2) (fun hn_ => (Kd.freshB (g := gb290) (o := .cells #[.int .i64 a0_0, .int .i64 a0_1, .slice A0_2 l0_2.length c0_2] 25 (0, 0)) (by (with_reducible repeat (first | refine blk_drewN ?_ _ | refine blk_drew ?_ | refine blk_alloc ?_ _)); exact BK290.out) k_ hn_)), Or.elim hk_.1 (fun hs_ => hs_.1.2) (fun hn_ => (Kd.freshB (g := gb291) (o := .cells #[.slice A1_0 l1_0.length c1_0] 44 (0, 0)) (by (with_reducible repeat (first | refine blk_drewN ?_ _ | refine blk_drew ?_ | refine blk_alloc ?_ _)); exact BK291.out) k_ hn_)), Or.elim hk_.1 (fun hs_ => hs_.2) (fun hn_ => (Kd.freshB (g := gb292) (o := .cells #[.int .i64 0, .slice none 0 0, .int .i64 0, .int .i64 0, .slice none 0 0] 27 (0, 0)) (by (with_reducible repeat (first | refine blk_drewN ?_ _ | refine blk_drew ?_ | refine blk_alloc ?_ _)); exact BK292.out) k_ hn_))⟩)) (below_size (bz HB))); replace BK290 := bk BK290 hb; replace BK291 := bk BK291 hb; replace BK292 := bk BK292 hb; replace HB := Aside0.mk (below_step (bz HB) hb); (try clear hb); (try clear hb2); (try clear hk); (try clear hi); (try clear ho0); (try clear ho1)) | ((with_reducible refine gate_dst (N := 13) rfl ?_); refine box_event ?hg (N := 13) ?hd (cs := #[.int .i64 0, .int .i64 0, .slice none 0 0]) (t := 25) ?hr ?_; (case hd => rfl); (case hg => rfl); (case hr => first | (go_simp; done) | (go_simp; rfl)); intro gb328 hg w33 hbox hb; replace HO319 := Aside0.mk (Kd.S_below (by (with_reducible repeat (first | apply Kd.S_alloc | apply Kd.S_drewN | apply Kd.S_drew)); exact HO319.out) hb); replace HO322 := rb HO322 hb; replace HO327 := Aside0.mk (Kd.V_below (Kd.V_elderB (by (with_reducible repeat (first | apply Kd.V_alloc | apply Kd.V_drewN | apply Kd.V_drew)); exact HO327.out) gb328 (Nat.le_of_eq hg.symm)) hb); have BK328 := Aside0.mk (hbox); have GW328 := Aside0.mk ((by rw [hg]; exact (below_size (bz HB)) : w.heap.size ≤ gb328)); have GE328 := Aside0.mk ((by rw [hg]; exact (below_size (bz HB)) : w.heap.size ≤ gb328)); replace HB := Aside0.mk (below_step (bz HB) hb); have NB290_328 := nb BK290 hg; have NB328_290 := nc BK290 hg; replace BK290 := bk BK290 hb; have NB291_328 := nb BK291 hg; have NB328_291 := nc BK291 hg; replace BK291 := bk BK291 hb; have NB292_328 := nb BK292 hg; have NB328_292 := nc BK292 hg; replace BK292 := bk BK292 hb; clear hb hbox hg; have hnb34 := NB328_290.out; have hnc34 := NB290_328.out; have hnb35 := NB328_291.out; have hnc35 := NB291_328.out; have hnb36 := NB328_292.out; have hnc36 := NB292_328.out; have hcz37_0 : w33.cell? ⟨gb328, 0, none⟩ = some (.int .i64 0) := (blk_cell BK328.out 0).trans rfl; have hcz37_1 : w33.cell? ⟨gb328, 1, none⟩ = some (.int .i64 0) := (blk_cell BK328.out 1).trans rfl; have hcz37_2 : w33.cell? ⟨gb328, 2, none⟩ = some (.slice none 0 0) := (blk_cell BK328.out 2).trans rfl; have hfz37_0 := blk_frozen BK328.out 0; have hfz37_1 := blk_frozen BK328.out 1; have hfz37_2 := blk_frozen BK328.out 2; obtain ⟨Ao38, co38, eo38⟩ := Kd.V_slice HO327.out; subst eo38; obtain ⟨Ao39, co39, eo39⟩ := Kd.R_slice HO322.out; subst eo39; have hnb40 := NB292_291.out; have hnc40 := NB291_292.out; have hcz41_0 : w33.cell? ⟨gb292, 0, none⟩ = some (.int .i64 0) := (blk_cell BK292.out 0).trans rfl; have hcz41_1 : w33.cell? ⟨gb292, 1, none⟩ = some (.slice none 0 0) := (blk_cell BK292.out 1).trans rfl; have hcz41_2 : w33.cell? ⟨gb292, 2, none⟩ = some (.int .i64 0) := (blk_cell BK292.out 2).trans rfl; have hcz41_3 : w33.cell? ⟨gb292, 3, none⟩ = some (.int .i64 0) := (blk_cell BK292.out 3).trans rfl; have hcz41_4 : w33.cell? ⟨gb292, 4, none⟩ = some (.slice none 0 0) := (blk_cell BK292.out 4).trans rfl; have hfz41_0 := blk_frozen BK292.out 0; have hfz41_1 := blk_frozen BK292.out 1; have hfz41_2 := blk_frozen BK292.out 2; have hfz41_3 := blk_frozen BK292.out 3; have hfz41_4 := blk_frozen BK292.out 4))
          refine bodyPost_ret (results_cell_row rfl _ _ gb292 27 #[.int .i64 0, .slice Ao39 t320.length co39, .int .i64 t323, .int .i64 t324, .slice Ao38 t325.length co38] (0, 0) _ rfl (by (with_reducible repeat (first | refine blk_drewN ?_ _ | refine blk_drew ?_ | refine blk_alloc ?_ _)); refine blk_put (cs := #[.int .i64 0, .slice Ao39 t320.length co39, .int .i64 t323, .int .i64 t324, .slice none 0 0]) ?_ 4 _ rfl; refine blk_put (cs := #[.int .i64 0, .slice Ao39 t320.length co39, .int .i64 t323, .int .i64 0, .slice none 0 0]) ?_ 3 _ rfl; refine blk_put (cs := #[.int .i64 0, .slice Ao39 t320.length co39, .int .i64 0, .int .i64 0, .slice none 0 0]) ?_ 2 _ rfl; refine blk_put (cs := #[.int .i64 0, .slice none 0 0, .int .i64 0, .int .i64 0, .slice none 0 0]) ?_ 1 _ rfl; refine blk_put (cs := #[.int .i64 0, .slice none 0 0, .int .i64 0, .int .i64 0, .slice none 0 0]) ?_ 0 _ rfl; refine blk_far ?_ NB292_328.out _; refine blk_far ?_ NB292_328.out _; refine blk_far ?_ NB292_328.out _; (with_reducible repeat (first | refine blk_drewN ?_ _ | refine blk_drew ?_ | refine blk_alloc ?_ _)); exact BK292.out) Try.underlying27 rfl (by kernel_rfl)) rfl ?_
          exact ⟨_, _, by first | rfl | (simp [errW_none, errW_some] <;> rfl) | (simp [*, errW_none, errW_some] <;> rfl), by (with_reducible repeat (first | apply Kd.R_alloc | apply Kd.R_drewN | apply Kd.R_drew)); exact Kd.R_mono (Kd.R_far (p := ⟨gb292, 4, none⟩) (Kd.R_far (p := ⟨gb292, 3, none⟩) (Kd.R_far (p := ⟨gb292, 2, none⟩) (Kd.R_far (p := ⟨gb292, 1, none⟩) (Kd.R_far (p := ⟨gb292, 0, none⟩) (Kd.R_far (p := ⟨gb328, 2, none⟩) (Kd.R_far (p := ⟨gb328, 1, none⟩) (Kd.R_far (p := ⟨gb328, 0, none⟩) (Kd.R_types (Kd.R_types HO322.out BK328.out (by decide)) BK292.out (by decide)) (fun _ hk => hk.1.2) (.int .i64 t323)) (fun _ hk => hk.1.2) (.int .i64 t324)) (fun _ hk => hk.1.2) (.slice Ao38 t325.length co38)) (fun _ hk => hk.2) (.int .i64 0)) (fun _ hk => hk.2) (.slice Ao39 t320.length co39)) (fun _ hk => hk.2) (.int .i64 t323)) (fun _ hk => hk.2) (.int .i64 t324)) (fun _ hk => hk.2) (.slice Ao38 t325.length co38)) (fun _ hk => hk.1.1.1), by (with_reducible repeat (first | apply Kd.V_alloc | apply Kd.V_drewN | apply Kd.V_drew)); exact Kd.V_mono (Kd.V_far (p := ⟨gb292, 4, none⟩) (Kd.V_far (p := ⟨gb292, 3, none⟩) (Kd.V_far (p := ⟨gb292, 2, none⟩) (Kd.V_far (p := ⟨gb292, 1, none⟩) (Kd.V_far (p := ⟨gb292, 0, none⟩) (Kd.V_far (p := ⟨gb328, 2, none⟩) (Kd.V_far (p := ⟨gb328, 1, none⟩) (Kd.V_far (p := ⟨gb328, 0, none⟩) (Kd.V_mono (Kd.V_mono HO327.out (fun k_ hk => (⟨hk, hk.2⟩ : _ ∧ k_ ≠ gb328))) (fun k_ hk => (⟨hk, hk.1.1.2.2.2.2⟩ : _ ∧ k_ ≠ gb292))) (fun _ hk => hk.1.2) (.int .i64 t323)) (fun _ hk => hk.1.2) (.int .i64 t324)) (fun _ hk => hk.1.2) (.slice Ao38 t325.length co38)) (fun _ hk => hk.2) (.int .i64 0)) (fun _ hk => hk.2) (.slice Ao39 t320.length co39)) (fun _ hk => hk.2) (.int .i64 t323)) (fun _ hk => hk.2) (.int .i64 t324)) (fun _ hk => hk.2) (.slice Ao38 t325.length co38)) (fun _ hk => ⟨hk.1.1.1.1, hk.1.1.1.2.1⟩), by repeat (first | (with_reducible first | exact HB.out | apply below_alloc | apply pw_below_drewN | apply below_drew1 | refine below_set ?_ GE290.out | refine below_set ?_ GE291.out | refine below_set ?_ GE292.out | refine below_set ?_ GE328.out) | exact HB.out)⟩
  · rw [if_neg c7] at H
    have c7b0 : (t293 == 0) = false := beq_eq_false_iff_ne.mpr c7
    have c7b1 : (t293 != 0) = true := bne_iff_ne.mpr c7
    replace H := Option.bind_eq_some_iff.mp H
    obtain ⟨⟨t294, t295, t298, t299, t300⟩, A420, H⟩ := H
    try dsimp only at H
    have A42 := Aside0.mk A420
    clear A420
    simp only [Option.some.injEq, Prod.mk.injEq] at H
    obtain ⟨rfl, rfl, rfl, rfl, rfl⟩ := H
    go_enter Try.func32, Try.ntmps32
    go_wp2_with (first | ((with_reducible refine gate_dst (N := 5) rfl ?_); refine box_event ?hg (N := 5) ?hd (cs := #[.int .i64 a0_0, .int .i64 a0_1, .slice A0_2 l0_2.length c0_2]) (t := 25) ?hr ?_; (case hd => rfl); (case hg => rfl); (case hr => first | (go_simp; done) | (go_simp; rfl)); intro gb290 hg w43 hbox hb; have BK290 := Aside0.mk (hbox); have GW290 := Aside0.mk ((by rw [hg]; exact (below_size (bz HB)) : w.heap.size ≤ gb290)); have GE290 := Aside0.mk ((by rw [hg]; exact (below_size (bz HB)) : w.heap.size ≤ gb290)); replace HB := Aside0.mk (below_step (bz HB) hb); clear hb hbox hg) | ((with_reducible refine gate_dst (N := 6) rfl ?_); refine box_event ?hg (N := 6) ?hd (cs := #[.slice A1_0 l1_0.length c1_0]) (t := 44) ?hr ?_; (case hd => rfl); (case hg => rfl); (case hr => first | (go_simp; done) | (go_simp; rfl)); intro gb291 hg w44 hbox hb; have BK291 := Aside0.mk (hbox); have GW291 := Aside0.mk ((by rw [hg]; exact (below_size (bz HB)) : w.heap.size ≤ gb291)); have GE291 := Aside0.mk ((by rw [hg]; exact (below_size (bz HB)) : w.heap.size ≤ gb291)); replace HB := Aside0.mk (below_step (bz HB) hb); have NB290_291 := nb BK290 hg; have NB291_290 := nc BK290 hg; replace BK290 := bk BK290 hb; clear hb hbox hg) | ((with_reducible refine gate_dst (N := 10) rfl ?_); refine box_event ?hg (N := 10) ?hd (cs := #[.int .i64 0, .slice none 0 0, .int .i64 0, .int .i64 0, .slice none 0 0]) (t := 27) ?hr ?_; (case hd => rfl); (case hg => rfl); (case hr => first | (go_simp; done) | (go_simp; rfl)); intro gb292 hg w45 hbox hb; have BK292 := Aside0.mk (hbox); have GW292 := Aside0.mk ((by rw [hg]; exact (below_size (bz HB)) : w.heap.size ≤ gb292)); have GE292 := Aside0.mk ((by rw [hg]; exact (below_size (bz HB)) : w.heap.size ≤ gb292)); replace HB := Aside0.mk (below_step (bz HB) hb); have NB290_292 := nb BK290 hg; have NB292_290 := nc BK290 hg; replace BK290 := bk BK290 hb; have NB291_292 := nb BK291 hg; have NB292_291 := nc BK291 hg; replace BK291 := bk BK291 hb; clear hb hbox hg) | ((with_reducible refine gate_callee (f := 56) rfl ?_); refine goesL_ (some 14) rfl rfl Try.func56 (by kernel_rfl) rfl #[.pointer (some ⟨gb290, 0, none⟩), .pointer (some ⟨gb291, 0, none⟩)] rfl (by (try simp only [List.map_toArray, List.map_cons, List.map_nil]); first | done | rfl | (simp only [List.length_drop, List.length_take]; rfl)) ?_; (with_reducible refine (spec_l3Asked.calls k _ ([(⟨a0_0, a0_1, l0_2⟩ : S25)]).length [(⟨a0_0, a0_1, l0_2⟩ : S25)] _ ([(⟨l1_0⟩ : S44)]).length [(⟨l1_0⟩ : S44)] t293 _ ?side1 ?side2 ?side3 ?side4 A6.out).mono ?_); (case side1 => refine box_C (d := k25) (cs := #[.int .i64 a0_0, .int .i64 a0_1, .slice A0_2 l0_2.length c0_2]) (t := 25) rfl (k25_mk _ _ ?_ ?_) ?_; (· exact HC0_2.out); (· repeat (first | exact (Kd.C_below HR0_2.out HB.out) | (with_reducible refine Kd.C_alloc ?_ _) | (with_reducible refine Kd.C_drewN ?_ _) | (with_reducible refine Kd.C_drew ?_))); exact by (with_reducible repeat (first | refine blk_drewN ?_ _ | refine blk_drew ?_ | refine blk_alloc ?_ _)); exact BK290.out); (case side2 => exact Nat.le_refl _); (case side3 => refine box_C (d := k44) (cs := #[.slice A1_0 l1_0.length c1_0]) (t := 44) rfl (k44_mk _ _ ?_ ?_) ?_; (· exact HC1_0.out); (· repeat (first | exact (Kd.C_below HR1_0.out HB.out) | (with_reducible refine Kd.C_alloc ?_ _) | (with_reducible refine Kd.C_drewN ?_ _) | (with_reducible refine Kd.C_drew ?_))); exact by (with_reducible repeat (first | refine blk_drewN ?_ _ | refine blk_drew ?_ | refine blk_alloc ?_ _)); exact BK291.out); (case side4 => exact Nat.le_refl _); rintro e w' ⟨rfl, ⟨nd, rfl⟩⟩; refine ⟨_, rfl, ?_⟩; (try (rw [drewN_self w45]; generalize hq_ : World.drewN w45 _ = w45; have n0_ : Aside0 (w45.heap[gb290]? = some (.cells #[.int .i64 a0_0, .int .i64 a0_1, .slice A0_2 l0_2.length c0_2] 25 (0, 0))) := ⟨by rw [← hq_]; exact (by (with_reducible repeat (first | refine blk_drewN ?_ _ | refine blk_drew ?_ | refine blk_alloc ?_ _)); exact BK290.out)⟩; have n1_ : Aside0 (w45.heap[gb291]? = some (.cells #[.slice A1_0 l1_0.length c1_0] 44 (0, 0))) := ⟨by rw [← hq_]; exact (by (with_reducible repeat (first | refine blk_drewN ?_ _ | refine blk_drew ?_ | refine blk_alloc ?_ _)); exact BK291.out)⟩; have n2_ : Aside0 (w45.heap[gb292]? = some (.cells #[.int .i64 0, .slice none 0 0, .int .i64 0, .int .i64 0, .slice none 0 0] 27 (0, 0))) := ⟨by rw [← hq_]; exact (by (with_reducible repeat (first | refine blk_drewN ?_ _ | refine blk_drew ?_ | refine blk_alloc ?_ _)); exact BK292.out)⟩; have n3_ : Aside0 (Below w.heap.size w w45) := ⟨by rw [← hq_]; exact (bz HB)⟩; clear BK290 BK291 BK292 HB hq_; have BK290 := n0_; have BK291 := n1_; have BK292 := n2_; have HB := n3_; clear n0_ n1_ n2_ n3_))) | ((with_reducible refine gate_callee (f := 44) rfl ?_); refine goesL_ (some 18) rfl rfl Try.func44 (by kernel_rfl) rfl #[.int .i64 t293] rfl (by (try simp only [List.map_toArray, List.map_cons, List.map_nil]); first | done | rfl | (simp only [List.length_drop, List.length_take]; rfl)) ?_; (with_reducible refine (spec_l3Bad.calls t293 t294 t295 t298 t299 t300 _ A42.out).mono ?_); rintro e w46 ⟨v296, v301, rfl, ho0, ho1, hb⟩; refine ⟨_, rfl, ?_⟩; have HO297 := Aside0.mk (Kd.R_lower (Kd.R_newM (M := fun k_ => (w.heap.size ≤ k_)) ho0 (below_size (bz HB)) (fun k_ h_ => h_)) (below_size (bz HB))); have HO302 := Aside0.mk (Kd.S_lower (Kd.S_newM (M := fun k_ => (w.heap.size ≤ k_)) ho1 (below_size (bz HB)) (fun k_ h_ => h_)) (below_size (bz HB))); replace BK290 := bk BK290 hb; replace BK291 := bk BK291 hb; replace BK292 := bk BK292 hb; replace HB := Aside0.mk (below_step (bz HB) hb); (try clear hb); (try clear hb2); (try clear hk); (try clear hi); (try clear ho0); (try clear ho1); have hnb47 := NB292_290.out; have hnc47 := NB290_292.out; have hnb48 := NB292_291.out; have hnc48 := NB291_292.out; have hcz49_0 : w46.cell? ⟨gb292, 0, none⟩ = some (.int .i64 0) := (blk_cell BK292.out 0).trans rfl; have hcz49_1 : w46.cell? ⟨gb292, 1, none⟩ = some (.slice none 0 0) := (blk_cell BK292.out 1).trans rfl; have hcz49_2 : w46.cell? ⟨gb292, 2, none⟩ = some (.int .i64 0) := (blk_cell BK292.out 2).trans rfl; have hcz49_3 : w46.cell? ⟨gb292, 3, none⟩ = some (.int .i64 0) := (blk_cell BK292.out 3).trans rfl; have hcz49_4 : w46.cell? ⟨gb292, 4, none⟩ = some (.slice none 0 0) := (blk_cell BK292.out 4).trans rfl; have hfz49_0 := blk_frozen BK292.out 0; have hfz49_1 := blk_frozen BK292.out 1; have hfz49_2 := blk_frozen BK292.out 2; have hfz49_3 := blk_frozen BK292.out 3; have hfz49_4 := blk_frozen BK292.out 4; obtain ⟨Ao50, co50, eo50⟩ := Kd.R_slice HO297.out; subst eo50; obtain ⟨Ao51, co51, eo51⟩ := Kd.S_slice HO302.out; subst eo51))
    refine bodyPost_ret (results_cell_row rfl _ _ gb292 27 #[.int .i64 t294, .slice Ao50 t295.length co50, .int .i64 t298, .int .i64 t299, .slice Ao51 t300.length co51] (0, 0) _ rfl (by (with_reducible repeat (first | refine blk_drewN ?_ _ | refine blk_drew ?_ | refine blk_alloc ?_ _)); refine blk_put (cs := #[.int .i64 t294, .slice Ao50 t295.length co50, .int .i64 t298, .int .i64 t299, .slice none 0 0]) ?_ 4 _ rfl; refine blk_put (cs := #[.int .i64 t294, .slice Ao50 t295.length co50, .int .i64 t298, .int .i64 0, .slice none 0 0]) ?_ 3 _ rfl; refine blk_put (cs := #[.int .i64 t294, .slice Ao50 t295.length co50, .int .i64 0, .int .i64 0, .slice none 0 0]) ?_ 2 _ rfl; refine blk_put (cs := #[.int .i64 t294, .slice none 0 0, .int .i64 0, .int .i64 0, .slice none 0 0]) ?_ 1 _ rfl; refine blk_put (cs := #[.int .i64 0, .slice none 0 0, .int .i64 0, .int .i64 0, .slice none 0 0]) ?_ 0 _ rfl; (with_reducible repeat (first | refine blk_drewN ?_ _ | refine blk_drew ?_ | refine blk_alloc ?_ _)); exact BK292.out) Try.underlying27 rfl (by kernel_rfl)) rfl ?_
    exact ⟨_, _, by first | rfl | (simp [errW_none, errW_some] <;> rfl) | (simp [*, errW_none, errW_some] <;> rfl), by (with_reducible repeat (first | apply Kd.R_alloc | apply Kd.R_drewN | apply Kd.R_drew)); exact Kd.R_mono (Kd.R_far (p := ⟨gb292, 4, none⟩) (Kd.R_far (p := ⟨gb292, 3, none⟩) (Kd.R_far (p := ⟨gb292, 2, none⟩) (Kd.R_far (p := ⟨gb292, 1, none⟩) (Kd.R_far (p := ⟨gb292, 0, none⟩) (Kd.R_types HO297.out BK292.out (by decide)) (fun _ hk => hk.2) (.int .i64 t294)) (fun _ hk => hk.2) (.slice Ao50 t295.length co50)) (fun _ hk => hk.2) (.int .i64 t298)) (fun _ hk => hk.2) (.int .i64 t299)) (fun _ hk => hk.2) (.slice Ao51 t300.length co51)) (fun _ hk => hk.1.1), Kd.S_V (by (with_reducible repeat (first | apply Kd.S_alloc | apply Kd.S_drewN | apply Kd.S_drew)); exact Kd.S_mono (Kd.S_far (p := ⟨gb292, 4, none⟩) (Kd.S_far (p := ⟨gb292, 3, none⟩) (Kd.S_far (p := ⟨gb292, 2, none⟩) (Kd.S_far (p := ⟨gb292, 1, none⟩) (Kd.S_far (p := ⟨gb292, 0, none⟩) (Kd.S_types HO302.out BK292.out (by decide)) (fun _ hk => hk.2) (.int .i64 t294)) (fun _ hk => hk.2) (.slice Ao50 t295.length co50)) (fun _ hk => hk.2) (.int .i64 t298)) (fun _ hk => hk.2) (.int .i64 t299)) (fun _ hk => hk.2) (.slice Ao51 t300.length co51)) (fun _ hk => ⟨hk.1.1, hk.1.2⟩)), by repeat (first | (with_reducible first | exact HB.out | apply below_alloc | apply pw_below_drewN | apply below_drew1 | refine below_set ?_ GE290.out | refine below_set ?_ GE291.out | refine below_set ?_ GE292.out) | exact HB.out)⟩

/-! ### impl_within: function 52 -/
def impl_within.f (a0 : Int) (a1 : Int) (a2 : Int) : Option (Bool) := if a1 ≤ a0 then (some (decide (a0 ≤ a2))) else (some false)
set_option maxHeartbeats 8000000 in
set_option maxRecDepth 100000 in
theorem impl_within.calls (a0 : Int) (a1 : Int) (a2 : Int) (r : Bool) (w : World) (h : impl_within.f a0 a1 a2 = some r) :
    Calls Try.prog 52 #[.int .i64 a0, .int .i64 a1, .int .i64 a2] w fun e w' => e = .returned (.bool r) ∧ Drawn0 w w' := by
  have H : (if a1 ≤ a0 then (some (decide (a0 ≤ a2))) else (some false)) = some r := h
  clear h
  by_cases c4 : a1 ≤ a0
  · rw [if_pos c4] at H
    have c4b0 : decide (a1 ≤ a0) = true := decide_eq_true c4
    clear c4
    obtain rfl := Option.some.inj H
    go_enter Try.func52, Try.ntmps52
    go_wp2
    go_ret
    exact ⟨by first | rfl | (simp; done) | (simp [*]; done), by repeat (first | exact Drawn0.refl _ | apply Drawn0.step)⟩
  · rw [if_neg c4] at H
    have c4b0 : decide (a1 ≤ a0) = false := decide_eq_false c4
    clear c4
    obtain rfl := Option.some.inj H
    go_enter Try.func52, Try.ntmps52
    go_wp2
    go_ret
    exact ⟨by first | rfl | (simp; done) | (simp [*]; done), by repeat (first | exact Drawn0.refl _ | apply Drawn0.step)⟩

/-! ### impl_Block_83: function 83 -/
def blkIdx (p : S80 → Bool) : List S80 → Nat → Int
  | [], _ => -1
  | x :: xs, i => if p x then (i : Int) else blkIdx p xs (i + 1)
theorem blkIdx_hit (p : S80 → Bool) : ∀ (l : List S80) (k i : Nat) (h : k < l.length), p l[k] = true → (∀ j (hj : j < k), p (l[j]'(by omega)) = false) → blkIdx p l i = ((i + k : Nat) : Int)
  | [], k, i, h, _, _ => by simp at h
  | x :: xs, 0, i, h, hp, _ => by simp only [List.getElem_cons_zero] at hp; simp [blkIdx, hp]
  | x :: xs, k + 1, i, h, hp, hn => by
    have h0 := hn 0 (by omega)
    simp only [List.getElem_cons_zero] at h0
    have := blkIdx_hit p xs k (i + 1) (by simpa using h) (by simpa using hp) (fun j hj => by simpa using hn (j + 1) (by omega))
    simp only [blkIdx, h0, this]
    simp; omega
theorem blkIdx_miss (p : S80 → Bool) : ∀ (l : List S80) (i : Nat), (∀ j (hj : j < l.length), p l[j] = false) → blkIdx p l i = -1
  | [], i, _ => rfl
  | x :: xs, i, hn => by
    have h0 := hn 0 (by simp)
    simp only [List.getElem_cons_zero] at h0
    have := blkIdx_miss p xs (i + 1) (fun j hj => by have := hn (j + 1) (by simpa using hj); rwa [List.getElem_cons_succ] at this)
    simp [blkIdx, h0, this]

set_option maxHeartbeats 2000000 in
set_option maxRecDepth 100000 in
theorem impl_Block_83.run (g : Nat) (lb : Array Value) (p : S80 → Bool) (eg : ∀ args w, (callFunc g args).run Try.prog w = .ok (.enter g args) w) (A0 : Option Addr) (c0 : Nat) (l0 : List S80) (w : World)
    (hp : ∀ (W : World) (x : S80) (A1 : Option Addr) (c1 : Nat), Below w.heap.size w W → x ∈ l0 → Calls Try.prog g (#[.agg #[.int .i64 x.f0, .slice A1 x.f1.length c1]] ++ lb) W fun e w' => e = .returned (.bool (p x)) ∧ Below w.heap.size w w')
    (hr0 : Kd.C k80 w A0 l0.length l0) :
    Calls Try.prog 83 #[.slice A0 l0.length c0, .func (.func g) #[] lb] w fun e w' => e = .returned (.int .i64 (blkIdx p l0 0)) ∧ Below w.heap.size w w' := by
  have hmax := Kd.C_max hr0
  have HR0 := Aside0.mk hr0
  have HP := Aside0.mk hp
  clear hr0 hp
  go_enter Try.func83, Try.ntmps83
  go_wp2
  go_loopg [5, 8] l0.length (fun gg _ s8 wr => ∃ kk : Nat, kk ≤ l0.length ∧ l0.length - kk ≤ gg ∧ s8 = .int .i64 kk ∧ Aside0 (Below w.heap.size w wr) ∧ Aside0 (∀ j (hj : j < l0.length), j < kk → p l0[j] = false))
  case atStart => exact ⟨0, Nat.zero_le _, by omega, rfl, ⟨Below.refl _ w⟩, ⟨fun j _ hj => absurd hj (Nat.not_lt_zero _)⟩⟩
  case round =>
    obtain ⟨kk, hkk, hg, rfl, BW, A⟩ := hrel
    by_cases hlt : kk < l0.length
    · have hltz : (kk : Int) < (l0.length : Int) := by omega
      obtain ⟨ad, A1, c1, rfl, hcz0, hcz1, hl1, hC1⟩ := at_T80 (Kd.C_below HR0.out BW.out) (kk : Int) (by omega) (by omega)
      rw [Int.toNat_natCast] at hcz0 hcz1
      have hx : rd_T80 l0 (kk : Int) = l0[kk] := by simp [rd_T80, hlt]
      have hcall := HP.out wr (rd_T80 l0 (kk : Int)) A1 c1 BW.out (by rw [hx]; exact List.getElem_mem hlt)
      have HX := Aside0.mk hx
      clear hC1 hx
      generalize rd_T80 l0 (kk : Int) = y at *
      cases hq : p y with
      | true =>
        rw [hq] at hcall
        have HQ := Aside0.mk hq
        clear hq
        go_wp2_with (go_at_fn g; refine hcall.mono ?_; rintro e w' ⟨rfl, hb'⟩; have HB' := Aside0.mk hb'; clear hb')
        go_ret
        refine ⟨?_, HB'.out⟩
        rw [blkIdx_hit p l0 kk 0 hlt (by rw [← HX.out]; exact HQ.out) (fun j hj => A.out j (by omega) hj)]
        simp
      | false =>
        rw [hq] at hcall
        have HQ := Aside0.mk hq
        clear hq
        go_wp2_with (go_at_fn g; refine hcall.mono ?_; rintro e w' ⟨rfl, hb'⟩; have HB' := Aside0.mk hb'; clear hb')
        go_roundg (l0.length - (kk + 1))
        case measure => omega
        case rel =>
          refine ⟨kk + 1, by omega, by omega, by go_num, HB', ⟨fun j hl hj => ?_⟩⟩
          by_cases e : j = kk
          · subst e; rw [← HX.out]; exact HQ.out
          · exact A.out j hl (by omega)
    · have hltz : ¬ (kk : Int) < (l0.length : Int) := by omega
      obtain rfl : kk = l0.length := by omega
      go_wp2
      go_ret
      refine ⟨?_, BW.out⟩
      rw [blkIdx_miss p l0 0 (fun j hj => A.out j hj hj)]
      rfl

/-! ### impl_blockAt: function 53 -/
theorem impl_blockAt.heap_size_alloc_ (w : World) (o : Obj) : (w.alloc o).heap.size = w.heap.size + 1 := by simp
theorem impl_blockAt.blk_new_at (w : World) (o : Obj) (k : Nat) (h : w.heap.size = k) : (w.alloc o).heap[k]? = some o := by subst h; exact blk_new w o
theorem impl_blockAt.blk_num (w W : World) (a1 : Int) (G : Nat) (hb : w.heap[G]? = some (.cells #[.int .i64 a1] 2 (0, 0))) (x : S80) (A1 : Option Addr) (c1 : Nat) (h : Below w.heap.size w W) :
    Calls Try.prog 84 (#[.agg #[.int .i64 x.f0, .slice A1 x.f1.length c1]] ++ #[.pointer (some ⟨G, 0, none⟩)]) W fun e w' => e = .returned (.bool (x.f0 == a1)) ∧ Below w.heap.size w w' := by
  have hb2 := blk_below hb h
  have hG := blk_lt hb2
  have hne : G ≠ W.heap.size := by omega
  have hc : W.cell? ⟨G, 0, none⟩ = some (.int .i64 a1) := (blk_cell hb2 0).trans rfl
  have HH := Aside0.mk h
  have hsz := h.size
  clear h hb hb2
  show Calls Try.prog 84 #[.agg #[.int .i64 x.f0, .slice A1 x.f1.length c1], .pointer (some ⟨G, 0, none⟩)] W _
  go_enter Try.func84, Try.ntmps84
  go_wp2
  all_goals (go_ret; exact ⟨by first | rfl | simp_all, HH.out.alloc hsz _⟩)
def impl_blockAt.f (l0 : List S80) (a1 : Int) : Option Int := some (blkIdx (fun x => x.f0 == a1) l0 0)
set_option maxHeartbeats 2000000 in
set_option maxRecDepth 100000 in
theorem impl_blockAt.calls (A0 : Option Addr) (c0 : Nat) (l0 : List S80) (a1 : Int) (r : Int) (w : World) (hr0 : Kd.C k80 w A0 l0.length l0) (hc0 : l0.length ≤ c0) (h : impl_blockAt.f l0 a1 = some r) :
    Calls Try.prog 53 #[.slice A0 l0.length c0, .int .i64 a1] w fun e w' => e = .returned (.int .i64 r) ∧ Below w.heap.size w w' := by
  obtain rfl := Option.some.inj h
  have eg : ∀ args w, (callFunc 84 args).run Try.prog w = .ok (.enter 84 args) w := enters_of Try.func84 (by kernel_rfl) rfl
  have hcon := impl_Block_83.run 84 #[.pointer (some ⟨w.heap.size, 0, none⟩)] (fun x => x.f0 == a1) eg A0 c0 l0 (w.alloc (.cells #[.int .i64 a1] 2))
    (fun W x A1 c1 hW _ => impl_blockAt.blk_num _ W a1 w.heap.size (blk_new _ _) x A1 c1 hW) (Kd.C_alloc hr0 _)
  generalize blkIdx (fun x => x.f0 == a1) l0 0 = r at *
  clear h
  go_enter Try.func53, Try.ntmps53
  go_wp2_with (go_at_call 83; refine hcon.mono ?_; rintro e w' ⟨rfl, hb'⟩)
  go_ret
  exact ⟨rfl, ((Below.refl _ w).alloc (Nat.le_refl _) _).trans (hb'.mono (by simp))⟩

end Go.Proofs.Ytkocconggohdgaa.PFnExactReadRange
