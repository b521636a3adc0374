/- Functions of the given program as plain Lean functions, each with a proof that the Go code answers just so; made by a program of this session out of the translation. Conditions: those that each theorem names. -/
import Derived.Test.YtaknnpphhbgfiaaPFnExactCanBeEmptyx0
import Derived.Test.YtaknnpphhbgfiaaPFnExactCanBeEmptyx1
import Derived.Test.YtaknnpphhbgfiaaPFnExactCanBeEmptyx5
import Derived.Test.YtaknnpphhbgfiaaPFnExactCanBeEmptyx8
namespace Go.Proofs.Ytaknnpphhbgfiaa.PFnExactCanBeEmpty
open Go.RowKit Go.Proofs.YtaknnpphhbgfiaaW.PrintWords Go.Proofs.YtaknnpphhbgfiaaW.PrintLast Go.Proofs.YtaknnpphhbgfiaaW.PrintMore
attribute [local go_sem] max2_int min2_int max_two min_two max_three min_three max_four min_four   -- for this text's walks alone
set_option linter.unusedVariables false
set_option linter.unusedSimpArgs false

/-! ### impl_CanBeEmpty: function 17 -/
def impl_CanBeEmpty.l0 : Nat → List Bool → List (S48) → Int → Int → Option (Bool)
  | 0, _, _, _, _ => none
  | k + 1, x3, x11, x12, x13 => if x13 < x12 then (if 0 ≤ x13 then (if x13 < (x11.length : Int) then ((impl_isByteKind.f ((rd_T48 x11 x13).f0)).bind fun t228 => (if ((rd_T48 x11 x13).f0) = 9 then (if 0 ≤ ((rd_T48 x11 x13).f3) then (if ((rd_T48 x11 x13).f3) < (x3.length : Int) then (if x3.length < 140737488355328 then (impl_CanBeEmpty.l0 k (x3 ++ [rdOf false x3 ((rd_T48 x11 x13).f3)]) x11 x12 (wrap64 (x13 + 1))) else (none)) else (none)) else (none)) else (if ((rd_T48 x11 x13).f0) = 11 then (if 0 ≤ ((rd_T48 x11 x13).f3) then (if ((rd_T48 x11 x13).f3) < (x3.length : Int) then (if rdOf false x3 ((rd_T48 x11 x13).f3) = true then (if 0 ≤ ((rd_T48 x11 x13).f4) then (if ((rd_T48 x11 x13).f4) < (x3.length : Int) then (if x3.length < 140737488355328 then (impl_CanBeEmpty.l0 k (x3 ++ [rdOf false x3 ((rd_T48 x11 x13).f4)]) x11 x12 (wrap64 (x13 + 1))) else (none)) else (none)) else (none)) else (if x3.length < 140737488355328 then (impl_CanBeEmpty.l0 k (x3 ++ [false]) x11 x12 (wrap64 (x13 + 1))) else (none))) else (none)) else (none)) else (if ((rd_T48 x11 x13).f0) = 12 then (if 0 ≤ ((rd_T48 x11 x13).f3) then (if ((rd_T48 x11 x13).f3) < (x3.length : Int) then (if rdOf false x3 ((rd_T48 x11 x13).f3) = true then (if x3.length < 140737488355328 then (impl_CanBeEmpty.l0 k (x3 ++ [true]) x11 x12 (wrap64 (x13 + 1))) else (none)) else (if 0 ≤ ((rd_T48 x11 x13).f4) then (if ((rd_T48 x11 x13).f4) < (x3.length : Int) then (if x3.length < 140737488355328 then (impl_CanBeEmpty.l0 k (x3 ++ [rdOf false x3 ((rd_T48 x11 x13).f4)]) x11 x12 (wrap64 (x13 + 1))) else (none)) else (none)) else (none))) else (none)) else (none)) else (if x3.length < 140737488355328 then (impl_CanBeEmpty.l0 k (x3 ++ [!t228]) x11 x12 (wrap64 (x13 + 1))) else (none)))))) else (none)) else (none)) else (if 0 ≤ (wrap64 ((x3.length : Int) - 1)) then (if (wrap64 ((x3.length : Int) - 1)) < (x3.length : Int) then (some (rdOf false x3 (wrap64 ((x3.length : Int) - 1)))) else (none)) else (none))
def impl_CanBeEmpty.f (k : Nat) (l0 : List (S48)) : Option (Bool) := (impl_NodesFault.f k l0).bind fun t221 => (if t221 = 0 then (impl_CanBeEmpty.l0 k (([] : List Bool)) l0 (l0.length : Int) 0) else (some false))
theorem impl_CanBeEmpty.mono_l : ∀ k, (∀ y0 y1 y2 y3, LeO (impl_CanBeEmpty.l0 k y0 y1 y2 y3) (impl_CanBeEmpty.l0 (k + 1) y0 y1 y2 y3))
  | 0 => fun _ _ _ _ r h => by simp [impl_CanBeEmpty.l0] at h
  | k + 1 => by
    have ih0 := impl_CanBeEmpty.mono_l k
    · intro y0 y1 y2 y3
      unfold impl_CanBeEmpty.l0
      repeat' first
      | (with_reducible exact ih0 _ _ _ _)
      | (with_reducible exact impl_NodesFault.mono _ _)
      | (with_reducible exact LeO.refl _)
      | (with_reducible exact LeO.none _)
      | (with_reducible refine LeO.ite ?_ ?_)
      | (with_reducible refine LeO.bind ?_ (fun _ => ?_))
      | exact ih0 _ _ _ _
      | exact impl_NodesFault.mono _ _
      | exact LeO.none _
      | refine LeO.ite ?_ ?_
      | refine LeO.bind ?_ (fun _ => ?_)
theorem impl_CanBeEmpty.mono : ∀ a0 k, LeO (impl_CanBeEmpty.f k a0) (impl_CanBeEmpty.f (k + 1) a0) := by
  intro a0 k
  have ih0 := impl_CanBeEmpty.mono_l k
  unfold impl_CanBeEmpty.f
  repeat' first
      | (with_reducible exact ih0 _ _ _ _)
      | (with_reducible exact impl_NodesFault.mono _ _)
      | (with_reducible exact LeO.refl _)
      | (with_reducible exact LeO.none _)
      | (with_reducible refine LeO.ite ?_ ?_)
      | (with_reducible refine LeO.bind ?_ (fun _ => ?_))
      | exact ih0 _ _ _ _
      | exact impl_NodesFault.mono _ _
      | exact LeO.none _
      | refine LeO.ite ?_ ?_
      | refine LeO.bind ?_ (fun _ => ?_)
set_option maxHeartbeats 8000000 in
set_option maxRecDepth 100000 in
theorem impl_CanBeEmpty.calls (k : Nat) (A0 : Option Addr) (c0 : Nat) (l0 : List (S48)) (r : Bool) (w : World) (hr0 : Kd.C k48 w A0 l0.length l0) (hc0 : l0.length ≤ c0) (h : impl_CanBeEmpty.f k l0 = some r) :
    Calls Try.prog 17 #[.slice A0 l0.length c0] w fun e w' => e = .returned (.bool r) ∧ Below w.heap.size w w' := by
  have hu48 := Try.underlying48
  have HR0 := Aside0.mk hr0
  have HC0 := Aside0.mk hc0
  clear hr0 hc0
  have HB := Aside0.mk (Below.refl w.heap.size w)
  have H : ((impl_NodesFault.f k l0).bind fun t221 => (if t221 = 0 then (impl_CanBeEmpty.l0 k (([] : List Bool)) l0 (l0.length : Int) 0) else (some false))) = some r := h
  clear h
  replace H := Option.bind_eq_some_iff.mp H
  obtain ⟨t221, A20, H⟩ := H
  replace H : (if t221 = 0 then (impl_CanBeEmpty.l0 k (([] : List Bool)) l0 (l0.length : Int) 0) else (some false)) = some r := H
  have A2 := Aside0.mk A20
  clear A20
  by_cases c3 : t221 = 0
  · rw [if_pos c3] at H
    have c3b0 : (t221 == 0) = true := beq_iff_eq.mpr c3
    have c3b1 : (t221 != 0) = false := bne_eq_false_iff_eq.mpr c3
    clear c3
    obtain ⟨y222, hy222⟩ : ∃ y_ : List Bool, y_ = (([] : List Bool)) := ⟨_, rfl⟩
    replace H : (impl_CanBeEmpty.l0 k y222 l0 (l0.length : Int) 0) = some r := by first | (rw [hy222]; with_reducible exact H) | (have H2_ := (Option.bind_some _ _).symm.trans H; rw [hy222]; with_reducible exact H2_) | (have H2_ := (Option.bind_some _ _).symm.trans H; with_reducible exact H2_) | with_reducible exact H | (rw [hy222]; exact H) | exact H
    have Ny222 := Aside0.mk hy222
    clear hy222
    have H' := Aside0.mk H
    clear H
    go_enter Try.func17, Try.ntmps17
    go_wp2_with (first | ((with_reducible refine gate_callee (f := 15) rfl ?_); refine goesL_ (some 8) rfl rfl Try.func15 (by kernel_rfl) rfl #[.slice A0 l0.length c0] rfl (by (try simp only [List.map_toArray, List.map_cons, List.map_nil]); first | done | rfl | (simp only [List.length_drop, List.length_take]; rfl)) ?_; (with_reducible refine (impl_NodesFault.calls k _ _ l0 t221 _ ?side1 ?side2 A2.out).mono ?_); (case side1 => repeat (first | exact HR0.out | (with_reducible refine Kd.C_alloc ?_ _) | (with_reducible refine Kd.C_drewN ?_ _) | (with_reducible refine Kd.C_drew ?_))); (case side2 => exact HC0.out); rintro e w4 ⟨rfl, hb⟩; refine ⟨_, rfl, ?_⟩; have n0_ := Aside0.mk (below_step (by repeat (first | (with_reducible first | exact HB.out | apply below_alloc | apply pw_below_drewN | apply below_drew1) | exact HB.out)) hb); clear HB; have HB := n0_; clear n0_; (try clear hb); (try clear hb2); (try clear hk); (try clear hi)) | ((with_reducible refine gate_dst (N := 10) rfl ?_); refine Kd.R_lit Kd.bool _ 4 ?hg (N := 10) ?hd (xs := ([] : List Bool)) (inner := []) (ok := fun _ => True) (okp := fun _ => True) ?hr ?hp (fun _ hk => hk) trivial (Below.refl _ _) (Nat.le_refl _) (by simp) ?_; (case hd => rfl); (case hg => rfl); (case hr => first | (go_simp; done) | (go_simp; rfl)); (case hp => exact (Reps.none _ _)); intro v223 w5 ho6 hb hg_ hnew_; clear hg_ hnew_; (first | rw [← Ny222.out] at ho6 | (simp only [Int.reduceToNat] at ho6; rw [← Ny222.out] at ho6)); have n0_ := Aside0.mk (Kd.R_lower ho6 (below_size (by repeat (first | (with_reducible first | exact HB.out | apply below_alloc | apply pw_below_drewN | apply below_drew1) | exact HB.out)))); have n1_ := Aside0.mk (below_step (by repeat (first | (with_reducible first | exact HB.out | apply below_alloc | apply pw_below_drewN | apply below_drew1) | exact HB.out)) hb); clear HB; have HO224 := n0_; have HB := n1_; clear n0_ n1_; clear hb ho6))
    go_loopg [3, 13] k (fun kq v3 v13 w' => ∃ (x3_1 : List Bool) (x13_1 : Int), v13 = .int .i64 x13_1 ∧ Aside0 (impl_CanBeEmpty.l0 kq x3_1 l0 (l0.length : Int) x13_1 = some r) ∧ Aside0 (kq ≤ k) ∧ Aside0 (Kd.R Kd.bool 4 w' w.heap.size (fun _ => True) v3 x3_1) ∧ Aside0 (Below w.heap.size w w'))
    case atStart => exact ⟨(y222), (0), (by first | rfl | (simp; done) | (simp [*]; done)), H', ⟨Nat.le_refl _⟩, ⟨by (with_reducible repeat (first | apply Kd.R_alloc | apply Kd.R_drewN | apply Kd.R_drew)); exact HO224.out⟩, ⟨by repeat (first | (with_reducible first | exact HB.out | apply below_alloc | apply pw_below_drewN | apply below_drew1) | exact HB.out)⟩⟩
    case round =>
      clear H'
      try clear c1
      try clear p2
      try clear c3
      try clear c3b0
      try clear c3b1
      obtain ⟨x3_1, x13_1, rfl, HA, HK1, HO_3, HB⟩ := hrel
      cases gk with
      | zero => exact absurd HA.out (by simp [impl_CanBeEmpty.l0])
      | succ k1 =>
        have H := HA.out
        clear HA
        simp only [impl_CanBeEmpty.l0] at H
        by_cases c7 : x13_1 < (l0.length : Int)
        · rw [if_pos c7] at H
          have c7b0 : decide (x13_1 < (l0.length : Int)) = true := decide_eq_true c7
          clear c7
          by_cases c8 : 0 ≤ x13_1
          · rw [if_pos c8] at H
            have c8b0 : decide (0 ≤ x13_1) = true := decide_eq_true c8
            clear c8
            by_cases c9 : x13_1 < (l0.length : Int)
            · rw [if_pos c9] at H
              have c9b0 : decide (x13_1 < (l0.length : Int)) = true := decide_eq_true c9
              clear c9
              replace H := Option.bind_eq_some_iff.mp H
              obtain ⟨t228, A100, H⟩ := H
              replace H : (if ((rd_T48 l0 x13_1).f0) = 9 then (if 0 ≤ ((rd_T48 l0 x13_1).f3) then (if ((rd_T48 l0 x13_1).f3) < (x3_1.length : Int) then (if x3_1.length < 140737488355328 then (impl_CanBeEmpty.l0 k1 (x3_1 ++ [rdOf false x3_1 ((rd_T48 l0 x13_1).f3)]) l0 (l0.length : Int) (wrap64 (x13_1 + 1))) else (none)) else (none)) else (none)) else (if ((rd_T48 l0 x13_1).f0) = 11 then (if 0 ≤ ((rd_T48 l0 x13_1).f3) then (if ((rd_T48 l0 x13_1).f3) < (x3_1.length : Int) then (if rdOf false x3_1 ((rd_T48 l0 x13_1).f3) = true then (if 0 ≤ ((rd_T48 l0 x13_1).f4) then (if ((rd_T48 l0 x13_1).f4) < (x3_1.length : Int) then (if x3_1.length < 140737488355328 then (impl_CanBeEmpty.l0 k1 (x3_1 ++ [rdOf false x3_1 ((rd_T48 l0 x13_1).f4)]) l0 (l0.length : Int) (wrap64 (x13_1 + 1))) else (none)) else (none)) else (none)) else (if x3_1.length < 140737488355328 then (impl_CanBeEmpty.l0 k1 (x3_1 ++ [false]) l0 (l0.length : Int) (wrap64 (x13_1 + 1))) else (none))) else (none)) else (none)) else (if ((rd_T48 l0 x13_1).f0) = 12 then (if 0 ≤ ((rd_T48 l0 x13_1).f3) then (if ((rd_T48 l0 x13_1).f3) < (x3_1.length : Int) then (if rdOf false x3_1 ((rd_T48 l0 x13_1).f3) = true then (if x3_1.length < 140737488355328 then (impl_CanBeEmpty.l0 k1 (x3_1 ++ [true]) l0 (l0.length : Int) (wrap64 (x13_1 + 1))) else (none)) else (if 0 ≤ ((rd_T48 l0 x13_1).f4) then (if ((rd_T48 l0 x13_1).f4) < (x3_1.length : Int) then (if x3_1.length < 140737488355328 then (impl_CanBeEmpty.l0 k1 (x3_1 ++ [rdOf false x3_1 ((rd_T48 l0 x13_1).f4)]) l0 (l0.length : Int) (wrap64 (x13_1 + 1))) else (none)) else (none)) else (none))) else (none)) else (none)) else (if x3_1.length < 140737488355328 then (impl_CanBeEmpty.l0 k1 (x3_1 ++ [!t228]) l0 (l0.length : Int) (wrap64 (x13_1 + 1))) else (none))))) = some r := H
              have A10 := Aside0.mk A100
              clear A100
              by_cases c11 : ((rd_T48 l0 x13_1).f0) = 9
              · rw [if_pos c11] at H
                have c11b0 : (((rd_T48 l0 x13_1).f0) == 9) = true := beq_iff_eq.mpr c11
                have c11b1 : (((rd_T48 l0 x13_1).f0) != 9) = false := bne_eq_false_iff_eq.mpr c11
                clear c11
                by_cases c12 : 0 ≤ ((rd_T48 l0 x13_1).f3)
                · rw [if_pos c12] at H
                  have c12b0 : decide (0 ≤ ((rd_T48 l0 x13_1).f3)) = true := decide_eq_true c12
                  clear c12
                  by_cases c13 : ((rd_T48 l0 x13_1).f3) < (x3_1.length : Int)
                  · rw [if_pos c13] at H
                    have c13b0 : decide (((rd_T48 l0 x13_1).f3) < (x3_1.length : Int)) = true := decide_eq_true c13
                    clear c13
                    by_cases c14 : x3_1.length < 140737488355328
                    · rw [if_pos c14] at H
                      have LMc14 := Aside0.mk c14
                      clear c14
                      obtain ⟨y230, hy230⟩ : ∃ y_ : List Bool, y_ = (x3_1 ++ [rdOf false x3_1 ((rd_T48 l0 x13_1).f3)]) := ⟨_, rfl⟩
                      replace H : (impl_CanBeEmpty.l0 k1 y230 l0 (l0.length : Int) (wrap64 (x13_1 + 1))) = some r := by first | (rw [hy230]; with_reducible exact H) | (have H2_ := (Option.bind_some _ _).symm.trans H; rw [hy230]; with_reducible exact H2_) | (have H2_ := (Option.bind_some _ _).symm.trans H; with_reducible exact H2_) | with_reducible exact H | (rw [hy230]; exact H) | exact H
                      have Ny230 := Aside0.mk hy230
                      clear hy230
                      have H' := Aside0.mk H
                      clear H
                      have p226 : 0 ≤ (x13_1 : Int) := of_decide_eq_true (by first | (with_reducible assumption) | assumption)
                      have q226 : x13_1 < (l0.length : Int) := of_decide_eq_true (by first | (with_reducible assumption) | assumption)
                      obtain ⟨ad226, e226, hx226_0, hx226_1, hx226_2, hx226_3, hx226_4⟩ := at_T48 HR0.out x13_1 p226 q226
                      cases e226
                      replace hx226_0 := (HB.out.cell (World.block_lt_of_cell? w _ hx226_0)).trans hx226_0
                      replace hx226_1 := (HB.out.cell (World.block_lt_of_cell? w _ hx226_1)).trans hx226_1
                      replace hx226_2 := (HB.out.cell (World.block_lt_of_cell? w _ hx226_2)).trans hx226_2
                      replace hx226_3 := (HB.out.cell (World.block_lt_of_cell? w _ hx226_3)).trans hx226_3
                      replace hx226_4 := (HB.out.cell (World.block_lt_of_cell? w _ hx226_4)).trans hx226_4
                      replace p226 := eq_true p226
                      replace q226 := eq_true q226
                      go_wp2_with (first | ((with_reducible refine gate_dst (N := 5) rfl ?_); refine box_event ?hg (N := 5) ?hd (cs := #[.int .i64 0, .int .i64 0, .string (⟨#[]⟩ : ByteArray), .int .i64 0, .int .i64 0]) (t := 48) ?hr ?_; (case hd => rfl); (case hg => rfl); (case hr => first | (go_simp; done) | (go_simp; rfl)); intro gb227 hg w15 hbox hb; have n0_ := Aside0.mk (Kd.R_below (by (with_reducible repeat (first | apply Kd.R_alloc | apply Kd.R_drewN | apply Kd.R_drew)); exact HO_3.out) hb); have n1_ := Aside0.mk (below_step (by repeat (first | (with_reducible first | exact HB.out | apply below_alloc | apply pw_below_drewN | apply below_drew1) | exact HB.out)) hb); have n2_ := Aside0.mk (hbox); have n3_ := Aside0.mk ((by rw [hg]; exact (below_size (by repeat (first | (with_reducible first | exact HB.out | apply below_alloc | apply pw_below_drewN | apply below_drew1) | exact HB.out))) : w.heap.size ≤ gb227)); have n4_ := Aside0.mk ((by rw [hg]; exact (below_size (by repeat (first | (with_reducible first | exact HB.out | apply below_alloc | apply pw_below_drewN | apply below_drew1) | exact HB.out))) : w.heap.size ≤ gb227)); clear HO_3; clear HB; have HO_3 := n0_; have HB := n1_; have BK227 := n2_; have GW227 := n3_; have GE227 := n4_; clear n0_ n1_ n2_ n3_ n4_; clear hb hbox hg; have hcz16_0 : w15.cell? ⟨gb227, 0, none⟩ = some (.int .i64 0) := (blk_cell BK227.out 0).trans rfl; have hcz16_1 : w15.cell? ⟨gb227, 1, none⟩ = some (.int .i64 0) := (blk_cell BK227.out 1).trans rfl; have hcz16_2 : w15.cell? ⟨gb227, 2, none⟩ = some (.string (⟨#[]⟩ : ByteArray)) := (blk_cell BK227.out 2).trans rfl; have hcz16_3 : w15.cell? ⟨gb227, 3, none⟩ = some (.int .i64 0) := (blk_cell BK227.out 3).trans rfl; have hcz16_4 : w15.cell? ⟨gb227, 4, none⟩ = some (.int .i64 0) := (blk_cell BK227.out 4).trans rfl; have hfz16_0 := blk_frozen BK227.out 0; have hfz16_1 := blk_frozen BK227.out 1; have hfz16_2 := blk_frozen BK227.out 2; have hfz16_3 := blk_frozen BK227.out 3; have hfz16_4 := blk_frozen BK227.out 4) | ((with_reducible refine gate_callee (f := 39) rfl ?_); refine goesL_ (some 19) rfl rfl Try.func39 (by kernel_rfl) rfl #[.int .i64 ((rd_T48 l0 x13_1).f0)] rfl (by (try simp only [List.map_toArray, List.map_cons, List.map_nil]); first | done | rfl | (simp only [List.length_drop, List.length_take]; rfl)) ?_; (with_reducible refine (impl_isByteKind.calls ((rd_T48 l0 x13_1).f0) t228 _ A10.out).mono ?_); rintro e w' ⟨rfl, ⟨nd, rfl⟩⟩; refine ⟨_, rfl, ?_⟩; obtain ⟨Ao17, co17, eo17⟩ := Kd.R_slice HO_3.out; subst eo17; have p229 : 0 ≤ (((rd_T48 l0 x13_1).f3) : Int) := of_decide_eq_true (by first | (with_reducible assumption) | assumption); have q229 : ((rd_T48 l0 x13_1).f3) < (x3_1.length : Int) := of_decide_eq_true (by first | (with_reducible assumption) | assumption); obtain ⟨ad229, e229, hx229_0⟩ := Kd.at_bool (Kd.R_reads' HO_3.out).2.2 ((rd_T48 l0 x13_1).f3) p229 q229; cases e229; have hn229_0 : ad229.block ≠ gb227 := Kd.own_blk (Kd.R_ne HO_3.out BK227.out (by decide)); have hn229_1 : ad229.block ≠ gb227 := Kd.own_blk (Kd.R_ne HO_3.out BK227.out (by decide)); have hn229_2 : ad229.block ≠ gb227 := Kd.own_blk (Kd.R_ne HO_3.out BK227.out (by decide)); have hn229_3 : ad229.block ≠ gb227 := Kd.own_blk (Kd.R_ne HO_3.out BK227.out (by decide)); have hn229_4 : ad229.block ≠ gb227 := Kd.own_blk (Kd.R_ne HO_3.out BK227.out (by decide)); replace hx229_0 := (cell_far (p := ⟨gb227, 0, none⟩) (by first | (rw [add_block]; exact hn229_0) | (show (Addr.add _ _).block ≠ _; rw [add_block]; exact hn229_0) | exact hn229_0) (.int .i64 ((rd_T48 l0 x13_1).f0))).trans hx229_0; replace hx229_0 := (cell_far (p := ⟨gb227, 1, none⟩) (by first | (rw [add_block]; exact hn229_1) | (show (Addr.add _ _).block ≠ _; rw [add_block]; exact hn229_1) | exact hn229_1) (.int .i64 ((rd_T48 l0 x13_1).f1))).trans hx229_0; replace hx229_0 := (cell_far (p := ⟨gb227, 2, none⟩) (by first | (rw [add_block]; exact hn229_2) | (show (Addr.add _ _).block ≠ _; rw [add_block]; exact hn229_2) | exact hn229_2) (.string ((rd_T48 l0 x13_1).f2))).trans hx229_0; replace hx229_0 := (cell_far (p := ⟨gb227, 3, none⟩) (by first | (rw [add_block]; exact hn229_3) | (show (Addr.add _ _).block ≠ _; rw [add_block]; exact hn229_3) | exact hn229_3) (.int .i64 ((rd_T48 l0 x13_1).f3))).trans hx229_0; replace hx229_0 := (cell_far (p := ⟨gb227, 4, none⟩) (by first | (rw [add_block]; exact hn229_4) | (show (Addr.add _ _).block ≠ _; rw [add_block]; exact hn229_4) | exact hn229_4) (.int .i64 ((rd_T48 l0 x13_1).f4))).trans hx229_0; clear hn229_0; clear hn229_1; clear hn229_2; clear hn229_3; clear hn229_4; replace p229 := eq_true p229; replace q229 := eq_true q229) | ((with_reducible refine gate_builtin (b := .append) (xs := #[.tmp 58, .tmp 60]) rfl ?_); at_builtin; refine Kd.R_append Kd.bool (w0 := w) w.heap.size rfl (.tmp 58) (.tmp 60) 56 4 (.bool false) 1 rfl Try.underlying56 info4 rfl (by decide) (by omega) (.slice (some ad229) x3_1.length co17) x3_1 (rdOf false x3_1 ((rd_T48 l0 x13_1).f3)) [.bool (rdOf false x3_1 ((rd_T48 l0 x13_1).f3))] (fun _ => True) (fun _ => False) rfl (by first | (go_simp; done) | (go_simp; rfl)) ?aP (fun _ hk => hk.elim) ?aF ?aO ?aB ?aS ?aL ?_; (case aP => exact rfl); (case aB => exact (by repeat (first | (with_reducible first | exact HB.out | apply below_alloc | apply pw_below_drewN | apply below_drew1 | refine below_set ?_ GE227.out) | exact HB.out))); (case aF => exact (fun _ _ => trivial)); (case aO => exact (by (with_reducible repeat (first | apply Kd.R_alloc | apply Kd.R_drewN | apply Kd.R_drew)); exact Kd.R_mono (Kd.R_far (p := ⟨gb227, 4, none⟩) (Kd.R_far (p := ⟨gb227, 3, none⟩) (Kd.R_far (p := ⟨gb227, 2, none⟩) (Kd.R_far (p := ⟨gb227, 1, none⟩) (Kd.R_far (p := ⟨gb227, 0, none⟩) (Kd.R_types HO_3.out BK227.out (by decide)) (fun _ hk => hk.2) (.int .i64 ((rd_T48 l0 x13_1).f0))) (fun _ hk => hk.2) (.int .i64 ((rd_T48 l0 x13_1).f1))) (fun _ hk => hk.2) (.string ((rd_T48 l0 x13_1).f2))) (fun _ hk => hk.2) (.int .i64 ((rd_T48 l0 x13_1).f3))) (fun _ hk => hk.2) (.int .i64 ((rd_T48 l0 x13_1).f4))) (fun _ hk => trivial))); (case aS => exact (below_size (by repeat (first | (with_reducible first | exact HB.out | apply below_alloc | apply pw_below_drewN | apply below_drew1 | refine below_set ?_ GE227.out) | exact HB.out)))); (case aL => have := LMc14.out; omega); intro v231 w18 ho hb hg hat; rw [← Ny230.out] at ho; have n0_ := Aside0.mk (blk_grown (g := gb227) (o := .cells #[.int .i64 ((rd_T48 l0 x13_1).f0), .int .i64 ((rd_T48 l0 x13_1).f1), .string ((rd_T48 l0 x13_1).f2), .int .i64 ((rd_T48 l0 x13_1).f3), .int .i64 ((rd_T48 l0 x13_1).f4)] 48 (0, 0)) (by (with_reducible repeat (first | refine blk_drewN ?_ _ | refine blk_drew ?_ | refine blk_alloc ?_ _)); refine blk_put (cs := #[.int .i64 ((rd_T48 l0 x13_1).f0), .int .i64 ((rd_T48 l0 x13_1).f1), .string ((rd_T48 l0 x13_1).f2), .int .i64 ((rd_T48 l0 x13_1).f3), .int .i64 0]) ?_ 4 _ rfl; (with_reducible repeat (first | refine blk_drewN ?_ _ | refine blk_drew ?_ | refine blk_alloc ?_ _)); refine blk_put (cs := #[.int .i64 ((rd_T48 l0 x13_1).f0), .int .i64 ((rd_T48 l0 x13_1).f1), .string ((rd_T48 l0 x13_1).f2), .int .i64 0, .int .i64 0]) ?_ 3 _ rfl; (with_reducible repeat (first | refine blk_drewN ?_ _ | refine blk_drew ?_ | refine blk_alloc ?_ _)); refine blk_put (cs := #[.int .i64 ((rd_T48 l0 x13_1).f0), .int .i64 ((rd_T48 l0 x13_1).f1), .string (⟨#[]⟩ : ByteArray), .int .i64 0, .int .i64 0]) ?_ 2 _ rfl; (with_reducible repeat (first | refine blk_drewN ?_ _ | refine blk_drew ?_ | refine blk_alloc ?_ _)); refine blk_put (cs := #[.int .i64 ((rd_T48 l0 x13_1).f0), .int .i64 0, .string (⟨#[]⟩ : ByteArray), .int .i64 0, .int .i64 0]) ?_ 1 _ rfl; (with_reducible repeat (first | refine blk_drewN ?_ _ | refine blk_drew ?_ | refine blk_alloc ?_ _)); refine blk_put (cs := #[.int .i64 0, .int .i64 0, .string (⟨#[]⟩ : ByteArray), .int .i64 0, .int .i64 0]) ?_ 0 _ rfl; (with_reducible repeat (first | refine blk_drewN ?_ _ | refine blk_drew ?_ | refine blk_alloc ?_ _)); exact BK227.out) hg (Kd.R_ne HO_3.out BK227.out (by decide))); have n1_ := Aside0.mk (hb); have n2_ := Aside0.mk (ho); clear BK227; clear HB; clear HO_3; have BK227 := n0_; have HB := n1_; have HO232 := n2_; clear n0_ n1_ n2_; clear ho hb hg hat))
                      go_roundg k1
                      case measure => have := HK1.out; omega
                      case rel => exact ⟨(y230), (wrap64 (x13_1 + 1)), (by first | rfl | (simp; done) | (simp [*]; done)), H', ⟨by have := HK1.out; omega⟩, ⟨by (with_reducible repeat (first | apply Kd.R_alloc | apply Kd.R_drewN | apply Kd.R_drew)); exact HO232.out⟩, ⟨by repeat (first | (with_reducible first | exact HB.out | apply below_alloc | apply pw_below_drewN | apply below_drew1 | refine below_set ?_ GE227.out) | exact HB.out)⟩⟩
                    · rw [if_neg c14] at H
                      exact absurd H (by simp)
                  · rw [if_neg c13] at H
                    exact absurd H (by simp)
                · rw [if_neg c12] at H
                  exact absurd H (by simp)
              · rw [if_neg c11] at H
                have c11b0 : (((rd_T48 l0 x13_1).f0) == 9) = false := beq_eq_false_iff_ne.mpr c11
                have c11b1 : (((rd_T48 l0 x13_1).f0) != 9) = true := bne_iff_ne.mpr c11
                by_cases c19 : ((rd_T48 l0 x13_1).f0) = 11
                · rw [if_pos c19] at H
                  have c19b0 : (((rd_T48 l0 x13_1).f0) == 11) = true := beq_iff_eq.mpr c19
                  have c19b1 : (((rd_T48 l0 x13_1).f0) != 11) = false := bne_eq_false_iff_eq.mpr c19
                  clear c19
                  by_cases c20 : 0 ≤ ((rd_T48 l0 x13_1).f3)
                  · rw [if_pos c20] at H
                    have c20b0 : decide (0 ≤ ((rd_T48 l0 x13_1).f3)) = true := decide_eq_true c20
                    clear c20
                    by_cases c21 : ((rd_T48 l0 x13_1).f3) < (x3_1.length : Int)
                    · rw [if_pos c21] at H
                      have c21b0 : decide (((rd_T48 l0 x13_1).f3) < (x3_1.length : Int)) = true := decide_eq_true c21
                      clear c21
                      obtain ⟨bq22, hbq22⟩ : ∃ b_ : Bool, b_ = (rdOf false x3_1 ((rd_T48 l0 x13_1).f3)) := ⟨_, rfl⟩
                      replace H : (if bq22 = true then (if 0 ≤ ((rd_T48 l0 x13_1).f4) then (if ((rd_T48 l0 x13_1).f4) < (x3_1.length : Int) then (if x3_1.length < 140737488355328 then (impl_CanBeEmpty.l0 k1 (x3_1 ++ [rdOf false x3_1 ((rd_T48 l0 x13_1).f4)]) l0 (l0.length : Int) (wrap64 (x13_1 + 1))) else (none)) else (none)) else (none)) else (if x3_1.length < 140737488355328 then (impl_CanBeEmpty.l0 k1 (x3_1 ++ [false]) l0 (l0.length : Int) (wrap64 (x13_1 + 1))) else (none))) = some r := by rw [← hbq22] at H; exact H
                      have Nbq22 := Aside0.mk hbq22
                      clear hbq22
                      by_cases c23 : bq22 = true
                      · subst c23
                        have H1 : (if 0 ≤ ((rd_T48 l0 x13_1).f4) then (if ((rd_T48 l0 x13_1).f4) < (x3_1.length : Int) then (if x3_1.length < 140737488355328 then (impl_CanBeEmpty.l0 k1 (x3_1 ++ [rdOf false x3_1 ((rd_T48 l0 x13_1).f4)]) l0 (l0.length : Int) (wrap64 (x13_1 + 1))) else (none)) else (none)) else (none)) = some r := by rw [if_pos rfl] at H; exact H
                        clear H
                        have H := H1
                        clear H1
                        by_cases c24 : 0 ≤ ((rd_T48 l0 x13_1).f4)
                        · rw [if_pos c24] at H
                          have c24b0 : decide (0 ≤ ((rd_T48 l0 x13_1).f4)) = true := decide_eq_true c24
                          clear c24
                          by_cases c25 : ((rd_T48 l0 x13_1).f4) < (x3_1.length : Int)
                          · rw [if_pos c25] at H
                            have c25b0 : decide (((rd_T48 l0 x13_1).f4) < (x3_1.length : Int)) = true := decide_eq_true c25
                            clear c25
                            by_cases c26 : x3_1.length < 140737488355328
                            · rw [if_pos c26] at H
                              have LMc26 := Aside0.mk c26
                              clear c26
                              obtain ⟨y235, hy235⟩ : ∃ y_ : List Bool, y_ = (x3_1 ++ [rdOf false x3_1 ((rd_T48 l0 x13_1).f4)]) := ⟨_, rfl⟩
                              replace H : (impl_CanBeEmpty.l0 k1 y235 l0 (l0.length : Int) (wrap64 (x13_1 + 1))) = some r := by first | (rw [hy235]; with_reducible exact H) | (have H2_ := (Option.bind_some _ _).symm.trans H; rw [hy235]; with_reducible exact H2_) | (have H2_ := (Option.bind_some _ _).symm.trans H; with_reducible exact H2_) | with_reducible exact H | (rw [hy235]; exact H) | exact H
                              have Ny235 := Aside0.mk hy235
                              clear hy235
                              have H' := Aside0.mk H
                              clear H
                              have p226 : 0 ≤ (x13_1 : Int) := of_decide_eq_true (by first | (with_reducible assumption) | assumption)
                              have q226 : x13_1 < (l0.length : Int) := of_decide_eq_true (by first | (with_reducible assumption) | assumption)
                              obtain ⟨ad226, e226, hx226_0, hx226_1, hx226_2, hx226_3, hx226_4⟩ := at_T48 HR0.out x13_1 p226 q226
                              cases e226
                              replace hx226_0 := (HB.out.cell (World.block_lt_of_cell? w _ hx226_0)).trans hx226_0
                              replace hx226_1 := (HB.out.cell (World.block_lt_of_cell? w _ hx226_1)).trans hx226_1
                              replace hx226_2 := (HB.out.cell (World.block_lt_of_cell? w _ hx226_2)).trans hx226_2
                              replace hx226_3 := (HB.out.cell (World.block_lt_of_cell? w _ hx226_3)).trans hx226_3
                              replace hx226_4 := (HB.out.cell (World.block_lt_of_cell? w _ hx226_4)).trans hx226_4
                              replace p226 := eq_true p226
                              replace q226 := eq_true q226
                              go_wp2_with (first | ((with_reducible refine gate_dst (N := 5) rfl ?_); refine box_event ?hg (N := 5) ?hd (cs := #[.int .i64 0, .int .i64 0, .string (⟨#[]⟩ : ByteArray), .int .i64 0, .int .i64 0]) (t := 48) ?hr ?_; (case hd => rfl); (case hg => rfl); (case hr => first | (go_simp; done) | (go_simp; rfl)); intro gb227 hg w27 hbox hb; have n0_ := Aside0.mk (Kd.R_below (by (with_reducible repeat (first | apply Kd.R_alloc | apply Kd.R_drewN | apply Kd.R_drew)); exact HO_3.out) hb); have n1_ := Aside0.mk (below_step (by repeat (first | (with_reducible first | exact HB.out | apply below_alloc | apply pw_below_drewN | apply below_drew1) | exact HB.out)) hb); have n2_ := Aside0.mk (hbox); have n3_ := Aside0.mk ((by rw [hg]; exact (below_size (by repeat (first | (with_reducible first | exact HB.out | apply below_alloc | apply pw_below_drewN | apply below_drew1) | exact HB.out))) : w.heap.size ≤ gb227)); have n4_ := Aside0.mk ((by rw [hg]; exact (below_size (by repeat (first | (with_reducible first | exact HB.out | apply below_alloc | apply pw_below_drewN | apply below_drew1) | exact HB.out))) : w.heap.size ≤ gb227)); clear HO_3; clear HB; have HO_3 := n0_; have HB := n1_; have BK227 := n2_; have GW227 := n3_; have GE227 := n4_; clear n0_ n1_ n2_ n3_ n4_; clear hb hbox hg; have hcz28_0 : w27.cell? ⟨gb227, 0, none⟩ = some (.int .i64 0) := (blk_cell BK227.out 0).trans rfl; have hcz28_1 : w27.cell? ⟨gb227, 1, none⟩ = some (.int .i64 0) := (blk_cell BK227.out 1).trans rfl; have hcz28_2 : w27.cell? ⟨gb227, 2, none⟩ = some (.string (⟨#[]⟩ : ByteArray)) := (blk_cell BK227.out 2).trans rfl; have hcz28_3 : w27.cell? ⟨gb227, 3, none⟩ = some (.int .i64 0) := (blk_cell BK227.out 3).trans rfl; have hcz28_4 : w27.cell? ⟨gb227, 4, none⟩ = some (.int .i64 0) := (blk_cell BK227.out 4).trans rfl; have hfz28_0 := blk_frozen BK227.out 0; have hfz28_1 := blk_frozen BK227.out 1; have hfz28_2 := blk_frozen BK227.out 2; have hfz28_3 := blk_frozen BK227.out 3; have hfz28_4 := blk_frozen BK227.out 4) | ((with_reducible refine gate_callee (f := 39) rfl ?_); refine goesL_ (some 19) rfl rfl Try.func39 (by kernel_rfl) rfl #[.int .i64 ((rd_T48 l0 x13_1).f0)] rfl (by (try simp only [List.map_toArray, List.map_cons, List.map_nil]); first | done | rfl | (simp only [List.length_drop, List.length_take]; rfl)) ?_; (with_reducible refine (impl_isByteKind.calls ((rd_T48 l0 x13_1).f0) t228 _ A10.out).mono ?_); rintro e w' ⟨rfl, ⟨nd, rfl⟩⟩; refine ⟨_, rfl, ?_⟩; obtain ⟨Ao29, co29, eo29⟩ := Kd.R_slice HO_3.out; subst eo29; have p233 : 0 ≤ (((rd_T48 l0 x13_1).f3) : Int) := of_decide_eq_true (by first | (with_reducible assumption) | assumption); have q233 : ((rd_T48 l0 x13_1).f3) < (x3_1.length : Int) := of_decide_eq_true (by first | (with_reducible assumption) | assumption); obtain ⟨ad233, e233, hx233_0⟩ := Kd.at_bool (Kd.R_reads' HO_3.out).2.2 ((rd_T48 l0 x13_1).f3) p233 q233; (try rw [← Nbq22.out] at hx233_0); cases e233; have hn233_0 : ad233.block ≠ gb227 := Kd.own_blk (Kd.R_ne HO_3.out BK227.out (by decide)); have hn233_1 : ad233.block ≠ gb227 := Kd.own_blk (Kd.R_ne HO_3.out BK227.out (by decide)); have hn233_2 : ad233.block ≠ gb227 := Kd.own_blk (Kd.R_ne HO_3.out BK227.out (by decide)); have hn233_3 : ad233.block ≠ gb227 := Kd.own_blk (Kd.R_ne HO_3.out BK227.out (by decide)); have hn233_4 : ad233.block ≠ gb227 := Kd.own_blk (Kd.R_ne HO_3.out BK227.out (by decide)); replace hx233_0 := (cell_far (p := ⟨gb227, 0, none⟩) (by first | (rw [add_block]; exact hn233_0) | (show (Addr.add _ _).block ≠ _; rw [add_block]; exact hn233_0) | exact hn233_0) (.int .i64 ((rd_T48 l0 x13_1).f0))).trans hx233_0; replace hx233_0 := (cell_far (p := ⟨gb227, 1, none⟩) (by first | (rw [add_block]; exact hn233_1) | (show (Addr.add _ _).block ≠ _; rw [add_block]; exact hn233_1) | exact hn233_1) (.int .i64 ((rd_T48 l0 x13_1).f1))).trans hx233_0; replace hx233_0 := (cell_far (p := ⟨gb227, 2, none⟩) (by first | (rw [add_block]; exact hn233_2) | (show (Addr.add _ _).block ≠ _; rw [add_block]; exact hn233_2) | exact hn233_2) (.string ((rd_T48 l0 x13_1).f2))).trans hx233_0; replace hx233_0 := (cell_far (p := ⟨gb227, 3, none⟩) (by first | (rw [add_block]; exact hn233_3) | (show (Addr.add _ _).block ≠ _; rw [add_block]; exact hn233_3) | exact hn233_3) (.int .i64 ((rd_T48 l0 x13_1).f3))).trans hx233_0; replace hx233_0 := (cell_far (p := ⟨gb227, 4, none⟩) (by first | (rw [add_block]; exact hn233_4) | (show (Addr.add _ _).block ≠ _; rw [add_block]; exact hn233_4) | exact hn233_4) (.int .i64 ((rd_T48 l0 x13_1).f4))).trans hx233_0; clear hn233_0; clear hn233_1; clear hn233_2; clear hn233_3; clear hn233_4; replace p233 := eq_true p233; replace q233 := eq_true q233; have p234 : 0 ≤ (((rd_T48 l0 x13_1).f4) : Int) := of_decide_eq_true (by first | (with_reducible assumption) | assumption); have q234 : ((rd_T48 l0 x13_1).f4) < (x3_1.length : Int) := of_decide_eq_true (by first | (with_reducible assumption) | assumption); obtain ⟨ad234, e234, hx234_0⟩ := Kd.at_bool (Kd.R_reads' HO_3.out).2.2 ((rd_T48 l0 x13_1).f4) p234 q234; (try rw [← Nbq22.out] at hx234_0); obtain rfl : ad233 = ad234 := (by injection e234); have hn234_0 : ad233.block ≠ gb227 := Kd.own_blk (Kd.R_ne HO_3.out BK227.out (by decide)); have hn234_1 : ad233.block ≠ gb227 := Kd.own_blk (Kd.R_ne HO_3.out BK227.out (by decide)); have hn234_2 : ad233.block ≠ gb227 := Kd.own_blk (Kd.R_ne HO_3.out BK227.out (by decide)); have hn234_3 : ad233.block ≠ gb227 := Kd.own_blk (Kd.R_ne HO_3.out BK227.out (by decide)); have hn234_4 : ad233.block ≠ gb227 := Kd.own_blk (Kd.R_ne HO_3.out BK227.out (by decide)); replace hx234_0 := (cell_far (p := ⟨gb227, 0, none⟩) (by first | (rw [add_block]; exact hn234_0) | (show (Addr.add _ _).block ≠ _; rw [add_block]; exact hn234_0) | exact hn234_0) (.int .i64 ((rd_T48 l0 x13_1).f0))).trans hx234_0; replace hx234_0 := (cell_far (p := ⟨gb227, 1, none⟩) (by first | (rw [add_block]; exact hn234_1) | (show (Addr.add _ _).block ≠ _; rw [add_block]; exact hn234_1) | exact hn234_1) (.int .i64 ((rd_T48 l0 x13_1).f1))).trans hx234_0; replace hx234_0 := (cell_far (p := ⟨gb227, 2, none⟩) (by first | (rw [add_block]; exact hn234_2) | (show (Addr.add _ _).block ≠ _; rw [add_block]; exact hn234_2) | exact hn234_2) (.string ((rd_T48 l0 x13_1).f2))).trans hx234_0; replace hx234_0 := (cell_far (p := ⟨gb227, 3, none⟩) (by first | (rw [add_block]; exact hn234_3) | (show (Addr.add _ _).block ≠ _; rw [add_block]; exact hn234_3) | exact hn234_3) (.int .i64 ((rd_T48 l0 x13_1).f3))).trans hx234_0; replace hx234_0 := (cell_far (p := ⟨gb227, 4, none⟩) (by first | (rw [add_block]; exact hn234_4) | (show (Addr.add _ _).block ≠ _; rw [add_block]; exact hn234_4) | exact hn234_4) (.int .i64 ((rd_T48 l0 x13_1).f4))).trans hx234_0; clear hn234_0; clear hn234_1; clear hn234_2; clear hn234_3; clear hn234_4; replace p234 := eq_true p234; replace q234 := eq_true q234) | ((with_reducible refine gate_builtin (b := .append) (xs := #[.tmp 58, .tmp 60]) rfl ?_); at_builtin; refine Kd.R_append Kd.bool (w0 := w) w.heap.size rfl (.tmp 58) (.tmp 60) 56 4 (.bool false) 1 rfl Try.underlying56 info4 rfl (by decide) (by omega) (.slice (some ad233) x3_1.length co29) x3_1 (rdOf false x3_1 ((rd_T48 l0 x13_1).f4)) [.bool (rdOf false x3_1 ((rd_T48 l0 x13_1).f4))] (fun _ => True) (fun _ => False) rfl (by first | (go_simp; done) | (go_simp; rfl)) ?aP (fun _ hk => hk.elim) ?aF ?aO ?aB ?aS ?aL ?_; (case aP => exact rfl); (case aB => exact (by repeat (first | (with_reducible first | exact HB.out | apply below_alloc | apply pw_below_drewN | apply below_drew1 | refine below_set ?_ GE227.out) | exact HB.out))); (case aF => exact (fun _ _ => trivial)); (case aO => exact (by (with_reducible repeat (first | apply Kd.R_alloc | apply Kd.R_drewN | apply Kd.R_drew)); exact Kd.R_mono (Kd.R_far (p := ⟨gb227, 4, none⟩) (Kd.R_far (p := ⟨gb227, 3, none⟩) (Kd.R_far (p := ⟨gb227, 2, none⟩) (Kd.R_far (p := ⟨gb227, 1, none⟩) (Kd.R_far (p := ⟨gb227, 0, none⟩) (Kd.R_types HO_3.out BK227.out (by decide)) (fun _ hk => hk.2) (.int .i64 ((rd_T48 l0 x13_1).f0))) (fun _ hk => hk.2) (.int .i64 ((rd_T48 l0 x13_1).f1))) (fun _ hk => hk.2) (.string ((rd_T48 l0 x13_1).f2))) (fun _ hk => hk.2) (.int .i64 ((rd_T48 l0 x13_1).f3))) (fun _ hk => hk.2) (.int .i64 ((rd_T48 l0 x13_1).f4))) (fun _ hk => trivial))); (case aS => exact (below_size (by repeat (first | (with_reducible first | exact HB.out | apply below_alloc | apply pw_below_drewN | apply below_drew1 | refine below_set ?_ GE227.out) | exact HB.out)))); (case aL => have := LMc26.out; omega); intro v236 w30 ho hb hg hat; rw [← Ny235.out] at ho; have n0_ := Aside0.mk (blk_grown (g := gb227) (o := .cells #[.int .i64 ((rd_T48 l0 x13_1).f0), .int .i64 ((rd_T48 l0 x13_1).f1), .string ((rd_T48 l0 x13_1).f2), .int .i64 ((rd_T48 l0 x13_1).f3), .int .i64 ((rd_T48 l0 x13_1).f4)] 48 (0, 0)) (by (with_reducible repeat (first | refine blk_drewN ?_ _ | refine blk_drew ?_ | refine blk_alloc ?_ _)); refine blk_put (cs := #[.int .i64 ((rd_T48 l0 x13_1).f0), .int .i64 ((rd_T48 l0 x13_1).f1), .string ((rd_T48 l0 x13_1).f2), .int .i64 ((rd_T48 l0 x13_1).f3), .int .i64 0]) ?_ 4 _ rfl; (with_reducible repeat (first | refine blk_drewN ?_ _ | refine blk_drew ?_ | refine blk_alloc ?_ _)); refine blk_put (cs := #[.int .i64 ((rd_T48 l0 x13_1).f0), .int .i64 ((rd_T48 l0 x13_1).f1), .string ((rd_T48 l0 x13_1).f2), .int .i64 0, .int .i64 0]) ?_ 3 _ rfl; (with_reducible repeat (first | refine blk_drewN ?_ _ | refine blk_drew ?_ | refine blk_alloc ?_ _)); refine blk_put (cs := #[.int .i64 ((rd_T48 l0 x13_1).f0), .int .i64 ((rd_T48 l0 x13_1).f1), .string (⟨#[]⟩ : ByteArray), .int .i64 0, .int .i64 0]) ?_ 2 _ rfl; (with_reducible repeat (first | refine blk_drewN ?_ _ | refine blk_drew ?_ | refine blk_alloc ?_ _)); refine blk_put (cs := #[.int .i64 ((rd_T48 l0 x13_1).f0), .int .i64 0, .string (⟨#[]⟩ : ByteArray), .int .i64 0, .int .i64 0]) ?_ 1 _ rfl; (with_reducible repeat (first | refine blk_drewN ?_ _ | refine blk_drew ?_ | refine blk_alloc ?_ _)); refine blk_put (cs := #[.int .i64 0, .int .i64 0, .string (⟨#[]⟩ : ByteArray), .int .i64 0, .int .i64 0]) ?_ 0 _ rfl; (with_reducible repeat (first | refine blk_drewN ?_ _ | refine blk_drew ?_ | refine blk_alloc ?_ _)); exact BK227.out) hg (Kd.R_ne HO_3.out BK227.out (by decide))); have n1_ := Aside0.mk (hb); have n2_ := Aside0.mk (ho); clear BK227; clear HB; clear HO_3; have BK227 := n0_; have HB := n1_; have HO237 := n2_; clear n0_ n1_ n2_; clear ho hb hg hat))
                              go_roundg k1
                              case measure => have := HK1.out; omega
                              case rel => exact ⟨(y235), (wrap64 (x13_1 + 1)), (by first | rfl | (simp; done) | (simp [*]; done)), H', ⟨by have := HK1.out; omega⟩, ⟨by (with_reducible repeat (first | apply Kd.R_alloc | apply Kd.R_drewN | apply Kd.R_drew)); exact HO237.out⟩, ⟨by repeat (first | (with_reducible first | exact HB.out | apply below_alloc | apply pw_below_drewN | apply below_drew1 | refine below_set ?_ GE227.out) | exact HB.out)⟩⟩
                            · rw [if_neg c26] at H
                              exact absurd H (by simp)
                          · rw [if_neg c25] at H
                            exact absurd H (by simp)
                        · rw [if_neg c24] at H
                          exact absurd H (by simp)
                      · replace c23 := Bool.eq_false_iff.mpr c23
                        subst c23
                        have H1 : (if x3_1.length < 140737488355328 then (impl_CanBeEmpty.l0 k1 (x3_1 ++ [false]) l0 (l0.length : Int) (wrap64 (x13_1 + 1))) else (none)) = some r := by rw [if_neg (show ¬ (false = true) by decide)] at H; exact H
                        clear H
                        have H := H1
                        clear H1
                        by_cases c31 : x3_1.length < 140737488355328
                        · rw [if_pos c31] at H
                          have LMc31 := Aside0.mk c31
                          clear c31
                          obtain ⟨y238, hy238⟩ : ∃ y_ : List Bool, y_ = (x3_1 ++ [false]) := ⟨_, rfl⟩
                          replace H : (impl_CanBeEmpty.l0 k1 y238 l0 (l0.length : Int) (wrap64 (x13_1 + 1))) = some r := by first | (rw [hy238]; with_reducible exact H) | (have H2_ := (Option.bind_some _ _).symm.trans H; rw [hy238]; with_reducible exact H2_) | (have H2_ := (Option.bind_some _ _).symm.trans H; with_reducible exact H2_) | with_reducible exact H | (rw [hy238]; exact H) | exact H
                          have Ny238 := Aside0.mk hy238
                          clear hy238
                          have H' := Aside0.mk H
                          clear H
                          have p226 : 0 ≤ (x13_1 : Int) := of_decide_eq_true (by first | (with_reducible assumption) | assumption)
                          have q226 : x13_1 < (l0.length : Int) := of_decide_eq_true (by first | (with_reducible assumption) | assumption)
                          obtain ⟨ad226, e226, hx226_0, hx226_1, hx226_2, hx226_3, hx226_4⟩ := at_T48 HR0.out x13_1 p226 q226
                          cases e226
                          replace hx226_0 := (HB.out.cell (World.block_lt_of_cell? w _ hx226_0)).trans hx226_0
                          replace hx226_1 := (HB.out.cell (World.block_lt_of_cell? w _ hx226_1)).trans hx226_1
                          replace hx226_2 := (HB.out.cell (World.block_lt_of_cell? w _ hx226_2)).trans hx226_2
                          replace hx226_3 := (HB.out.cell (World.block_lt_of_cell? w _ hx226_3)).trans hx226_3
                          replace hx226_4 := (HB.out.cell (World.block_lt_of_cell? w _ hx226_4)).trans hx226_4
                          replace p226 := eq_true p226
                          replace q226 := eq_true q226
                          go_wp2_with (first | ((with_reducible refine gate_dst (N := 5) rfl ?_); refine box_event ?hg (N := 5) ?hd (cs := #[.int .i64 0, .int .i64 0, .string (⟨#[]⟩ : ByteArray), .int .i64 0, .int .i64 0]) (t := 48) ?hr ?_; (case hd => rfl); (case hg => rfl); (case hr => first | (go_simp; done) | (go_simp; rfl)); intro gb227 hg w32 hbox hb; have n0_ := Aside0.mk (Kd.R_below (by (with_reducible repeat (first | apply Kd.R_alloc | apply Kd.R_drewN | apply Kd.R_drew)); exact HO_3.out) hb); have n1_ := Aside0.mk (below_step (by repeat (first | (with_reducible first | exact HB.out | apply below_alloc | apply pw_below_drewN | apply below_drew1) | exact HB.out)) hb); have n2_ := Aside0.mk (hbox); have n3_ := Aside0.mk ((by rw [hg]; exact (below_size (by repeat (first | (with_reducible first | exact HB.out | apply below_alloc | apply pw_below_drewN | apply below_drew1) | exact HB.out))) : w.heap.size ≤ gb227)); have n4_ := Aside0.mk ((by rw [hg]; exact (below_size (by repeat (first | (with_reducible first | exact HB.out | apply below_alloc | apply pw_below_drewN | apply below_drew1) | exact HB.out))) : w.heap.size ≤ gb227)); clear HO_3; clear HB; have HO_3 := n0_; have HB := n1_; have BK227 := n2_; have GW227 := n3_; have GE227 := n4_; clear n0_ n1_ n2_ n3_ n4_; clear hb hbox hg; have hcz33_0 : w32.cell? ⟨gb227, 0, none⟩ = some (.int .i64 0) := (blk_cell BK227.out 0).trans rfl; have hcz33_1 : w32.cell? ⟨gb227, 1, none⟩ = some (.int .i64 0) := (blk_cell BK227.out 1).trans rfl; have hcz33_2 : w32.cell? ⟨gb227, 2, none⟩ = some (.string (⟨#[]⟩ : ByteArray)) := (blk_cell BK227.out 2).trans rfl; have hcz33_3 : w32.cell? ⟨gb227, 3, none⟩ = some (.int .i64 0) := (blk_cell BK227.out 3).trans rfl; have hcz33_4 : w32.cell? ⟨gb227, 4, none⟩ = some (.int .i64 0) := (blk_cell BK227.out 4).trans rfl; have hfz33_0 := blk_frozen BK227.out 0; have hfz33_1 := blk_frozen BK227.out 1; have hfz33_2 := blk_frozen BK227.out 2; have hfz33_3 := blk_frozen BK227.out 3; have hfz33_4 := blk_frozen BK227.out 4) | ((with_reducible refine gate_callee (f := 39) rfl ?_); refine goesL_ (some 19) rfl rfl Try.func39 (by kernel_rfl) rfl #[.int .i64 ((rd_T48 l0 x13_1).f0)] rfl (by (try simp only [List.map_toArray, List.map_cons, List.map_nil]); first | done | rfl | (simp only [List.length_drop, List.length_take]; rfl)) ?_; (with_reducible refine (impl_isByteKind.calls ((rd_T48 l0 x13_1).f0) t228 _ A10.out).mono ?_); rintro e w' ⟨rfl, ⟨nd, rfl⟩⟩; refine ⟨_, rfl, ?_⟩; obtain ⟨Ao34, co34, eo34⟩ := Kd.R_slice HO_3.out; subst eo34; have p233 : 0 ≤ (((rd_T48 l0 x13_1).f3) : Int) := of_decide_eq_true (by first | (with_reducible assumption) | assumption); have q233 : ((rd_T48 l0 x13_1).f3) < (x3_1.length : Int) := of_decide_eq_true (by first | (with_reducible assumption) | assumption); obtain ⟨ad233, e233, hx233_0⟩ := Kd.at_bool (Kd.R_reads' HO_3.out).2.2 ((rd_T48 l0 x13_1).f3) p233 q233; (try rw [← Nbq22.out] at hx233_0); cases e233; have hn233_0 : ad233.block ≠ gb227 := Kd.own_blk (Kd.R_ne HO_3.out BK227.out (by decide)); have hn233_1 : ad233.block ≠ gb227 := Kd.own_blk (Kd.R_ne HO_3.out BK227.out (by decide)); have hn233_2 : ad233.block ≠ gb227 := Kd.own_blk (Kd.R_ne HO_3.out BK227.out (by decide)); have hn233_3 : ad233.block ≠ gb227 := Kd.own_blk (Kd.R_ne HO_3.out BK227.out (by decide)); have hn233_4 : ad233.block ≠ gb227 := Kd.own_blk (Kd.R_ne HO_3.out BK227.out (by decide)); replace hx233_0 := (cell_far (p := ⟨gb227, 0, none⟩) (by first | (rw [add_block]; exact hn233_0) | (show (Addr.add _ _).block ≠ _; rw [add_block]; exact hn233_0) | exact hn233_0) (.int .i64 ((rd_T48 l0 x13_1).f0))).trans hx233_0; replace hx233_0 := (cell_far (p := ⟨gb227, 1, none⟩) (by first | (rw [add_block]; exact hn233_1) | (show (Addr.add _ _).block ≠ _; rw [add_block]; exact hn233_1) | exact hn233_1) (.int .i64 ((rd_T48 l0 x13_1).f1))).trans hx233_0; replace hx233_0 := (cell_far (p := ⟨gb227, 2, none⟩) (by first | (rw [add_block]; exact hn233_2) | (show (Addr.add _ _).block ≠ _; rw [add_block]; exact hn233_2) | exact hn233_2) (.string ((rd_T48 l0 x13_1).f2))).trans hx233_0; replace hx233_0 := (cell_far (p := ⟨gb227, 3, none⟩) (by first | (rw [add_block]; exact hn233_3) | (show (Addr.add _ _).block ≠ _; rw [add_block]; exact hn233_3) | exact hn233_3) (.int .i64 ((rd_T48 l0 x13_1).f3))).trans hx233_0; replace hx233_0 := (cell_far (p := ⟨gb227, 4, none⟩) (by first | (rw [add_block]; exact hn233_4) | (show (Addr.add _ _).block ≠ _; rw [add_block]; exact hn233_4) | exact hn233_4) (.int .i64 ((rd_T48 l0 x13_1).f4))).trans hx233_0; clear hn233_0; clear hn233_1; clear hn233_2; clear hn233_3; clear hn233_4; replace p233 := eq_true p233; replace q233 := eq_true q233) | ((with_reducible refine gate_builtin (b := .append) (xs := #[.tmp 58, .tmp 60]) rfl ?_); at_builtin; refine Kd.R_append Kd.bool (w0 := w) w.heap.size rfl (.tmp 58) (.tmp 60) 56 4 (.bool false) 1 rfl Try.underlying56 info4 rfl (by decide) (by omega) (.slice (some ad233) x3_1.length co34) x3_1 false [.bool false] (fun _ => True) (fun _ => False) rfl (by first | (go_simp; done) | (go_simp; rfl)) ?aP (fun _ hk => hk.elim) ?aF ?aO ?aB ?aS ?aL ?_; (case aP => exact rfl); (case aB => exact (by repeat (first | (with_reducible first | exact HB.out | apply below_alloc | apply pw_below_drewN | apply below_drew1 | refine below_set ?_ GE227.out) | exact HB.out))); (case aF => exact (fun _ _ => trivial)); (case aO => exact (by (with_reducible repeat (first | apply Kd.R_alloc | apply Kd.R_drewN | apply Kd.R_drew)); exact Kd.R_mono (Kd.R_far (p := ⟨gb227, 4, none⟩) (Kd.R_far (p := ⟨gb227, 3, none⟩) (Kd.R_far (p := ⟨gb227, 2, none⟩) (Kd.R_far (p := ⟨gb227, 1, none⟩) (Kd.R_far (p := ⟨gb227, 0, none⟩) (Kd.R_types HO_3.out BK227.out (by decide)) (fun _ hk => hk.2) (.int .i64 ((rd_T48 l0 x13_1).f0))) (fun _ hk => hk.2) (.int .i64 ((rd_T48 l0 x13_1).f1))) (fun _ hk => hk.2) (.string ((rd_T48 l0 x13_1).f2))) (fun _ hk => hk.2) (.int .i64 ((rd_T48 l0 x13_1).f3))) (fun _ hk => hk.2) (.int .i64 ((rd_T48 l0 x13_1).f4))) (fun _ hk => trivial))); (case aS => exact (below_size (by repeat (first | (with_reducible first | exact HB.out | apply below_alloc | apply pw_below_drewN | apply below_drew1 | refine below_set ?_ GE227.out) | exact HB.out)))); (case aL => have := LMc31.out; omega); intro v239 w35 ho hb hg hat; rw [← Ny238.out] at ho; have n0_ := Aside0.mk (blk_grown (g := gb227) (o := .cells #[.int .i64 ((rd_T48 l0 x13_1).f0), .int .i64 ((rd_T48 l0 x13_1).f1), .string ((rd_T48 l0 x13_1).f2), .int .i64 ((rd_T48 l0 x13_1).f3), .int .i64 ((rd_T48 l0 x13_1).f4)] 48 (0, 0)) (by (with_reducible repeat (first | refine blk_drewN ?_ _ | refine blk_drew ?_ | refine blk_alloc ?_ _)); refine blk_put (cs := #[.int .i64 ((rd_T48 l0 x13_1).f0), .int .i64 ((rd_T48 l0 x13_1).f1), .string ((rd_T48 l0 x13_1).f2), .int .i64 ((rd_T48 l0 x13_1).f3), .int .i64 0]) ?_ 4 _ rfl; (with_reducible repeat (first | refine blk_drewN ?_ _ | refine blk_drew ?_ | refine blk_alloc ?_ _)); refine blk_put (cs := #[.int .i64 ((rd_T48 l0 x13_1).f0), .int .i64 ((rd_T48 l0 x13_1).f1), .string ((rd_T48 l0 x13_1).f2), .int .i64 0, .int .i64 0]) ?_ 3 _ rfl; (with_reducible repeat (first | refine blk_drewN ?_ _ | refine blk_drew ?_ | refine blk_alloc ?_ _)); refine blk_put (cs := #[.int .i64 ((rd_T48 l0 x13_1).f0), .int .i64 ((rd_T48 l0 x13_1).f1), .string (⟨#[]⟩ : ByteArray), .int .i64 0, .int .i64 0]) ?_ 2 _ rfl; (with_reducible repeat (first | refine blk_drewN ?_ _ | refine blk_drew ?_ | refine blk_alloc ?_ _)); refine blk_put (cs := #[.int .i64 ((rd_T48 l0 x13_1).f0), .int .i64 0, .string (⟨#[]⟩ : ByteArray), .int .i64 0, .int .i64 0]) ?_ 1 _ rfl; (with_reducible repeat (first | refine blk_drewN ?_ _ | refine blk_drew ?_ | refine blk_alloc ?_ _)); refine blk_put (cs := #[.int .i64 0, .int .i64 0, .string (⟨#[]⟩ : ByteArray), .int .i64 0, .int .i64 0]) ?_ 0 _ rfl; (with_reducible repeat (first | refine blk_drewN ?_ _ | refine blk_drew ?_ | refine blk_alloc ?_ _)); exact BK227.out) hg (Kd.R_ne HO_3.out BK227.out (by decide))); have n1_ := Aside0.mk (hb); have n2_ := Aside0.mk (ho); clear BK227; clear HB; clear HO_3; have BK227 := n0_; have HB := n1_; have HO240 := n2_; clear n0_ n1_ n2_; clear ho hb hg hat))
                          go_roundg k1
                          case measure => have := HK1.out; omega
                          case rel => exact ⟨(y238), (wrap64 (x13_1 + 1)), (by first | rfl | (simp; done) | (simp [*]; done)), H', ⟨by have := HK1.out; omega⟩, ⟨by (with_reducible repeat (first | apply Kd.R_alloc | apply Kd.R_drewN | apply Kd.R_drew)); exact HO240.out⟩, ⟨by repeat (first | (with_reducible first | exact HB.out | apply below_alloc | apply pw_below_drewN | apply below_drew1 | refine below_set ?_ GE227.out) | exact HB.out)⟩⟩
                        · rw [if_neg c31] at H
                          exact absurd H (by simp)
                    · rw [if_neg c21] at H
                      exact absurd H (by simp)
                  · rw [if_neg c20] at H
                    exact absurd H (by simp)
                · rw [if_neg c19] at H
                  have c19b0 : (((rd_T48 l0 x13_1).f0) == 11) = false := beq_eq_false_iff_ne.mpr c19
                  have c19b1 : (((rd_T48 l0 x13_1).f0) != 11) = true := bne_iff_ne.mpr c19
                  by_cases c36 : ((rd_T48 l0 x13_1).f0) = 12
                  · rw [if_pos c36] at H
                    have c36b0 : (((rd_T48 l0 x13_1).f0) == 12) = true := beq_iff_eq.mpr c36
                    have c36b1 : (((rd_T48 l0 x13_1).f0) != 12) = false := bne_eq_false_iff_eq.mpr c36
                    clear c36
                    by_cases c37 : 0 ≤ ((rd_T48 l0 x13_1).f3)
                    · rw [if_pos c37] at H
                      have c37b0 : decide (0 ≤ ((rd_T48 l0 x13_1).f3)) = true := decide_eq_true c37
                      clear c37
                      by_cases c38 : ((rd_T48 l0 x13_1).f3) < (x3_1.length : Int)
                      · rw [if_pos c38] at H
                        have c38b0 : decide (((rd_T48 l0 x13_1).f3) < (x3_1.length : Int)) = true := decide_eq_true c38
                        clear c38
                        obtain ⟨bq39, hbq39⟩ : ∃ b_ : Bool, b_ = (rdOf false x3_1 ((rd_T48 l0 x13_1).f3)) := ⟨_, rfl⟩
                        replace H : (if bq39 = true then (if x3_1.length < 140737488355328 then (impl_CanBeEmpty.l0 k1 (x3_1 ++ [true]) l0 (l0.length : Int) (wrap64 (x13_1 + 1))) else (none)) else (if 0 ≤ ((rd_T48 l0 x13_1).f4) then (if ((rd_T48 l0 x13_1).f4) < (x3_1.length : Int) then (if x3_1.length < 140737488355328 then (impl_CanBeEmpty.l0 k1 (x3_1 ++ [rdOf false x3_1 ((rd_T48 l0 x13_1).f4)]) l0 (l0.length : Int) (wrap64 (x13_1 + 1))) else (none)) else (none)) else (none))) = some r := by rw [← hbq39] at H; exact H
                        have Nbq39 := Aside0.mk hbq39
                        clear hbq39
                        by_cases c40 : bq39 = true
                        · subst c40
                          have H1 : (if x3_1.length < 140737488355328 then (impl_CanBeEmpty.l0 k1 (x3_1 ++ [true]) l0 (l0.length : Int) (wrap64 (x13_1 + 1))) else (none)) = some r := by rw [if_pos rfl] at H; exact H
                          clear H
                          have H := H1
                          clear H1
                          by_cases c41 : x3_1.length < 140737488355328
                          · rw [if_pos c41] at H
                            have LMc41 := Aside0.mk c41
                            clear c41
                            obtain ⟨y242, hy242⟩ : ∃ y_ : List Bool, y_ = (x3_1 ++ [true]) := ⟨_, rfl⟩
                            replace H : (impl_CanBeEmpty.l0 k1 y242 l0 (l0.length : Int) (wrap64 (x13_1 + 1))) = some r := by first | (rw [hy242]; with_reducible exact H) | (have H2_ := (Option.bind_some _ _).symm.trans H; rw [hy242]; with_reducible exact H2_) | (have H2_ := (Option.bind_some _ _).symm.trans H; with_reducible exact H2_) | with_reducible exact H | (rw [hy242]; exact H) | exact H
                            have Ny242 := Aside0.mk hy242
                            clear hy242
                            have H' := Aside0.mk H
                            clear H
                            have p226 : 0 ≤ (x13_1 : Int) := of_decide_eq_true (by first | (with_reducible assumption) | assumption)
                            have q226 : x13_1 < (l0.length : Int) := of_decide_eq_true (by first | (with_reducible assumption) | assumption)
                            obtain ⟨ad226, e226, hx226_0, hx226_1, hx226_2, hx226_3, hx226_4⟩ := at_T48 HR0.out x13_1 p226 q226
                            cases e226
                            replace hx226_0 := (HB.out.cell (World.block_lt_of_cell? w _ hx226_0)).trans hx226_0
                            replace hx226_1 := (HB.out.cell (World.block_lt_of_cell? w _ hx226_1)).trans hx226_1
                            replace hx226_2 := (HB.out.cell (World.block_lt_of_cell? w _ hx226_2)).trans hx226_2
                            replace hx226_3 := (HB.out.cell (World.block_lt_of_cell? w _ hx226_3)).trans hx226_3
                            replace hx226_4 := (HB.out.cell (World.block_lt_of_cell? w _ hx226_4)).trans hx226_4
                            replace p226 := eq_true p226
                            replace q226 := eq_true q226
                            go_wp2_with (first | ((with_reducible refine gate_dst (N := 5) rfl ?_); refine box_event ?hg (N := 5) ?hd (cs := #[.int .i64 0, .int .i64 0, .string (⟨#[]⟩ : ByteArray), .int .i64 0, .int .i64 0]) (t := 48) ?hr ?_; (case hd => rfl); (case hg => rfl); (case hr => first | (go_simp; done) | (go_simp; rfl)); intro gb227 hg w42 hbox hb; have n0_ := Aside0.mk (Kd.R_below (by (with_reducible repeat (first | apply Kd.R_alloc | apply Kd.R_drewN | apply Kd.R_drew)); exact HO_3.out) hb); have n1_ := Aside0.mk (below_step (by repeat (first | (with_reducible first | exact HB.out | apply below_alloc | apply pw_below_drewN | apply below_drew1) | exact HB.out)) hb); have n2_ := Aside0.mk (hbox); have n3_ := Aside0.mk ((by rw [hg]; exact (below_size (by repeat (first | (with_reducible first | exact HB.out | apply below_alloc | apply pw_below_drewN | apply below_drew1) | exact HB.out))) : w.heap.size ≤ gb227)); have n4_ := Aside0.mk ((by rw [hg]; exact (below_size (by repeat (first | (with_reducible first | exact HB.out | apply below_alloc | apply pw_below_drewN | apply below_drew1) | exact HB.out))) : w.heap.size ≤ gb227)); clear HO_3; clear HB; have HO_3 := n0_; have HB := n1_; have BK227 := n2_; have GW227 := n3_; have GE227 := n4_; clear n0_ n1_ n2_ n3_ n4_; clear hb hbox hg; have hcz43_0 : w42.cell? ⟨gb227, 0, none⟩ = some (.int .i64 0) := (blk_cell BK227.out 0).trans rfl; have hcz43_1 : w42.cell? ⟨gb227, 1, none⟩ = some (.int .i64 0) := (blk_cell BK227.out 1).trans rfl; have hcz43_2 : w42.cell? ⟨gb227, 2, none⟩ = some (.string (⟨#[]⟩ : ByteArray)) := (blk_cell BK227.out 2).trans rfl; have hcz43_3 : w42.cell? ⟨gb227, 3, none⟩ = some (.int .i64 0) := (blk_cell BK227.out 3).trans rfl; have hcz43_4 : w42.cell? ⟨gb227, 4, none⟩ = some (.int .i64 0) := (blk_cell BK227.out 4).trans rfl; have hfz43_0 := blk_frozen BK227.out 0; have hfz43_1 := blk_frozen BK227.out 1; have hfz43_2 := blk_frozen BK227.out 2; have hfz43_3 := blk_frozen BK227.out 3; have hfz43_4 := blk_frozen BK227.out 4) | ((with_reducible refine gate_callee (f := 39) rfl ?_); refine goesL_ (some 19) rfl rfl Try.func39 (by kernel_rfl) rfl #[.int .i64 ((rd_T48 l0 x13_1).f0)] rfl (by (try simp only [List.map_toArray, List.map_cons, List.map_nil]); first | done | rfl | (simp only [List.length_drop, List.length_take]; rfl)) ?_; (with_reducible refine (impl_isByteKind.calls ((rd_T48 l0 x13_1).f0) t228 _ A10.out).mono ?_); rintro e w' ⟨rfl, ⟨nd, rfl⟩⟩; refine ⟨_, rfl, ?_⟩; obtain ⟨Ao44, co44, eo44⟩ := Kd.R_slice HO_3.out; subst eo44; have p241 : 0 ≤ (((rd_T48 l0 x13_1).f3) : Int) := of_decide_eq_true (by first | (with_reducible assumption) | assumption); have q241 : ((rd_T48 l0 x13_1).f3) < (x3_1.length : Int) := of_decide_eq_true (by first | (with_reducible assumption) | assumption); obtain ⟨ad241, e241, hx241_0⟩ := Kd.at_bool (Kd.R_reads' HO_3.out).2.2 ((rd_T48 l0 x13_1).f3) p241 q241; (try rw [← Nbq39.out] at hx241_0); cases e241; have hn241_0 : ad241.block ≠ gb227 := Kd.own_blk (Kd.R_ne HO_3.out BK227.out (by decide)); have hn241_1 : ad241.block ≠ gb227 := Kd.own_blk (Kd.R_ne HO_3.out BK227.out (by decide)); have hn241_2 : ad241.block ≠ gb227 := Kd.own_blk (Kd.R_ne HO_3.out BK227.out (by decide)); have hn241_3 : ad241.block ≠ gb227 := Kd.own_blk (Kd.R_ne HO_3.out BK227.out (by decide)); have hn241_4 : ad241.block ≠ gb227 := Kd.own_blk (Kd.R_ne HO_3.out BK227.out (by decide)); replace hx241_0 := (cell_far (p := ⟨gb227, 0, none⟩) (by first | (rw [add_block]; exact hn241_0) | (show (Addr.add _ _).block ≠ _; rw [add_block]; exact hn241_0) | exact hn241_0) (.int .i64 ((rd_T48 l0 x13_1).f0))).trans hx241_0; replace hx241_0 := (cell_far (p := ⟨gb227, 1, none⟩) (by first | (rw [add_block]; exact hn241_1) | (show (Addr.add _ _).block ≠ _; rw [add_block]; exact hn241_1) | exact hn241_1) (.int .i64 ((rd_T48 l0 x13_1).f1))).trans hx241_0; replace hx241_0 := (cell_far (p := ⟨gb227, 2, none⟩) (by first | (rw [add_block]; exact hn241_2) | (show (Addr.add _ _).block ≠ _; rw [add_block]; exact hn241_2) | exact hn241_2) (.string ((rd_T48 l0 x13_1).f2))).trans hx241_0; replace hx241_0 := (cell_far (p := ⟨gb227, 3, none⟩) (by first | (rw [add_block]; exact hn241_3) | (show (Addr.add _ _).block ≠ _; rw [add_block]; exact hn241_3) | exact hn241_3) (.int .i64 ((rd_T48 l0 x13_1).f3))).trans hx241_0; replace hx241_0 := (cell_far (p := ⟨gb227, 4, none⟩) (by first | (rw [add_block]; exact hn241_4) | (show (Addr.add _ _).block ≠ _; rw [add_block]; exact hn241_4) | exact hn241_4) (.int .i64 ((rd_T48 l0 x13_1).f4))).trans hx241_0; clear hn241_0; clear hn241_1; clear hn241_2; clear hn241_3; clear hn241_4; replace p241 := eq_true p241; replace q241 := eq_true q241) | ((with_reducible refine gate_builtin (b := .append) (xs := #[.tmp 58, .tmp 60]) rfl ?_); at_builtin; refine Kd.R_append Kd.bool (w0 := w) w.heap.size rfl (.tmp 58) (.tmp 60) 56 4 (.bool false) 1 rfl Try.underlying56 info4 rfl (by decide) (by omega) (.slice (some ad241) x3_1.length co44) x3_1 true [.bool true] (fun _ => True) (fun _ => False) rfl (by first | (go_simp; done) | (go_simp; rfl)) ?aP (fun _ hk => hk.elim) ?aF ?aO ?aB ?aS ?aL ?_; (case aP => exact rfl); (case aB => exact (by repeat (first | (with_reducible first | exact HB.out | apply below_alloc | apply pw_below_drewN | apply below_drew1 | refine below_set ?_ GE227.out) | exact HB.out))); (case aF => exact (fun _ _ => trivial)); (case aO => exact (by (with_reducible repeat (first | apply Kd.R_alloc | apply Kd.R_drewN | apply Kd.R_drew)); exact Kd.R_mono (Kd.R_far (p := ⟨gb227, 4, none⟩) (Kd.R_far (p := ⟨gb227, 3, none⟩) (Kd.R_far (p := ⟨gb227, 2, none⟩) (Kd.R_far (p := ⟨gb227, 1, none⟩) (Kd.R_far (p := ⟨gb227, 0, none⟩) (Kd.R_types HO_3.out BK227.out (by decide)) (fun _ hk => hk.2) (.int .i64 ((rd_T48 l0 x13_1).f0))) (fun _ hk => hk.2) (.int .i64 ((rd_T48 l0 x13_1).f1))) (fun _ hk => hk.2) (.string ((rd_T48 l0 x13_1).f2))) (fun _ hk => hk.2) (.int .i64 ((rd_T48 l0 x13_1).f3))) (fun _ hk => hk.2) (.int .i64 ((rd_T48 l0 x13_1).f4))) (fun _ hk => trivial))); (case aS => exact (below_size (by repeat (first | (with_reducible first | exact HB.out | apply below_alloc | apply pw_below_drewN | apply below_drew1 | refine below_set ?_ GE227.out) | exact HB.out)))); (case aL => have := LMc41.out; omega); intro v243 w45 ho hb hg hat; rw [← Ny242.out] at ho; have n0_ := Aside0.mk (blk_grown (g := gb227) (o := .cells #[.int .i64 ((rd_T48 l0 x13_1).f0), .int .i64 ((rd_T48 l0 x13_1).f1), .string ((rd_T48 l0 x13_1).f2), .int .i64 ((rd_T48 l0 x13_1).f3), .int .i64 ((rd_T48 l0 x13_1).f4)] 48 (0, 0)) (by (with_reducible repeat (first | refine blk_drewN ?_ _ | refine blk_drew ?_ | refine blk_alloc ?_ _)); refine blk_put (cs := #[.int .i64 ((rd_T48 l0 x13_1).f0), .int .i64 ((rd_T48 l0 x13_1).f1), .string ((rd_T48 l0 x13_1).f2), .int .i64 ((rd_T48 l0 x13_1).f3), .int .i64 0]) ?_ 4 _ rfl; (with_reducible repeat (first | refine blk_drewN ?_ _ | refine blk_drew ?_ | refine blk_alloc ?_ _)); refine blk_put (cs := #[.int .i64 ((rd_T48 l0 x13_1).f0), .int .i64 ((rd_T48 l0 x13_1).f1), .string ((rd_T48 l0 x13_1).f2), .int .i64 0, .int .i64 0]) ?_ 3 _ rfl; (with_reducible repeat (first | refine blk_drewN ?_ _ | refine blk_drew ?_ | refine blk_alloc ?_ _)); refine blk_put (cs := #[.int .i64 ((rd_T48 l0 x13_1).f0), .int .i64 ((rd_T48 l0 x13_1).f1), .string (⟨#[]⟩ : ByteArray), .int .i64 0, .int .i64 0]) ?_ 2 _ rfl; (with_reducible repeat (first | refine blk_drewN ?_ _ | refine blk_drew ?_ | refine blk_alloc ?_ _)); refine blk_put (cs := #[.int .i64 ((rd_T48 l0 x13_1).f0), .int .i64 0, .string (⟨#[]⟩ : ByteArray), .int .i64 0, .int .i64 0]) ?_ 1 _ rfl; (with_reducible repeat (first | refine blk_drewN ?_ _ | refine blk_drew ?_ | refine blk_alloc ?_ _)); refine blk_put (cs := #[.int .i64 0, .int .i64 0, .string (⟨#[]⟩ : ByteArray), .int .i64 0, .int .i64 0]) ?_ 0 _ rfl; (with_reducible repeat (first | refine blk_drewN ?_ _ | refine blk_drew ?_ | refine blk_alloc ?_ _)); exact BK227.out) hg (Kd.R_ne HO_3.out BK227.out (by decide))); have n1_ := Aside0.mk (hb); have n2_ := Aside0.mk (ho); clear BK227; clear HB; clear HO_3; have BK227 := n0_; have HB := n1_; have HO244 := n2_; clear n0_ n1_ n2_; clear ho hb hg hat))
                            go_roundg k1
                            case measure => have := HK1.out; omega
                            case rel => exact ⟨(y242), (wrap64 (x13_1 + 1)), (by first | rfl | (simp; done) | (simp [*]; done)), H', ⟨by have := HK1.out; omega⟩, ⟨by (with_reducible repeat (first | apply Kd.R_alloc | apply Kd.R_drewN | apply Kd.R_drew)); exact HO244.out⟩, ⟨by repeat (first | (with_reducible first | exact HB.out | apply below_alloc | apply pw_below_drewN | apply below_drew1 | refine below_set ?_ GE227.out) | exact HB.out)⟩⟩
                          · rw [if_neg c41] at H
                            exact absurd H (by simp)
                        · replace c40 := Bool.eq_false_iff.mpr c40
                          subst c40
                          have H1 : (if 0 ≤ ((rd_T48 l0 x13_1).f4) then (if ((rd_T48 l0 x13_1).f4) < (x3_1.length : Int) then (if x3_1.length < 140737488355328 then (impl_CanBeEmpty.l0 k1 (x3_1 ++ [rdOf false x3_1 ((rd_T48 l0 x13_1).f4)]) l0 (l0.length : Int) (wrap64 (x13_1 + 1))) else (none)) else (none)) else (none)) = some r := by rw [if_neg (show ¬ (false = true) by decide)] at H; exact H
                          clear H
                          have H := H1
                          clear H1
                          by_cases c46 : 0 ≤ ((rd_T48 l0 x13_1).f4)
                          · rw [if_pos c46] at H
                            have c46b0 : decide (0 ≤ ((rd_T48 l0 x13_1).f4)) = true := decide_eq_true c46
                            clear c46
                            by_cases c47 : ((rd_T48 l0 x13_1).f4) < (x3_1.length : Int)
                            · rw [if_pos c47] at H
                              have c47b0 : decide (((rd_T48 l0 x13_1).f4) < (x3_1.length : Int)) = true := decide_eq_true c47
                              clear c47
                              by_cases c48 : x3_1.length < 140737488355328
                              · rw [if_pos c48] at H
                                have LMc48 := Aside0.mk c48
                                clear c48
                                obtain ⟨y246, hy246⟩ : ∃ y_ : List Bool, y_ = (x3_1 ++ [rdOf false x3_1 ((rd_T48 l0 x13_1).f4)]) := ⟨_, rfl⟩
                                replace H : (impl_CanBeEmpty.l0 k1 y246 l0 (l0.length : Int) (wrap64 (x13_1 + 1))) = some r := by first | (rw [hy246]; with_reducible exact H) | (have H2_ := (Option.bind_some _ _).symm.trans H; rw [hy246]; with_reducible exact H2_) | (have H2_ := (Option.bind_some _ _).symm.trans H; with_reducible exact H2_) | with_reducible exact H | (rw [hy246]; exact H) | exact H
                                have Ny246 := Aside0.mk hy246
                                clear hy246
                                have H' := Aside0.mk H
                                clear H
                                have p226 : 0 ≤ (x13_1 : Int) := of_decide_eq_true (by first | (with_reducible assumption) | assumption)
                                have q226 : x13_1 < (l0.length : Int) := of_decide_eq_true (by first | (with_reducible assumption) | assumption)
                                obtain ⟨ad226, e226, hx226_0, hx226_1, hx226_2, hx226_3, hx226_4⟩ := at_T48 HR0.out x13_1 p226 q226
                                cases e226
                                replace hx226_0 := (HB.out.cell (World.block_lt_of_cell? w _ hx226_0)).trans hx226_0
                                replace hx226_1 := (HB.out.cell (World.block_lt_of_cell? w _ hx226_1)).trans hx226_1
                                replace hx226_2 := (HB.out.cell (World.block_lt_of_cell? w _ hx226_2)).trans hx226_2
                                replace hx226_3 := (HB.out.cell (World.block_lt_of_cell? w _ hx226_3)).trans hx226_3
                                replace hx226_4 := (HB.out.cell (World.block_lt_of_cell? w _ hx226_4)).trans hx226_4
                                replace p226 := eq_true p226
                                replace q226 := eq_true q226
                                go_wp2_with (first | ((with_reducible refine gate_dst (N := 5) rfl ?_); refine box_event ?hg (N := 5) ?hd (cs := #[.int .i64 0, .int .i64 0, .string (⟨#[]⟩ : ByteArray), .int .i64 0, .int .i64 0]) (t := 48) ?hr ?_; (case hd => rfl); (case hg => rfl); (case hr => first | (go_simp; done) | (go_simp; rfl)); intro gb227 hg w49 hbox hb; have n0_ := Aside0.mk (Kd.R_below (by (with_reducible repeat (first | apply Kd.R_alloc | apply Kd.R_drewN | apply Kd.R_drew)); exact HO_3.out) hb); have n1_ := Aside0.mk (below_step (by repeat (first | (with_reducible first | exact HB.out | apply below_alloc | apply pw_below_drewN | apply below_drew1) | exact HB.out)) hb); have n2_ := Aside0.mk (hbox); have n3_ := Aside0.mk ((by rw [hg]; exact (below_size (by repeat (first | (with_reducible first | exact HB.out | apply below_alloc | apply pw_below_drewN | apply below_drew1) | exact HB.out))) : w.heap.size ≤ gb227)); have n4_ := Aside0.mk ((by rw [hg]; exact (below_size (by repeat (first | (with_reducible first | exact HB.out | apply below_alloc | apply pw_below_drewN | apply below_drew1) | exact HB.out))) : w.heap.size ≤ gb227)); clear HO_3; clear HB; have HO_3 := n0_; have HB := n1_; have BK227 := n2_; have GW227 := n3_; have GE227 := n4_; clear n0_ n1_ n2_ n3_ n4_; clear hb hbox hg; have hcz50_0 : w49.cell? ⟨gb227, 0, none⟩ = some (.int .i64 0) := (blk_cell BK227.out 0).trans rfl; have hcz50_1 : w49.cell? ⟨gb227, 1, none⟩ = some (.int .i64 0) := (blk_cell BK227.out 1).trans rfl; have hcz50_2 : w49.cell? ⟨gb227, 2, none⟩ = some (.string (⟨#[]⟩ : ByteArray)) := (blk_cell BK227.out 2).trans rfl; have hcz50_3 : w49.cell? ⟨gb227, 3, none⟩ = some (.int .i64 0) := (blk_cell BK227.out 3).trans rfl; have hcz50_4 : w49.cell? ⟨gb227, 4, none⟩ = some (.int .i64 0) := (blk_cell BK227.out 4).trans rfl; have hfz50_0 := blk_frozen BK227.out 0; have hfz50_1 := blk_frozen BK227.out 1; have hfz50_2 := blk_frozen BK227.out 2; have hfz50_3 := blk_frozen BK227.out 3; have hfz50_4 := blk_frozen BK227.out 4) | ((with_reducible refine gate_callee (f := 39) rfl ?_); refine goesL_ (some 19) rfl rfl Try.func39 (by kernel_rfl) rfl #[.int .i64 ((rd_T48 l0 x13_1).f0)] rfl (by (try simp only [List.map_toArray, List.map_cons, List.map_nil]); first | done | rfl | (simp only [List.length_drop, List.length_take]; rfl)) ?_; (with_reducible refine (impl_isByteKind.calls ((rd_T48 l0 x13_1).f0) t228 _ A10.out).mono ?_); rintro e w' ⟨rfl, ⟨nd, rfl⟩⟩; refine ⟨_, rfl, ?_⟩; obtain ⟨Ao51, co51, eo51⟩ := Kd.R_slice HO_3.out; subst eo51; have p241 : 0 ≤ (((rd_T48 l0 x13_1).f3) : Int) := of_decide_eq_true (by first | (with_reducible assumption) | assumption); have q241 : ((rd_T48 l0 x13_1).f3) < (x3_1.length : Int) := of_decide_eq_true (by first | (with_reducible assumption) | assumption); obtain ⟨ad241, e241, hx241_0⟩ := Kd.at_bool (Kd.R_reads' HO_3.out).2.2 ((rd_T48 l0 x13_1).f3) p241 q241; (try rw [← Nbq39.out] at hx241_0); cases e241; have hn241_0 : ad241.block ≠ gb227 := Kd.own_blk (Kd.R_ne HO_3.out BK227.out (by decide)); have hn241_1 : ad241.block ≠ gb227 := Kd.own_blk (Kd.R_ne HO_3.out BK227.out (by decide)); have hn241_2 : ad241.block ≠ gb227 := Kd.own_blk (Kd.R_ne HO_3.out BK227.out (by decide)); have hn241_3 : ad241.block ≠ gb227 := Kd.own_blk (Kd.R_ne HO_3.out BK227.out (by decide)); have hn241_4 : ad241.block ≠ gb227 := Kd.own_blk (Kd.R_ne HO_3.out BK227.out (by decide)); replace hx241_0 := (cell_far (p := ⟨gb227, 0, none⟩) (by first | (rw [add_block]; exact hn241_0) | (show (Addr.add _ _).block ≠ _; rw [add_block]; exact hn241_0) | exact hn241_0) (.int .i64 ((rd_T48 l0 x13_1).f0))).trans hx241_0; replace hx241_0 := (cell_far (p := ⟨gb227, 1, none⟩) (by first | (rw [add_block]; exact hn241_1) | (show (Addr.add _ _).block ≠ _; rw [add_block]; exact hn241_1) | exact hn241_1) (.int .i64 ((rd_T48 l0 x13_1).f1))).trans hx241_0; replace hx241_0 := (cell_far (p := ⟨gb227, 2, none⟩) (by first | (rw [add_block]; exact hn241_2) | (show (Addr.add _ _).block ≠ _; rw [add_block]; exact hn241_2) | exact hn241_2) (.string ((rd_T48 l0 x13_1).f2))).trans hx241_0; replace hx241_0 := (cell_far (p := ⟨gb227, 3, none⟩) (by first | (rw [add_block]; exact hn241_3) | (show (Addr.add _ _).block ≠ _; rw [add_block]; exact hn241_3) | exact hn241_3) (.int .i64 ((rd_T48 l0 x13_1).f3))).trans hx241_0; replace hx241_0 := (cell_far (p := ⟨gb227, 4, none⟩) (by first | (rw [add_block]; exact hn241_4) | (show (Addr.add _ _).block ≠ _; rw [add_block]; exact hn241_4) | exact hn241_4) (.int .i64 ((rd_T48 l0 x13_1).f4))).trans hx241_0; clear hn241_0; clear hn241_1; clear hn241_2; clear hn241_3; clear hn241_4; replace p241 := eq_true p241; replace q241 := eq_true q241; have p245 : 0 ≤ (((rd_T48 l0 x13_1).f4) : Int) := of_decide_eq_true (by first | (with_reducible assumption) | assumption); have q245 : ((rd_T48 l0 x13_1).f4) < (x3_1.length : Int) := of_decide_eq_true (by first | (with_reducible assumption) | assumption); obtain ⟨ad245, e245, hx245_0⟩ := Kd.at_bool (Kd.R_reads' HO_3.out).2.2 ((rd_T48 l0 x13_1).f4) p245 q245; (try rw [← Nbq39.out] at hx245_0); obtain rfl : ad241 = ad245 := (by injection e245); have hn245_0 : ad241.block ≠ gb227 := Kd.own_blk (Kd.R_ne HO_3.out BK227.out (by decide)); have hn245_1 : ad241.block ≠ gb227 := Kd.own_blk (Kd.R_ne HO_3.out BK227.out (by decide)); have hn245_2 : ad241.block ≠ gb227 := Kd.own_blk (Kd.R_ne HO_3.out BK227.out (by decide)); have hn245_3 : ad241.block ≠ gb227 := Kd.own_blk (Kd.R_ne HO_3.out BK227.out (by decide)); have hn245_4 : ad241.block ≠ gb227 := Kd.own_blk (Kd.R_ne HO_3.out BK227.out (by decide)); replace hx245_0 := (cell_far (p := ⟨gb227, 0, none⟩) (by first | (rw [add_block]; exact hn245_0) | (show (Addr.add _ _).block ≠ _; rw [add_block]; exact hn245_0) | exact hn245_0) (.int .i64 ((rd_T48 l0 x13_1).f0))).trans hx245_0; replace hx245_0 := (cell_far (p := ⟨gb227, 1, none⟩) (by first | (rw [add_block]; exact hn245_1) | (show (Addr.add _ _).block ≠ _; rw [add_block]; exact hn245_1) | exact hn245_1) (.int .i64 ((rd_T48 l0 x13_1).f1))).trans hx245_0; replace hx245_0 := (cell_far (p := ⟨gb227, 2, none⟩) (by first | (rw [add_block]; exact hn245_2) | (show (Addr.add _ _).block ≠ _; rw [add_block]; exact hn245_2) | exact hn245_2) (.string ((rd_T48 l0 x13_1).f2))).trans hx245_0; replace hx245_0 := (cell_far (p := ⟨gb227, 3, none⟩) (by first | (rw [add_block]; exact hn245_3) | (show (Addr.add _ _).block ≠ _; rw [add_block]; exact hn245_3) | exact hn245_3) (.int .i64 ((rd_T48 l0 x13_1).f3))).trans hx245_0; replace hx245_0 := (cell_far (p := ⟨gb227, 4, none⟩) (by first | (rw [add_block]; exact hn245_4) | (show (Addr.add _ _).block ≠ _; rw [add_block]; exact hn245_4) | exact hn245_4) (.int .i64 ((rd_T48 l0 x13_1).f4))).trans hx245_0; clear hn245_0; clear hn245_1; clear hn245_2; clear hn245_3; clear hn245_4; replace p245 := eq_true p245; replace q245 := eq_true q245) | ((with_reducible refine gate_builtin (b := .append) (xs := #[.tmp 58, .tmp 60]) rfl ?_); at_builtin; refine Kd.R_append Kd.bool (w0 := w) w.heap.size rfl (.tmp 58) (.tmp 60) 56 4 (.bool false) 1 rfl Try.underlying56 info4 rfl (by decide) (by omega) (.slice (some ad241) x3_1.length co51) x3_1 (rdOf false x3_1 ((rd_T48 l0 x13_1).f4)) [.bool (rdOf false x3_1 ((rd_T48 l0 x13_1).f4))] (fun _ => True) (fun _ => False) rfl (by first | (go_simp; done) | (go_simp; rfl)) ?aP (fun _ hk => hk.elim) ?aF ?aO ?aB ?aS ?aL ?_; (case aP => exact rfl); (case aB => exact (by repeat (first | (with_reducible first | exact HB.out | apply below_alloc | apply pw_below_drewN | apply below_drew1 | refine below_set ?_ GE227.out) | exact HB.out))); (case aF => exact (fun _ _ => trivial)); (case aO => exact (by (with_reducible repeat (first | apply Kd.R_alloc | apply Kd.R_drewN | apply Kd.R_drew)); exact Kd.R_mono (Kd.R_far (p := ⟨gb227, 4, none⟩) (Kd.R_far (p := ⟨gb227, 3, none⟩) (Kd.R_far (p := ⟨gb227, 2, none⟩) (Kd.R_far (p := ⟨gb227, 1, none⟩) (Kd.R_far (p := ⟨gb227, 0, none⟩) (Kd.R_types HO_3.out BK227.out (by decide)) (fun _ hk => hk.2) (.int .i64 ((rd_T48 l0 x13_1).f0))) (fun _ hk => hk.2) (.int .i64 ((rd_T48 l0 x13_1).f1))) (fun _ hk => hk.2) (.string ((rd_T48 l0 x13_1).f2))) (fun _ hk => hk.2) (.int .i64 ((rd_T48 l0 x13_1).f3))) (fun _ hk => hk.2) (.int .i64 ((rd_T48 l0 x13_1).f4))) (fun _ hk => trivial))); (case aS => exact (below_size (by repeat (first | (with_reducible first | exact HB.out | apply below_alloc | apply pw_below_drewN | apply below_drew1 | refine below_set ?_ GE227.out) | exact HB.out)))); (case aL => have := LMc48.out; omega); intro v247 w52 ho hb hg hat; rw [← Ny246.out] at ho; have n0_ := Aside0.mk (blk_grown (g := gb227) (o := .cells #[.int .i64 ((rd_T48 l0 x13_1).f0), .int .i64 ((rd_T48 l0 x13_1).f1), .string ((rd_T48 l0 x13_1).f2), .int .i64 ((rd_T48 l0 x13_1).f3), .int .i64 ((rd_T48 l0 x13_1).f4)] 48 (0, 0)) (by (with_reducible repeat (first | refine blk_drewN ?_ _ | refine blk_drew ?_ | refine blk_alloc ?_ _)); refine blk_put (cs := #[.int .i64 ((rd_T48 l0 x13_1).f0), .int .i64 ((rd_T48 l0 x13_1).f1), .string ((rd_T48 l0 x13_1).f2), .int .i64 ((rd_T48 l0 x13_1).f3), .int .i64 0]) ?_ 4 _ rfl; (with_reducible repeat (first | refine blk_drewN ?_ _ | refine blk_drew ?_ | refine blk_alloc ?_ _)); refine blk_put (cs := #[.int .i64 ((rd_T48 l0 x13_1).f0), .int .i64 ((rd_T48 l0 x13_1).f1), .string ((rd_T48 l0 x13_1).f2), .int .i64 0, .int .i64 0]) ?_ 3 _ rfl; (with_reducible repeat (first | refine blk_drewN ?_ _ | refine blk_drew ?_ | refine blk_alloc ?_ _)); refine blk_put (cs := #[.int .i64 ((rd_T48 l0 x13_1).f0), .int .i64 ((rd_T48 l0 x13_1).f1), .string (⟨#[]⟩ : ByteArray), .int .i64 0, .int .i64 0]) ?_ 2 _ rfl; (with_reducible repeat (first | refine blk_drewN ?_ _ | refine blk_drew ?_ | refine blk_alloc ?_ _)); refine blk_put (cs := #[.int .i64 ((rd_T48 l0 x13_1).f0), .int .i64 0, .string (⟨#[]⟩ : ByteArray), .int .i64 0, .int .i64 0]) ?_ 1 _ rfl; (with_reducible repeat (first | refine blk_drewN ?_ _ | refine blk_drew ?_ | refine blk_alloc ?_ _)); refine blk_put (cs := #[.int .i64 0, .int .i64 0, .string (⟨#[]⟩ : ByteArray), .int .i64 0, .int .i64 0]) ?_ 0 _ rfl; (with_reducible repeat (first | refine blk_drewN ?_ _ | refine blk_drew ?_ | refine blk_alloc ?_ _)); exact BK227.out) hg (Kd.R_ne HO_3.out BK227.out (by decide))); have n1_ := Aside0.mk (hb); have n2_ := Aside0.mk (ho); clear BK227; clear HB; clear HO_3; have BK227 := n0_; have HB := n1_; have HO248 := n2_; clear n0_ n1_ n2_; clear ho hb hg hat))
                                go_roundg k1
                                case measure => have := HK1.out; omega
                                case rel => exact ⟨(y246), (wrap64 (x13_1 + 1)), (by first | rfl | (simp; done) | (simp [*]; done)), H', ⟨by have := HK1.out; omega⟩, ⟨by (with_reducible repeat (first | apply Kd.R_alloc | apply Kd.R_drewN | apply Kd.R_drew)); exact HO248.out⟩, ⟨by repeat (first | (with_reducible first | exact HB.out | apply below_alloc | apply pw_below_drewN | apply below_drew1 | refine below_set ?_ GE227.out) | exact HB.out)⟩⟩
                              · rw [if_neg c48] at H
                                exact absurd H (by simp)
                            · rw [if_neg c47] at H
                              exact absurd H (by simp)
                          · rw [if_neg c46] at H
                            exact absurd H (by simp)
                      · rw [if_neg c38] at H
                        exact absurd H (by simp)
                    · rw [if_neg c37] at H
                      exact absurd H (by simp)
                  · rw [if_neg c36] at H
                    have c36b0 : (((rd_T48 l0 x13_1).f0) == 12) = false := beq_eq_false_iff_ne.mpr c36
                    have c36b1 : (((rd_T48 l0 x13_1).f0) != 12) = true := bne_iff_ne.mpr c36
                    by_cases c53 : x3_1.length < 140737488355328
                    · rw [if_pos c53] at H
                      have LMc53 := Aside0.mk c53
                      clear c53
                      obtain ⟨y249, hy249⟩ : ∃ y_ : List Bool, y_ = (x3_1 ++ [!t228]) := ⟨_, rfl⟩
                      replace H : (impl_CanBeEmpty.l0 k1 y249 l0 (l0.length : Int) (wrap64 (x13_1 + 1))) = some r := by first | (rw [hy249]; with_reducible exact H) | (have H2_ := (Option.bind_some _ _).symm.trans H; rw [hy249]; with_reducible exact H2_) | (have H2_ := (Option.bind_some _ _).symm.trans H; with_reducible exact H2_) | with_reducible exact H | (rw [hy249]; exact H) | exact H
                      have Ny249 := Aside0.mk hy249
                      clear hy249
                      have H' := Aside0.mk H
                      clear H
                      have p226 : 0 ≤ (x13_1 : Int) := of_decide_eq_true (by first | (with_reducible assumption) | assumption)
                      have q226 : x13_1 < (l0.length : Int) := of_decide_eq_true (by first | (with_reducible assumption) | assumption)
                      obtain ⟨ad226, e226, hx226_0, hx226_1, hx226_2, hx226_3, hx226_4⟩ := at_T48 HR0.out x13_1 p226 q226
                      cases e226
                      replace hx226_0 := (HB.out.cell (World.block_lt_of_cell? w _ hx226_0)).trans hx226_0
                      replace hx226_1 := (HB.out.cell (World.block_lt_of_cell? w _ hx226_1)).trans hx226_1
                      replace hx226_2 := (HB.out.cell (World.block_lt_of_cell? w _ hx226_2)).trans hx226_2
                      replace hx226_3 := (HB.out.cell (World.block_lt_of_cell? w _ hx226_3)).trans hx226_3
                      replace hx226_4 := (HB.out.cell (World.block_lt_of_cell? w _ hx226_4)).trans hx226_4
                      replace p226 := eq_true p226
                      replace q226 := eq_true q226
                      go_wp2_with (first | ((with_reducible refine gate_dst (N := 5) rfl ?_); refine box_event ?hg (N := 5) ?hd (cs := #[.int .i64 0, .int .i64 0, .string (⟨#[]⟩ : ByteArray), .int .i64 0, .int .i64 0]) (t := 48) ?hr ?_; (case hd => rfl); (case hg => rfl); (case hr => first | (go_simp; done) | (go_simp; rfl)); intro gb227 hg w54 hbox hb; have n0_ := Aside0.mk (Kd.R_below (by (with_reducible repeat (first | apply Kd.R_alloc | apply Kd.R_drewN | apply Kd.R_drew)); exact HO_3.out) hb); have n1_ := Aside0.mk (below_step (by repeat (first | (with_reducible first | exact HB.out | apply below_alloc | apply pw_below_drewN | apply below_drew1) | exact HB.out)) hb); have n2_ := Aside0.mk (hbox); have n3_ := Aside0.mk ((by rw [hg]; exact (below_size (by repeat (first | (with_reducible first | exact HB.out | apply below_alloc | apply pw_below_drewN | apply below_drew1) | exact HB.out))) : w.heap.size ≤ gb227)); have n4_ := Aside0.mk ((by rw [hg]; exact (below_size (by repeat (first | (with_reducible first | exact HB.out | apply below_alloc | apply pw_below_drewN | apply below_drew1) | exact HB.out))) : w.heap.size ≤ gb227)); clear HO_3; clear HB; have HO_3 := n0_; have HB := n1_; have BK227 := n2_; have GW227 := n3_; have GE227 := n4_; clear n0_ n1_ n2_ n3_ n4_; clear hb hbox hg; have hcz55_0 : w54.cell? ⟨gb227, 0, none⟩ = some (.int .i64 0) := (blk_cell BK227.out 0).trans rfl; have hcz55_1 : w54.cell? ⟨gb227, 1, none⟩ = some (.int .i64 0) := (blk_cell BK227.out 1).trans rfl; have hcz55_2 : w54.cell? ⟨gb227, 2, none⟩ = some (.string (⟨#[]⟩ : ByteArray)) := (blk_cell BK227.out 2).trans rfl; have hcz55_3 : w54.cell? ⟨gb227, 3, none⟩ = some (.int .i64 0) := (blk_cell BK227.out 3).trans rfl; have hcz55_4 : w54.cell? ⟨gb227, 4, none⟩ = some (.int .i64 0) := (blk_cell BK227.out 4).trans rfl; have hfz55_0 := blk_frozen BK227.out 0; have hfz55_1 := blk_frozen BK227.out 1; have hfz55_2 := blk_frozen BK227.out 2; have hfz55_3 := blk_frozen BK227.out 3; have hfz55_4 := blk_frozen BK227.out 4) | ((with_reducible refine gate_callee (f := 39) rfl ?_); refine goesL_ (some 19) rfl rfl Try.func39 (by kernel_rfl) rfl #[.int .i64 ((rd_T48 l0 x13_1).f0)] rfl (by (try simp only [List.map_toArray, List.map_cons, List.map_nil]); first | done | rfl | (simp only [List.length_drop, List.length_take]; rfl)) ?_; (with_reducible refine (impl_isByteKind.calls ((rd_T48 l0 x13_1).f0) t228 _ A10.out).mono ?_); rintro e w' ⟨rfl, ⟨nd, rfl⟩⟩; refine ⟨_, rfl, ?_⟩) | ((with_reducible refine gate_builtin (b := .append) (xs := #[.tmp 58, .tmp 60]) rfl ?_); at_builtin; refine Kd.R_append Kd.bool (w0 := w) w.heap.size rfl (.tmp 58) (.tmp 60) 56 4 (.bool false) 1 rfl Try.underlying56 info4 rfl (by decide) (by omega) u3 x3_1 (!t228) [.bool (!t228)] (fun _ => True) (fun _ => False) rfl (by first | (go_simp; done) | (go_simp; rfl)) ?aP (fun _ hk => hk.elim) ?aF ?aO ?aB ?aS ?aL ?_; (case aP => exact rfl); (case aB => exact (by repeat (first | (with_reducible first | exact HB.out | apply below_alloc | apply pw_below_drewN | apply below_drew1 | refine below_set ?_ GE227.out) | exact HB.out))); (case aF => exact (fun _ _ => trivial)); (case aO => exact (by (with_reducible repeat (first | apply Kd.R_alloc | apply Kd.R_drewN | apply Kd.R_drew)); exact Kd.R_mono (Kd.R_far (p := ⟨gb227, 4, none⟩) (Kd.R_far (p := ⟨gb227, 3, none⟩) (Kd.R_far (p := ⟨gb227, 2, none⟩) (Kd.R_far (p := ⟨gb227, 1, none⟩) (Kd.R_far (p := ⟨gb227, 0, none⟩) (Kd.R_types HO_3.out BK227.out (by decide)) (fun _ hk => hk.2) (.int .i64 ((rd_T48 l0 x13_1).f0))) (fun _ hk => hk.2) (.int .i64 ((rd_T48 l0 x13_1).f1))) (fun _ hk => hk.2) (.string ((rd_T48 l0 x13_1).f2))) (fun _ hk => hk.2) (.int .i64 ((rd_T48 l0 x13_1).f3))) (fun _ hk => hk.2) (.int .i64 ((rd_T48 l0 x13_1).f4))) (fun _ hk => trivial))); (case aS => exact (below_size (by repeat (first | (with_reducible first | exact HB.out | apply below_alloc | apply pw_below_drewN | apply below_drew1 | refine below_set ?_ GE227.out) | exact HB.out)))); (case aL => have := LMc53.out; omega); intro v250 w56 ho hb hg hat; rw [← Ny249.out] at ho; have n0_ := Aside0.mk (blk_grown (g := gb227) (o := .cells #[.int .i64 ((rd_T48 l0 x13_1).f0), .int .i64 ((rd_T48 l0 x13_1).f1), .string ((rd_T48 l0 x13_1).f2), .int .i64 ((rd_T48 l0 x13_1).f3), .int .i64 ((rd_T48 l0 x13_1).f4)] 48 (0, 0)) (by (with_reducible repeat (first | refine blk_drewN ?_ _ | refine blk_drew ?_ | refine blk_alloc ?_ _)); refine blk_put (cs := #[.int .i64 ((rd_T48 l0 x13_1).f0), .int .i64 ((rd_T48 l0 x13_1).f1), .string ((rd_T48 l0 x13_1).f2), .int .i64 ((rd_T48 l0 x13_1).f3), .int .i64 0]) ?_ 4 _ rfl; (with_reducible repeat (first | refine blk_drewN ?_ _ | refine blk_drew ?_ | refine blk_alloc ?_ _)); refine blk_put (cs := #[.int .i64 ((rd_T48 l0 x13_1).f0), .int .i64 ((rd_T48 l0 x13_1).f1), .string ((rd_T48 l0 x13_1).f2), .int .i64 0, .int .i64 0]) ?_ 3 _ rfl; (with_reducible repeat (first | refine blk_drewN ?_ _ | refine blk_drew ?_ | refine blk_alloc ?_ _)); refine blk_put (cs := #[.int .i64 ((rd_T48 l0 x13_1).f0), .int .i64 ((rd_T48 l0 x13_1).f1), .string (⟨#[]⟩ : ByteArray), .int .i64 0, .int .i64 0]) ?_ 2 _ rfl; (with_reducible repeat (first | refine blk_drewN ?_ _ | refine blk_drew ?_ | refine blk_alloc ?_ _)); refine blk_put (cs := #[.int .i64 ((rd_T48 l0 x13_1).f0), .int .i64 0, .string (⟨#[]⟩ : ByteArray), .int .i64 0, .int .i64 0]) ?_ 1 _ rfl; (with_reducible repeat (first | refine blk_drewN ?_ _ | refine blk_drew ?_ | refine blk_alloc ?_ _)); refine blk_put (cs := #[.int .i64 0, .int .i64 0, .string (⟨#[]⟩ : ByteArray), .int .i64 0, .int .i64 0]) ?_ 0 _ rfl; (with_reducible repeat (first | refine blk_drewN ?_ _ | refine blk_drew ?_ | refine blk_alloc ?_ _)); exact BK227.out) hg (Kd.R_ne HO_3.out BK227.out (by decide))); have n1_ := Aside0.mk (hb); have n2_ := Aside0.mk (ho); clear BK227; clear HB; clear HO_3; have BK227 := n0_; have HB := n1_; have HO251 := n2_; clear n0_ n1_ n2_; clear ho hb hg hat))
                      go_roundg k1
                      case measure => have := HK1.out; omega
                      case rel => exact ⟨(y249), (wrap64 (x13_1 + 1)), (by first | rfl | (simp; done) | (simp [*]; done)), H', ⟨by have := HK1.out; omega⟩, ⟨by (with_reducible repeat (first | apply Kd.R_alloc | apply Kd.R_drewN | apply Kd.R_drew)); exact HO251.out⟩, ⟨by repeat (first | (with_reducible first | exact HB.out | apply below_alloc | apply pw_below_drewN | apply below_drew1 | refine below_set ?_ GE227.out) | exact HB.out)⟩⟩
                    · rw [if_neg c53] at H
                      exact absurd H (by simp)
            · rw [if_neg c9] at H
              exact absurd H (by simp)
          · rw [if_neg c8] at H
            exact absurd H (by simp)
        · rw [if_neg c7] at H
          have c7b0 : decide (x13_1 < (l0.length : Int)) = false := decide_eq_false c7
          clear c7
          obtain ⟨ji57, hji57⟩ : ∃ j_ : Int, (wrap64 ((x3_1.length : Int) - 1)) = j_ := ⟨_, rfl⟩
          replace H : (if 0 ≤ (ji57) then (if (ji57) < (x3_1.length : Int) then (some (rdOf false x3_1 (ji57))) else (none)) else (none)) = some r := by first | (rw [hji57] at H; exact H) | (simp only [hji57] at H ⊢; exact H)
          have hji57w : (IntKind.i64.wrap ((x3_1.length : Int) - 1)) = ji57 := (i64_w _).trans hji57
          by_cases c58 : 0 ≤ (ji57)
          · rw [if_pos c58] at H
            have c58b0 : decide (0 ≤ (ji57)) = true := decide_eq_true c58
            clear c58
            by_cases c59 : (ji57) < (x3_1.length : Int)
            · rw [if_pos c59] at H
              have c59b0 : decide ((ji57) < (x3_1.length : Int)) = true := decide_eq_true c59
              clear c59
              obtain rfl := Option.some.inj H
              obtain ⟨Ao60, co60, eo60⟩ := Kd.R_slice HO_3.out
              subst eo60
              have p225 : 0 ≤ ((ji57) : Int) := of_decide_eq_true (by first | (with_reducible assumption) | assumption)
              have q225 : (ji57) < (x3_1.length : Int) := of_decide_eq_true (by first | (with_reducible assumption) | assumption)
              obtain ⟨ad225, e225, hx225_0⟩ := Kd.at_bool (Kd.R_reads' HO_3.out).2.2 (ji57) p225 q225
              cases e225
              replace p225 := eq_true p225
              replace q225 := eq_true q225
              go_wp2
              go_ret
              exact ⟨by first | rfl | (simp [errW_none, errW_some] <;> rfl) | (simp only [← hji57]; first | rfl | (simp [errW_none, errW_some] <;> rfl)) | (simp [*, errW_none, errW_some] <;> rfl), by repeat (first | (with_reducible first | exact HB.out | apply below_alloc | apply pw_below_drewN | apply below_drew1) | exact HB.out)⟩
            · rw [if_neg c59] at H
              exact absurd H (by simp)
          · rw [if_neg c58] at H
            exact absurd H (by simp)
  · rw [if_neg c3] at H
    have c3b0 : (t221 == 0) = false := beq_eq_false_iff_ne.mpr c3
    have c3b1 : (t221 != 0) = true := bne_iff_ne.mpr c3
    obtain rfl := Option.some.inj H
    go_enter Try.func17, Try.ntmps17
    go_wp2_with (first | ((with_reducible refine gate_callee (f := 15) rfl ?_); refine goesL_ (some 8) rfl rfl Try.func15 (by kernel_rfl) rfl #[.slice A0 l0.length c0] rfl (by (try simp only [List.map_toArray, List.map_cons, List.map_nil]); first | done | rfl | (simp only [List.length_drop, List.length_take]; rfl)) ?_; (with_reducible refine (impl_NodesFault.calls k _ _ l0 t221 _ ?side1 ?side2 A2.out).mono ?_); (case side1 => repeat (first | exact HR0.out | (with_reducible refine Kd.C_alloc ?_ _) | (with_reducible refine Kd.C_drewN ?_ _) | (with_reducible refine Kd.C_drew ?_))); (case side2 => exact HC0.out); rintro e w61 ⟨rfl, hb⟩; refine ⟨_, rfl, ?_⟩; have n0_ := Aside0.mk (below_step (by repeat (first | (with_reducible first | exact HB.out | apply below_alloc | apply pw_below_drewN | apply below_drew1) | exact HB.out)) hb); clear HB; have HB := n0_; clear n0_; (try clear hb); (try clear hb2); (try clear hk); (try clear hi)))
    go_ret
    exact ⟨by first | rfl | (simp [errW_none, errW_some] <;> rfl) | (simp [*, errW_none, errW_some] <;> rfl), by repeat (first | (with_reducible first | exact HB.out | apply below_alloc | apply pw_below_drewN | apply below_drew1) | exact HB.out)⟩

/-! ### laws_FnExactCanBeEmpty: function 5 -/
def laws_FnExactCanBeEmpty.f (k : Nat) (l0 : List (S47)) : Option (Bool) := (laws_szNodeS.f k l0 1048576).bind fun t252 => (if t252 < 0 then (some true) else ((laws_toNodeS.f k l0).bind fun t253 => ((spec_CanBeEmpty.f k t253).bind fun t256 => ((laws_toNodeS.f k l0).bind fun t257 => ((impl_CanBeEmpty.f k t257).bind fun t260 => (if (t260 != t256) = true then (some false) else ((laws_toNodeS.f k l0).bind fun t261 => ((laws_eqNodeS.f k t257 t261).bind fun t264 => (if t264 = true then (some true) else (some false))))))))))
theorem laws_FnExactCanBeEmpty.mono : ∀ a0 k, LeO (laws_FnExactCanBeEmpty.f k a0) (laws_FnExactCanBeEmpty.f (k + 1) a0) := by
  intro a0 k
  unfold laws_FnExactCanBeEmpty.f
  repeat' first
      | (with_reducible exact impl_CanBeEmpty.mono _ _)
      | (with_reducible exact laws_eqNodeS.mono _ _ _)
      | (with_reducible exact laws_szNodeS.mono _ _ _)
      | (with_reducible exact laws_toNodeS.mono _ _)
      | (with_reducible exact spec_CanBeEmpty.mono _ _)
      | (with_reducible exact LeO.refl _)
      | (with_reducible exact LeO.none _)
      | (with_reducible refine LeO.ite ?_ ?_)
      | (with_reducible refine LeO.bind ?_ (fun _ => ?_))
      | exact impl_CanBeEmpty.mono _ _
      | exact laws_eqNodeS.mono _ _ _
      | exact laws_szNodeS.mono _ _ _
      | exact laws_toNodeS.mono _ _
      | exact spec_CanBeEmpty.mono _ _
      | exact LeO.none _
      | refine LeO.ite ?_ ?_
      | refine LeO.bind ?_ (fun _ => ?_)
set_option maxHeartbeats 8000000 in
set_option maxRecDepth 100000 in
theorem laws_FnExactCanBeEmpty.calls (k : Nat) (A0 : Option Addr) (c0 : Nat) (l0 : List (S47)) (r : Bool) (w : World) (hr0 : Kd.C k47 w A0 l0.length l0) (hc0 : l0.length ≤ c0) (HT : Aside0 (r = true)) (h : laws_FnExactCanBeEmpty.f k l0 = some r) :
    Calls Try.prog 5 #[.slice A0 l0.length c0] w fun e w' => e = .returned (.bool r) ∧ Below w.heap.size w w' := by
  have HR0 := Aside0.mk hr0
  have HC0 := Aside0.mk hc0
  clear hr0 hc0
  have HB := Aside0.mk (Below.refl w.heap.size w)
  have H : ((laws_szNodeS.f k l0 1048576).bind fun t252 => (if t252 < 0 then (some true) else ((laws_toNodeS.f k l0).bind fun t253 => ((spec_CanBeEmpty.f k t253).bind fun t256 => ((laws_toNodeS.f k l0).bind fun t257 => ((impl_CanBeEmpty.f k t257).bind fun t260 => (if (t260 != t256) = true then (some false) else ((laws_toNodeS.f k l0).bind fun t261 => ((laws_eqNodeS.f k t257 t261).bind fun t264 => (if t264 = true then (some true) else (some false))))))))))) = some r := h
  clear h
  replace H := Option.bind_eq_some_iff.mp H
  obtain ⟨t252, A20, H⟩ := H
  replace H : (if t252 < 0 then (some true) else ((laws_toNodeS.f k l0).bind fun t253 => ((spec_CanBeEmpty.f k t253).bind fun t256 => ((laws_toNodeS.f k l0).bind fun t257 => ((impl_CanBeEmpty.f k t257).bind fun t260 => (if (t260 != t256) = true then (some false) else ((laws_toNodeS.f k l0).bind fun t261 => ((laws_eqNodeS.f k t257 t261).bind fun t264 => (if t264 = true then (some true) else (some false)))))))))) = some r := H
  have A2 := Aside0.mk A20
  clear A20
  by_cases c3 : t252 < 0
  · rw [if_pos c3] at H
    have c3b0 : decide (t252 < 0) = true := decide_eq_true c3
    clear c3
    obtain rfl := Option.some.inj H
    go_enter Try.func5, Try.ntmps5
    go_wp2_with (first | ((with_reducible refine gate_callee (f := 9) rfl ?_); refine goesL_ (some 9) rfl rfl Try.func9 (by kernel_rfl) rfl #[.slice A0 l0.length c0, .int .i64 1048576] rfl (by (try simp only [List.map_toArray, List.map_cons, List.map_nil]); first | done | rfl | (simp only [List.length_drop, List.length_take]; rfl)) ?_; (with_reducible refine (laws_szNodeS.calls k _ _ l0 1048576 t252 _ ?side1 ?side2 A2.out).mono ?_); (case side1 => repeat (first | exact HR0.out | (with_reducible refine Kd.C_alloc ?_ _) | (with_reducible refine Kd.C_drewN ?_ _) | (with_reducible refine Kd.C_drew ?_))); (case side2 => exact HC0.out); rintro e w4 ⟨rfl, hb⟩; refine ⟨_, rfl, ?_⟩; have n0_ := Aside0.mk (below_step (by repeat (first | (with_reducible first | exact HB.out | apply below_alloc | apply pw_below_drewN | apply below_drew1) | exact HB.out)) hb); clear HB; have HB := n0_; clear n0_; (try clear hb); (try clear hb2); (try clear hk); (try clear hi)))
    go_ret
    exact ⟨by first | rfl | (simp [errW_none, errW_some] <;> rfl) | (simp [*, errW_none, errW_some] <;> rfl), by repeat (first | (with_reducible first | exact HB.out | apply below_alloc | apply pw_below_drewN | apply below_drew1) | exact HB.out)⟩
  · rw [if_neg c3] at H
    have c3b0 : decide (t252 < 0) = false := decide_eq_false c3
    clear c3
    replace H := Option.bind_eq_some_iff.mp H
    obtain ⟨t253, A50, H⟩ := H
    replace H : ((spec_CanBeEmpty.f k t253).bind fun t256 => ((laws_toNodeS.f k l0).bind fun t257 => ((impl_CanBeEmpty.f k t257).bind fun t260 => (if (t260 != t256) = true then (some false) else ((laws_toNodeS.f k l0).bind fun t261 => ((laws_eqNodeS.f k t257 t261).bind fun t264 => (if t264 = true then (some true) else (some false)))))))) = some r := H
    have A5 := Aside0.mk A50
    clear A50
    replace H := Option.bind_eq_some_iff.mp H
    obtain ⟨t256, A60, H⟩ := H
    replace H : ((laws_toNodeS.f k l0).bind fun t257 => ((impl_CanBeEmpty.f k t257).bind fun t260 => (if (t260 != t256) = true then (some false) else ((laws_toNodeS.f k l0).bind fun t261 => ((laws_eqNodeS.f k t257 t261).bind fun t264 => (if t264 = true then (some true) else (some false))))))) = some r := H
    have A6 := Aside0.mk A60
    clear A60
    replace H := Option.bind_eq_some_iff.mp H
    obtain ⟨t257, A70, H⟩ := H
    replace H : ((impl_CanBeEmpty.f k t257).bind fun t260 => (if (t260 != t256) = true then (some false) else ((laws_toNodeS.f k l0).bind fun t261 => ((laws_eqNodeS.f k t257 t261).bind fun t264 => (if t264 = true then (some true) else (some false)))))) = some r := H
    have A7 := Aside0.mk A70
    clear A70
    replace H := Option.bind_eq_some_iff.mp H
    obtain ⟨t260, A80, H⟩ := H
    replace H : (if (t260 != t256) = true then (some false) else ((laws_toNodeS.f k l0).bind fun t261 => ((laws_eqNodeS.f k t257 t261).bind fun t264 => (if t264 = true then (some true) else (some false))))) = some r := H
    have A8 := Aside0.mk A80
    clear A80
    by_cases c9 : (t260 != t256) = true
    · rw [if_pos c9] at H
      have c9b0 : (t260 != t256) = true := c9
      (try (have c9b1 : decide (t260 = t256) = false := by simpa using c9))
      (try (have c9b2 : (t260 == t256) = false := by simpa using c9))
      (try (have c9b3 : ¬ (t260 = t256) := by simpa using c9))
      clear c9
      obtain rfl := Option.some.inj H
      exact absurd HT.out (by decide)
    · rw [if_neg c9] at H
      have c9b0 : (t260 != t256) = false := by simpa using c9
      (try (have c9b1 : decide (t260 = t256) = true := by simpa using c9))
      (try (have c9b2 : (t260 == t256) = true := by simpa using c9))
      clear c9
      replace H := Option.bind_eq_some_iff.mp H
      obtain ⟨t261, A100, H⟩ := H
      replace H : ((laws_eqNodeS.f k t257 t261).bind fun t264 => (if t264 = true then (some true) else (some false))) = some r := H
      have A10 := Aside0.mk A100
      clear A100
      replace H := Option.bind_eq_some_iff.mp H
      obtain ⟨t264, A110, H⟩ := H
      replace H : (if t264 = true then (some true) else (some false)) = some r := H
      have A11 := Aside0.mk A110
      clear A110
      by_cases c12 : t264 = true
      · subst c12
        have H1 : (some true) = some r := by rw [if_pos rfl] at H; exact H
        clear H
        have H := H1
        clear H1
        obtain rfl := Option.some.inj H
        go_enter Try.func5, Try.ntmps5
        go_wp2_with (first | ((with_reducible refine gate_callee (f := 9) rfl ?_); refine goesL_ (some 9) rfl rfl Try.func9 (by kernel_rfl) rfl #[.slice A0 l0.length c0, .int .i64 1048576] rfl (by (try simp only [List.map_toArray, List.map_cons, List.map_nil]); first | done | rfl | (simp only [List.length_drop, List.length_take]; rfl)) ?_; (with_reducible refine (laws_szNodeS.calls k _ _ l0 1048576 t252 _ ?side1 ?side2 A2.out).mono ?_); (case side1 => repeat (first | exact HR0.out | (with_reducible refine Kd.C_alloc ?_ _) | (with_reducible refine Kd.C_drewN ?_ _) | (with_reducible refine Kd.C_drew ?_))); (case side2 => exact HC0.out); rintro e w13 ⟨rfl, hb⟩; refine ⟨_, rfl, ?_⟩; have n0_ := Aside0.mk (below_step (by repeat (first | (with_reducible first | exact HB.out | apply below_alloc | apply pw_below_drewN | apply below_drew1) | exact HB.out)) hb); clear HB; have HB := n0_; clear n0_; (try clear hb); (try clear hb2); (try clear hk); (try clear hi)) | ((with_reducible refine gate_callee (f := 11) rfl ?_); refine goesL_ (some 13) rfl rfl Try.func11 (by kernel_rfl) rfl #[.slice A0 l0.length c0] rfl (by (try simp only [List.map_toArray, List.map_cons, List.map_nil]); first | done | rfl | (simp only [List.length_drop, List.length_take]; rfl)) ?_; (with_reducible refine (laws_toNodeS.calls k _ _ l0 t253 _ ?side1 ?side2 A5.out).mono ?_); (case side1 => repeat (first | exact (Kd.C_below HR0.out HB.out) | (with_reducible refine Kd.C_alloc ?_ _) | (with_reducible refine Kd.C_drewN ?_ _) | (with_reducible refine Kd.C_drew ?_))); (case side2 => exact HC0.out); rintro e w14 ⟨v254, rfl, ho0, hb⟩; refine ⟨_, rfl, ?_⟩; have n0_ := Aside0.mk (Kd.R_lower ho0 (below_size (by repeat (first | (with_reducible first | exact HB.out | apply below_alloc | apply pw_below_drewN | apply below_drew1) | exact HB.out)))); have n1_ := Aside0.mk (below_step (by repeat (first | (with_reducible first | exact HB.out | apply below_alloc | apply pw_below_drewN | apply below_drew1) | exact HB.out)) hb); clear HB; have HO255 := n0_; have HB := n1_; clear n0_ n1_; (try clear hb); (try clear hb2); (try clear hk); (try clear hi); (try clear ho0); obtain ⟨Ao15, co15, eo15⟩ := Kd.R_slice HO255.out; subst eo15) | ((with_reducible refine gate_callee (f := 16) rfl ?_); refine goesL_ (some 14) rfl rfl Try.func16 (by kernel_rfl) rfl #[.slice Ao15 t253.length co15] rfl (by (try simp only [List.map_toArray, List.map_cons, List.map_nil]); first | done | rfl | (simp only [List.length_drop, List.length_take]; rfl)) ?_; (with_reducible refine (spec_CanBeEmpty.calls k _ _ t253 t256 _ ?side1 ?side2 A6.out).mono ?_); (case side1 => repeat (first | exact (Kd.R_reads' HO255.out).2.2 | (with_reducible refine Kd.C_alloc ?_ _) | (with_reducible refine Kd.C_drewN ?_ _) | (with_reducible refine Kd.C_drew ?_))); (case side2 => exact (Kd.R_reads' HO255.out).2.1); rintro e w16 ⟨rfl, hb⟩; refine ⟨_, rfl, ?_⟩; have n0_ := Aside0.mk (Kd.R_below (by (with_reducible repeat (first | apply Kd.R_alloc | apply Kd.R_drewN | apply Kd.R_drew)); exact HO255.out) hb); have n1_ := Aside0.mk (below_step (by repeat (first | (with_reducible first | exact HB.out | apply below_alloc | apply pw_below_drewN | apply below_drew1) | exact HB.out)) hb); clear HO255; clear HB; have HO255 := n0_; have HB := n1_; clear n0_ n1_; (try clear hb); (try clear hb2); (try clear hk); (try clear hi)) | ((with_reducible refine gate_callee (f := 11) rfl ?_); refine goesL_ (some 16) rfl rfl Try.func11 (by kernel_rfl) rfl #[.slice A0 l0.length c0] rfl (by (try simp only [List.map_toArray, List.map_cons, List.map_nil]); first | done | rfl | (simp only [List.length_drop, List.length_take]; rfl)) ?_; (with_reducible refine (laws_toNodeS.calls k _ _ l0 t257 _ ?side1 ?side2 A7.out).mono ?_); (case side1 => repeat (first | exact (Kd.C_below HR0.out HB.out) | (with_reducible refine Kd.C_alloc ?_ _) | (with_reducible refine Kd.C_drewN ?_ _) | (with_reducible refine Kd.C_drew ?_))); (case side2 => exact HC0.out); rintro e w17 ⟨v258, rfl, ho0, hb⟩; refine ⟨_, rfl, ?_⟩; have n0_ := Aside0.mk (Kd.R_elder' (by (with_reducible repeat (first | apply Kd.R_alloc | apply Kd.R_drewN | apply Kd.R_drew)); exact HO255.out) (Kd.R_base ho0) hb); have n1_ := Aside0.mk (Kd.R_lower (Kd.R_new' ho0 (Kd.R_lt (by (with_reducible repeat (first | apply Kd.R_alloc | apply Kd.R_drewN | apply Kd.R_drew)); exact HO255.out))) (below_size (by repeat (first | (with_reducible first | exact HB.out | apply below_alloc | apply pw_below_drewN | apply below_drew1) | exact HB.out)))); have n2_ := Aside0.mk (below_step (by repeat (first | (with_reducible first | exact HB.out | apply below_alloc | apply pw_below_drewN | apply below_drew1) | exact HB.out)) hb); clear HO255; clear HB; have HO255 := n0_; have HO259 := n1_; have HB := n2_; clear n0_ n1_ n2_; (try clear hb); (try clear hb2); (try clear hk); (try clear hi); (try clear ho0); obtain ⟨Ao18, co18, eo18⟩ := Kd.R_slice HO259.out; subst eo18) | ((with_reducible refine gate_callee (f := 17) rfl ?_); refine goesL_ (some 18) rfl rfl Try.func17 (by kernel_rfl) rfl #[.slice Ao18 t257.length co18] rfl (by (try simp only [List.map_toArray, List.map_cons, List.map_nil]); first | done | rfl | (simp only [List.length_drop, List.length_take]; rfl)) ?_; (with_reducible refine (impl_CanBeEmpty.calls k _ _ t257 t260 _ ?side1 ?side2 A8.out).mono ?_); (case side1 => repeat (first | exact (Kd.R_reads' HO259.out).2.2 | (with_reducible refine Kd.C_alloc ?_ _) | (with_reducible refine Kd.C_drewN ?_ _) | (with_reducible refine Kd.C_drew ?_))); (case side2 => exact (Kd.R_reads' HO259.out).2.1); rintro e w19 ⟨rfl, hb⟩; refine ⟨_, rfl, ?_⟩; have n0_ := Aside0.mk (Kd.R_below (by (with_reducible repeat (first | apply Kd.R_alloc | apply Kd.R_drewN | apply Kd.R_drew)); exact HO255.out) hb); have n1_ := Aside0.mk (Kd.R_below (by (with_reducible repeat (first | apply Kd.R_alloc | apply Kd.R_drewN | apply Kd.R_drew)); exact HO259.out) hb); have n2_ := Aside0.mk (below_step (by repeat (first | (with_reducible first | exact HB.out | apply below_alloc | apply pw_below_drewN | apply below_drew1) | exact HB.out)) hb); clear HO255; clear HO259; clear HB; have HO255 := n0_; have HO259 := n1_; have HB := n2_; clear n0_ n1_ n2_; (try clear hb); (try clear hb2); (try clear hk); (try clear hi)) | ((with_reducible refine gate_callee (f := 11) rfl ?_); refine goesL_ (some 24) rfl rfl Try.func11 (by kernel_rfl) rfl #[.slice A0 l0.length c0] rfl (by (try simp only [List.map_toArray, List.map_cons, List.map_nil]); first | done | rfl | (simp only [List.length_drop, List.length_take]; rfl)) ?_; (with_reducible refine (laws_toNodeS.calls k _ _ l0 t261 _ ?side1 ?side2 A10.out).mono ?_); (case side1 => repeat (first | exact (Kd.C_below HR0.out HB.out) | (with_reducible refine Kd.C_alloc ?_ _) | (with_reducible refine Kd.C_drewN ?_ _) | (with_reducible refine Kd.C_drew ?_))); (case side2 => exact HC0.out); rintro e w20 ⟨v262, rfl, ho0, hb⟩; refine ⟨_, rfl, ?_⟩; have n0_ := Aside0.mk (Kd.R_elder' (by (with_reducible repeat (first | apply Kd.R_alloc | apply Kd.R_drewN | apply Kd.R_drew)); exact HO255.out) (Kd.R_base ho0) hb); have n1_ := Aside0.mk (Kd.R_elder' (by (with_reducible repeat (first | apply Kd.R_alloc | apply Kd.R_drewN | apply Kd.R_drew)); exact HO259.out) (Kd.R_base ho0) hb); have n2_ := Aside0.mk (Kd.R_lower (Kd.R_new' (Kd.R_new' ho0 (Kd.R_lt (by (with_reducible repeat (first | apply Kd.R_alloc | apply Kd.R_drewN | apply Kd.R_drew)); exact HO255.out))) (Kd.R_lt (by (with_reducible repeat (first | apply Kd.R_alloc | apply Kd.R_drewN | apply Kd.R_drew)); exact HO259.out))) (below_size (by repeat (first | (with_reducible first | exact HB.out | apply below_alloc | apply pw_below_drewN | apply below_drew1) | exact HB.out)))); have n3_ := Aside0.mk (below_step (by repeat (first | (with_reducible first | exact HB.out | apply below_alloc | apply pw_below_drewN | apply below_drew1) | exact HB.out)) hb); clear HO255; clear HO259; clear HB; have HO255 := n0_; have HO259 := n1_; have HO263 := n2_; have HB := n3_; clear n0_ n1_ n2_ n3_; (try clear hb); (try clear hb2); (try clear hk); (try clear hi); (try clear ho0); obtain ⟨Ao21, co21, eo21⟩ := Kd.R_slice HO263.out; subst eo21) | ((with_reducible refine gate_callee (f := 13) rfl ?_); refine goesL_ (some 25) rfl rfl Try.func13 (by kernel_rfl) rfl #[.slice Ao18 t257.length co18, .slice Ao21 t261.length co21] rfl (by (try simp only [List.map_toArray, List.map_cons, List.map_nil]); first | done | rfl | (simp only [List.length_drop, List.length_take]; rfl)) ?_; (with_reducible refine (laws_eqNodeS.calls k _ _ t257 _ _ t261 true _ ?side1 ?side2 ?side3 ?side4 A11.out).mono ?_); (case side1 => repeat (first | exact (Kd.R_reads' HO259.out).2.2 | (with_reducible refine Kd.C_alloc ?_ _) | (with_reducible refine Kd.C_drewN ?_ _) | (with_reducible refine Kd.C_drew ?_))); (case side2 => exact (Kd.R_reads' HO259.out).2.1); (case side3 => repeat (first | exact (Kd.R_reads' HO263.out).2.2 | (with_reducible refine Kd.C_alloc ?_ _) | (with_reducible refine Kd.C_drewN ?_ _) | (with_reducible refine Kd.C_drew ?_))); (case side4 => exact (Kd.R_reads' HO263.out).2.1); rintro e w22 ⟨rfl, hb⟩; refine ⟨_, rfl, ?_⟩; have n0_ := Aside0.mk (Kd.R_below (by (with_reducible repeat (first | apply Kd.R_alloc | apply Kd.R_drewN | apply Kd.R_drew)); exact HO255.out) hb); have n1_ := Aside0.mk (Kd.R_below (by (with_reducible repeat (first | apply Kd.R_alloc | apply Kd.R_drewN | apply Kd.R_drew)); exact HO259.out) hb); have n2_ := Aside0.mk (Kd.R_below (by (with_reducible repeat (first | apply Kd.R_alloc | apply Kd.R_drewN | apply Kd.R_drew)); exact HO263.out) hb); have n3_ := Aside0.mk (below_step (by repeat (first | (with_reducible first | exact HB.out | apply below_alloc | apply pw_below_drewN | apply below_drew1) | exact HB.out)) hb); clear HO255; clear HO259; clear HO263; clear HB; have HO255 := n0_; have HO259 := n1_; have HO263 := n2_; have HB := n3_; clear n0_ n1_ n2_ n3_; (try clear hb); (try clear hb2); (try clear hk); (try clear hi)))
        go_ret
        exact ⟨by first | rfl | (simp [errW_none, errW_some] <;> rfl) | (simp [*, errW_none, errW_some] <;> rfl), by repeat (first | (with_reducible first | exact HB.out | apply below_alloc | apply pw_below_drewN | apply below_drew1) | exact HB.out)⟩
      · replace c12 := Bool.eq_false_iff.mpr c12
        subst c12
        have H1 : (some false) = some r := by rw [if_neg (show ¬ (false = true) by decide)] at H; exact H
        clear H
        have H := H1
        clear H1
        obtain rfl := Option.some.inj H
        exact absurd HT.out (by decide)

/-- THE ONE PURE STATEMENT of laws_FnExactCanBeEmpty. -/
def laws_FnExactCanBeEmpty.Pure : Prop := ∀ (l0 : List (S47)), l0.length ≤ maxLen → (∀ x ∈ l0, (Lit.int .i64 x.f0).wf = true ∧ (Lit.int .i64 x.f1).wf = true ∧ x.f2.size ≤ maxLen ∧ (Lit.int .i64 x.f3).wf = true ∧ (Lit.int .i64 x.f4).wf = true) → ∃ k, laws_FnExactCanBeEmpty.f k l0 = some true
theorem laws_FnExactCanBeEmpty.walk (P : laws_FnExactCanBeEmpty.Pure) (A0 : Option Addr) (c0 : Nat) (l0 : List (S47)) (w : World) (hr0 : Kd.C k47 w A0 l0.length l0) (hc0 : l0.length ≤ c0) (y0 : l0.length ≤ maxLen) (y1 : (∀ x ∈ l0, (Lit.int .i64 x.f0).wf = true ∧ (Lit.int .i64 x.f1).wf = true ∧ x.f2.size ≤ maxLen ∧ (Lit.int .i64 x.f3).wf = true ∧ (Lit.int .i64 x.f4).wf = true)) :
    Calls Try.prog 5 #[.slice A0 l0.length c0] w fun e w' => e = .returned (.bool true) ∧ Below w.heap.size w w' := by
  obtain ⟨k, h⟩ := P l0 y0 y1
  refine (laws_FnExactCanBeEmpty.calls k _ _ l0 true w hr0 hc0 ⟨rfl⟩ h).mono ?_
  rintro e w' ⟨rfl, hd⟩
  exact ⟨rfl, hd⟩

end Go.Proofs.Ytaknnpphhbgfiaa.PFnExactCanBeEmpty
