/- Functions of the given program as plain Lean functions, each with a proof that the Go code answers just so; made by a program of this session out of the translation. Conditions: those that each theorem names. -/
import Derived.Test.YtljpfppkpjodiaaPFnExactIndexTruex0
namespace Go.Proofs.Ytljpfppkpjodiaa.PFnExactIndexTrue
open Go.RowKit Go.Proofs.YtljpfppkpjodiaaW.PrintWords Go.Proofs.YtljpfppkpjodiaaW.PrintLast Go.Proofs.YtljpfppkpjodiaaW.PrintMore
attribute [local go_sem] max2_int min2_int max_two min_two max_three min_three max_four min_four   -- for this text's walks alone
set_option linter.unusedVariables false
set_option linter.unusedSimpArgs false

/-! ### spec_l4Same: function 111 -/
mutual
def spec_l4Same.j0 : Nat → List (S27) → List (S27) → Bool → Option (Bool)
  | 0, _, _, _ => none
  | k + 1, x0, x1, x49 => if x49 = true then (some false) else (spec_l4Same.l0 k x0 x1 0)
def spec_l4Same.l0 : Nat → List (S27) → List (S27) → Int → Option (Bool)
  | 0, _, _, _ => none
  | k + 1, x0, x1, x5 => if 0 < (x0.length : Int) then (if x5 < (((rd_T27 x0 0).f1).length : Int) then (if 0 ≤ x5 then (if 0 < (x1.length : Int) then (if x5 < (((rd_T27 x1 0).f1).length : Int) then (if (rd ((rd_T27 x0 0).f1) x5) = (rd ((rd_T27 x1 0).f1) x5) then (spec_l4Same.l0 k x0 x1 (wrap64 (x5 + 1))) else (some false)) else (none)) else (none)) else (none)) else (some true)) else (none)
end
def spec_l4Same.f (k : Nat) (l0 : List (S27)) (l1 : List (S27)) : Option (Bool) := if 0 < (l0.length : Int) then (if 0 < (l1.length : Int) then (if ((rd_T27 l0 0).f0) = ((rd_T27 l1 0).f0) then (if ((rd_T27 l0 0).f2) = ((rd_T27 l1 0).f2) then (if ((rd_T27 l0 0).f3) = ((rd_T27 l1 0).f3) then (spec_l4Same.j0 k l0 l1 ((((rd_T27 l0 0).f1).length : Int) != (((rd_T27 l1 0).f1).length : Int))) else (spec_l4Same.j0 k l0 l1 true)) else (spec_l4Same.j0 k l0 l1 true)) else (spec_l4Same.j0 k l0 l1 true)) else (none)) else (none)
theorem spec_l4Same.mono_l : ∀ k, (∀ y0 y1 y2, LeO (spec_l4Same.j0 k y0 y1 y2) (spec_l4Same.j0 (k + 1) y0 y1 y2)) ∧ (∀ y0 y1 y2, LeO (spec_l4Same.l0 k y0 y1 y2) (spec_l4Same.l0 (k + 1) y0 y1 y2))
  | 0 => ⟨fun _ _ _ r h => by simp [spec_l4Same.j0] at h, fun _ _ _ r h => by simp [spec_l4Same.l0] at h⟩
  | k + 1 => by
    obtain ⟨ih0, ih1⟩ := spec_l4Same.mono_l k
    refine ⟨?_, ?_⟩
    · intro y0 y1 y2
      unfold spec_l4Same.j0
      repeat' first
      | (with_reducible exact ih0 _ _ _)
      | (with_reducible exact ih1 _ _ _)
      | (with_reducible exact LeO.refl _)
      | (with_reducible exact LeO.none _)
      | (with_reducible refine LeO.ite ?_ ?_)
      | (with_reducible refine LeO.bind ?_ (fun _ => ?_))
      | exact ih0 _ _ _
      | exact ih1 _ _ _
      | exact LeO.none _
      | refine LeO.ite ?_ ?_
      | refine LeO.bind ?_ (fun _ => ?_)
    · intro y0 y1 y2
      unfold spec_l4Same.l0
      repeat' first
      | (with_reducible exact ih0 _ _ _)
      | (with_reducible exact ih1 _ _ _)
      | (with_reducible exact LeO.refl _)
      | (with_reducible exact LeO.none _)
      | (with_reducible refine LeO.ite ?_ ?_)
      | (with_reducible refine LeO.bind ?_ (fun _ => ?_))
      | exact ih0 _ _ _
      | exact ih1 _ _ _
      | exact LeO.none _
      | refine LeO.ite ?_ ?_
      | refine LeO.bind ?_ (fun _ => ?_)
theorem spec_l4Same.mono : ∀ a0 a1 k, LeO (spec_l4Same.f k a0 a1) (spec_l4Same.f (k + 1) a0 a1) := by
  intro a0 a1 k
  obtain ⟨ih0, ih1⟩ := spec_l4Same.mono_l k
  unfold spec_l4Same.f
  repeat' first
      | (with_reducible exact ih0 _ _ _)
      | (with_reducible exact ih1 _ _ _)
      | (with_reducible exact LeO.refl _)
      | (with_reducible exact LeO.none _)
      | (with_reducible refine LeO.ite ?_ ?_)
      | (with_reducible refine LeO.bind ?_ (fun _ => ?_))
      | exact ih0 _ _ _
      | exact ih1 _ _ _
      | exact LeO.none _
      | refine LeO.ite ?_ ?_
      | refine LeO.bind ?_ (fun _ => ?_)
set_option maxHeartbeats 8000000 in
set_option maxRecDepth 100000 in
theorem spec_l4Same.calls (k : Nat) (A0 : Option Addr) (c0 : Nat) (l0 : List (S27)) (A1 : Option Addr) (c1 : Nat) (l1 : List (S27)) (r : Bool) (w : World) (hr0 : Kd.C k27 w A0 l0.length l0) (hc0 : l0.length ≤ c0) (hr1 : Kd.C k27 w A1 l1.length l1) (hc1 : l1.length ≤ c1) (h : spec_l4Same.f k l0 l1 = some r) :
    Calls Try.prog 111 #[.pointer A0, .pointer A1] w fun e w' => e = .returned (.bool r) ∧ Drawn0 w w' := by
  have HR0 := Aside0.mk hr0
  have HC0 := Aside0.mk hc0
  clear hr0 hc0
  have HR1 := Aside0.mk hr1
  have HC1 := Aside0.mk hc1
  clear hr1 hc1
  have H : (if 0 < (l0.length : Int) then (if 0 < (l1.length : Int) then (if ((rd_T27 l0 0).f0) = ((rd_T27 l1 0).f0) then (if ((rd_T27 l0 0).f2) = ((rd_T27 l1 0).f2) then (if ((rd_T27 l0 0).f3) = ((rd_T27 l1 0).f3) then (spec_l4Same.j0 k l0 l1 ((((rd_T27 l0 0).f1).length : Int) != (((rd_T27 l1 0).f1).length : Int))) else (spec_l4Same.j0 k l0 l1 true)) else (spec_l4Same.j0 k l0 l1 true)) else (spec_l4Same.j0 k l0 l1 true)) else (none)) else (none)) = some r := h
  clear h
  have HC3 := Aside0.mk H
  clear H
  go_enter Try.func111, Try.ntmps111
  go_upto_region 1 with (fail)
  repeat (go_quiet (fail); go_upto_region 1 with (fail))
  go_cut [49] (fun v49 wc => ∃ (kq : Nat) (x49_2 : Bool), v49 = .bool x49_2 ∧ Aside0 (spec_l4Same.j0 kq l0 l1 x49_2 = some r) ∧ Aside0 (kq ≤ k) ∧ Drawn0 w wc)
  case first =>
    have H := HC3.out
    clear HC3
    by_cases c4 : 0 < (l0.length : Int)
    · rw [if_pos c4] at H
      have c4b0 : decide (0 < (l0.length : Int)) = true := decide_eq_true c4
      have c4b1 : decide (0 < l0.length) = true := decide_eq_true (by omega)
      clear c4
      (first | rw [c4b0] | (simp only [i64_w, i32_w]; rw [c4b0]) | skip)
      by_cases c5 : 0 < (l1.length : Int)
      · rw [if_pos c5] at H
        have c5b0 : decide (0 < (l1.length : Int)) = true := decide_eq_true c5
        have c5b1 : decide (0 < l1.length) = true := decide_eq_true (by omega)
        clear c5
        by_cases c6 : ((rd_T27 l0 0).f0) = ((rd_T27 l1 0).f0)
        · rw [if_pos c6] at H
          have c6b0 : (((rd_T27 l0 0).f0) == ((rd_T27 l1 0).f0)) = true := beq_iff_eq.mpr c6
          have c6b1 : (((rd_T27 l0 0).f0) != ((rd_T27 l1 0).f0)) = false := bne_eq_false_iff_eq.mpr c6
          clear c6
          by_cases c7 : ((rd_T27 l0 0).f2) = ((rd_T27 l1 0).f2)
          · rw [if_pos c7] at H
            have c7b0 : (((rd_T27 l0 0).f2) == ((rd_T27 l1 0).f2)) = true := beq_iff_eq.mpr c7
            have c7b1 : (((rd_T27 l0 0).f2) != ((rd_T27 l1 0).f2)) = false := bne_eq_false_iff_eq.mpr c7
            clear c7
            by_cases c8 : ((rd_T27 l0 0).f3) = ((rd_T27 l1 0).f3)
            · rw [if_pos c8] at H
              have c8b0 : (((rd_T27 l0 0).f3) == ((rd_T27 l1 0).f3)) = true := beq_iff_eq.mpr c8
              have c8b1 : (((rd_T27 l0 0).f3) != ((rd_T27 l1 0).f3)) = false := bne_eq_false_iff_eq.mpr c8
              clear c8
              have H' := Aside0.mk H
              clear H
              have p161 : 0 ≤ (0 : Int) := (by omega)
              have q161 : 0 < (l0.length : Int) := of_decide_eq_true (by first | (with_reducible assumption) | assumption)
              obtain ⟨ad161, A161_1, c161_1, e161, hx161_0, hx161_1, hx161_2, hx161_3, hl161_1, hi161_1⟩ := at_T27 HR0.out 0 p161 q161
              cases e161
              have qi161 : (0 < l0.length) = True := eq_true (by omega)
              (try rw [show ((0 : Int)).toNat = 0 from rfl] at hx161_0)
              (try rw [show 0 * 4 = 0 from rfl] at hx161_0)
              (try rw [Addr.add_zero'] at hx161_0)
              (try rw [show ((0 : Int)).toNat = 0 from rfl] at hx161_1)
              (try rw [show 0 * 4 = 0 from rfl] at hx161_1)
              (try rw [Addr.add_zero'] at hx161_1)
              (try rw [show ((0 : Int)).toNat = 0 from rfl] at hx161_2)
              (try rw [show 0 * 4 = 0 from rfl] at hx161_2)
              (try rw [Addr.add_zero'] at hx161_2)
              (try rw [show ((0 : Int)).toNat = 0 from rfl] at hx161_3)
              (try rw [show 0 * 4 = 0 from rfl] at hx161_3)
              (try rw [Addr.add_zero'] at hx161_3)
              have HR161_1 := Aside0.mk hi161_1
              have HC161_1 := Aside0.mk hl161_1
              clear hi161_1 hl161_1
              replace p161 := eq_true p161
              replace q161 := eq_true q161
              have p162 : 0 ≤ (0 : Int) := (by omega)
              have q162 : 0 < (l1.length : Int) := of_decide_eq_true (by first | (with_reducible assumption) | assumption)
              obtain ⟨ad162, A162_1, c162_1, e162, hx162_0, hx162_1, hx162_2, hx162_3, hl162_1, hi162_1⟩ := at_T27 HR1.out 0 p162 q162
              cases e162
              have qi162 : (0 < l1.length) = True := eq_true (by omega)
              (try rw [show ((0 : Int)).toNat = 0 from rfl] at hx162_0)
              (try rw [show 0 * 4 = 0 from rfl] at hx162_0)
              (try rw [Addr.add_zero'] at hx162_0)
              (try rw [show ((0 : Int)).toNat = 0 from rfl] at hx162_1)
              (try rw [show 0 * 4 = 0 from rfl] at hx162_1)
              (try rw [Addr.add_zero'] at hx162_1)
              (try rw [show ((0 : Int)).toNat = 0 from rfl] at hx162_2)
              (try rw [show 0 * 4 = 0 from rfl] at hx162_2)
              (try rw [Addr.add_zero'] at hx162_2)
              (try rw [show ((0 : Int)).toNat = 0 from rfl] at hx162_3)
              (try rw [show 0 * 4 = 0 from rfl] at hx162_3)
              (try rw [Addr.add_zero'] at hx162_3)
              have HR162_1 := Aside0.mk hi162_1
              have HC162_1 := Aside0.mk hl162_1
              clear hi162_1 hl162_1
              replace p162 := eq_true p162
              replace q162 := eq_true q162
              have p163 : 0 ≤ (0 : Int) := (by omega)
              have q163 : 0 < (l0.length : Int) := of_decide_eq_true (by first | (with_reducible assumption) | assumption)
              obtain ⟨ad163, A163_1, c163_1, e163, hx163_0, hx163_1, hx163_2, hx163_3, hl163_1, hi163_1⟩ := at_T27 HR0.out 0 p163 q163
              obtain rfl : ad161 = ad163 := (by injection e163)
              have qi163 : (0 < l0.length) = True := eq_true (by omega)
              (try rw [show ((0 : Int)).toNat = 0 from rfl] at hx163_0)
              (try rw [show 0 * 4 = 0 from rfl] at hx163_0)
              (try rw [Addr.add_zero'] at hx163_0)
              (try rw [show ((0 : Int)).toNat = 0 from rfl] at hx163_1)
              (try rw [show 0 * 4 = 0 from rfl] at hx163_1)
              (try rw [Addr.add_zero'] at hx163_1)
              (try rw [show ((0 : Int)).toNat = 0 from rfl] at hx163_2)
              (try rw [show 0 * 4 = 0 from rfl] at hx163_2)
              (try rw [Addr.add_zero'] at hx163_2)
              (try rw [show ((0 : Int)).toNat = 0 from rfl] at hx163_3)
              (try rw [show 0 * 4 = 0 from rfl] at hx163_3)
              (try rw [Addr.add_zero'] at hx163_3)
              have HR163_1 := Aside0.mk hi163_1
              have HC163_1 := Aside0.mk hl163_1
              clear hi163_1 hl163_1
              replace p163 := eq_true p163
              replace q163 := eq_true q163
              have ea_ := Option.some.inj (hx161_1.symm.trans hx163_1)
              injection ea_ with ea_ en_ ec_
              subst ea_
              subst ec_
              clear en_
              have p164 : 0 ≤ (0 : Int) := (by omega)
              have q164 : 0 < (l1.length : Int) := of_decide_eq_true (by first | (with_reducible assumption) | assumption)
              obtain ⟨ad164, A164_1, c164_1, e164, hx164_0, hx164_1, hx164_2, hx164_3, hl164_1, hi164_1⟩ := at_T27 HR1.out 0 p164 q164
              obtain rfl : ad162 = ad164 := (by injection e164)
              have qi164 : (0 < l1.length) = True := eq_true (by omega)
              (try rw [show ((0 : Int)).toNat = 0 from rfl] at hx164_0)
              (try rw [show 0 * 4 = 0 from rfl] at hx164_0)
              (try rw [Addr.add_zero'] at hx164_0)
              (try rw [show ((0 : Int)).toNat = 0 from rfl] at hx164_1)
              (try rw [show 0 * 4 = 0 from rfl] at hx164_1)
              (try rw [Addr.add_zero'] at hx164_1)
              (try rw [show ((0 : Int)).toNat = 0 from rfl] at hx164_2)
              (try rw [show 0 * 4 = 0 from rfl] at hx164_2)
              (try rw [Addr.add_zero'] at hx164_2)
              (try rw [show ((0 : Int)).toNat = 0 from rfl] at hx164_3)
              (try rw [show 0 * 4 = 0 from rfl] at hx164_3)
              (try rw [Addr.add_zero'] at hx164_3)
              have HR164_1 := Aside0.mk hi164_1
              have HC164_1 := Aside0.mk hl164_1
              clear hi164_1 hl164_1
              replace p164 := eq_true p164
              replace q164 := eq_true q164
              have ea_ := Option.some.inj (hx162_1.symm.trans hx164_1)
              injection ea_ with ea_ en_ ec_
              subst ea_
              subst ec_
              clear en_
              have p165 : 0 ≤ (0 : Int) := (by omega)
              have q165 : 0 < (l0.length : Int) := of_decide_eq_true (by first | (with_reducible assumption) | assumption)
              obtain ⟨ad165, A165_1, c165_1, e165, hx165_0, hx165_1, hx165_2, hx165_3, hl165_1, hi165_1⟩ := at_T27 HR0.out 0 p165 q165
              obtain rfl : ad161 = ad165 := (by injection e165)
              have qi165 : (0 < l0.length) = True := eq_true (by omega)
              (try rw [show ((0 : Int)).toNat = 0 from rfl] at hx165_0)
              (try rw [show 0 * 4 = 0 from rfl] at hx165_0)
              (try rw [Addr.add_zero'] at hx165_0)
              (try rw [show ((0 : Int)).toNat = 0 from rfl] at hx165_1)
              (try rw [show 0 * 4 = 0 from rfl] at hx165_1)
              (try rw [Addr.add_zero'] at hx165_1)
              (try rw [show ((0 : Int)).toNat = 0 from rfl] at hx165_2)
              (try rw [show 0 * 4 = 0 from rfl] at hx165_2)
              (try rw [Addr.add_zero'] at hx165_2)
              (try rw [show ((0 : Int)).toNat = 0 from rfl] at hx165_3)
              (try rw [show 0 * 4 = 0 from rfl] at hx165_3)
              (try rw [Addr.add_zero'] at hx165_3)
              have HR165_1 := Aside0.mk hi165_1
              have HC165_1 := Aside0.mk hl165_1
              clear hi165_1 hl165_1
              replace p165 := eq_true p165
              replace q165 := eq_true q165
              have ea_ := Option.some.inj (hx161_1.symm.trans hx165_1)
              injection ea_ with ea_ en_ ec_
              subst ea_
              subst ec_
              clear en_
              have p166 : 0 ≤ (0 : Int) := (by omega)
              have q166 : 0 < (l1.length : Int) := of_decide_eq_true (by first | (with_reducible assumption) | assumption)
              obtain ⟨ad166, A166_1, c166_1, e166, hx166_0, hx166_1, hx166_2, hx166_3, hl166_1, hi166_1⟩ := at_T27 HR1.out 0 p166 q166
              obtain rfl : ad162 = ad166 := (by injection e166)
              have qi166 : (0 < l1.length) = True := eq_true (by omega)
              (try rw [show ((0 : Int)).toNat = 0 from rfl] at hx166_0)
              (try rw [show 0 * 4 = 0 from rfl] at hx166_0)
              (try rw [Addr.add_zero'] at hx166_0)
              (try rw [show ((0 : Int)).toNat = 0 from rfl] at hx166_1)
              (try rw [show 0 * 4 = 0 from rfl] at hx166_1)
              (try rw [Addr.add_zero'] at hx166_1)
              (try rw [show ((0 : Int)).toNat = 0 from rfl] at hx166_2)
              (try rw [show 0 * 4 = 0 from rfl] at hx166_2)
              (try rw [Addr.add_zero'] at hx166_2)
              (try rw [show ((0 : Int)).toNat = 0 from rfl] at hx166_3)
              (try rw [show 0 * 4 = 0 from rfl] at hx166_3)
              (try rw [Addr.add_zero'] at hx166_3)
              have HR166_1 := Aside0.mk hi166_1
              have HC166_1 := Aside0.mk hl166_1
              clear hi166_1 hl166_1
              replace p166 := eq_true p166
              replace q166 := eq_true q166
              have ea_ := Option.some.inj (hx162_1.symm.trans hx166_1)
              injection ea_ with ea_ en_ ec_
              subst ea_
              subst ec_
              clear en_
              have p167 : 0 ≤ (0 : Int) := (by omega)
              have q167 : 0 < (l0.length : Int) := of_decide_eq_true (by first | (with_reducible assumption) | assumption)
              obtain ⟨ad167, A167_1, c167_1, e167, hx167_0, hx167_1, hx167_2, hx167_3, hl167_1, hi167_1⟩ := at_T27 HR0.out 0 p167 q167
              obtain rfl : ad161 = ad167 := (by injection e167)
              have qi167 : (0 < l0.length) = True := eq_true (by omega)
              (try rw [show ((0 : Int)).toNat = 0 from rfl] at hx167_0)
              (try rw [show 0 * 4 = 0 from rfl] at hx167_0)
              (try rw [Addr.add_zero'] at hx167_0)
              (try rw [show ((0 : Int)).toNat = 0 from rfl] at hx167_1)
              (try rw [show 0 * 4 = 0 from rfl] at hx167_1)
              (try rw [Addr.add_zero'] at hx167_1)
              (try rw [show ((0 : Int)).toNat = 0 from rfl] at hx167_2)
              (try rw [show 0 * 4 = 0 from rfl] at hx167_2)
              (try rw [Addr.add_zero'] at hx167_2)
              (try rw [show ((0 : Int)).toNat = 0 from rfl] at hx167_3)
              (try rw [show 0 * 4 = 0 from rfl] at hx167_3)
              (try rw [Addr.add_zero'] at hx167_3)
              have HR167_1 := Aside0.mk hi167_1
              have HC167_1 := Aside0.mk hl167_1
              clear hi167_1 hl167_1
              replace p167 := eq_true p167
              replace q167 := eq_true q167
              have ea_ := Option.some.inj (hx161_1.symm.trans hx167_1)
              injection ea_ with ea_ en_ ec_
              subst ea_
              subst ec_
              clear en_
              have p168 : 0 ≤ (0 : Int) := (by omega)
              have q168 : 0 < (l1.length : Int) := of_decide_eq_true (by first | (with_reducible assumption) | assumption)
              obtain ⟨ad168, A168_1, c168_1, e168, hx168_0, hx168_1, hx168_2, hx168_3, hl168_1, hi168_1⟩ := at_T27 HR1.out 0 p168 q168
              obtain rfl : ad162 = ad168 := (by injection e168)
              have qi168 : (0 < l1.length) = True := eq_true (by omega)
              (try rw [show ((0 : Int)).toNat = 0 from rfl] at hx168_0)
              (try rw [show 0 * 4 = 0 from rfl] at hx168_0)
              (try rw [Addr.add_zero'] at hx168_0)
              (try rw [show ((0 : Int)).toNat = 0 from rfl] at hx168_1)
              (try rw [show 0 * 4 = 0 from rfl] at hx168_1)
              (try rw [Addr.add_zero'] at hx168_1)
              (try rw [show ((0 : Int)).toNat = 0 from rfl] at hx168_2)
              (try rw [show 0 * 4 = 0 from rfl] at hx168_2)
              (try rw [Addr.add_zero'] at hx168_2)
              (try rw [show ((0 : Int)).toNat = 0 from rfl] at hx168_3)
              (try rw [show 0 * 4 = 0 from rfl] at hx168_3)
              (try rw [Addr.add_zero'] at hx168_3)
              have HR168_1 := Aside0.mk hi168_1
              have HC168_1 := Aside0.mk hl168_1
              clear hi168_1 hl168_1
              replace p168 := eq_true p168
              replace q168 := eq_true q168
              have ea_ := Option.some.inj (hx162_1.symm.trans hx168_1)
              injection ea_ with ea_ en_ ec_
              subst ea_
              subst ec_
              clear en_
              go_wp2
              repeat (go_quiet (fail); try go_wp2)
              go_meet
              case rel => exact ⟨_, (((((rd_T27 l0 0).f1).length : Int) != (((rd_T27 l1 0).f1).length : Int))), (by first | rfl | (simp; done) | (simp [*]; done)), H', ⟨by first | omega | exact Nat.le_refl _⟩, by repeat (first | exact Drawn0.refl _ | apply Drawn0.step)⟩
            · rw [if_neg c8] at H
              have c8b0 : (((rd_T27 l0 0).f3) == ((rd_T27 l1 0).f3)) = false := beq_eq_false_iff_ne.mpr c8
              have c8b1 : (((rd_T27 l0 0).f3) != ((rd_T27 l1 0).f3)) = true := bne_iff_ne.mpr c8
              have H' := Aside0.mk H
              clear H
              have p161 : 0 ≤ (0 : Int) := (by omega)
              have q161 : 0 < (l0.length : Int) := of_decide_eq_true (by first | (with_reducible assumption) | assumption)
              obtain ⟨ad161, A161_1, c161_1, e161, hx161_0, hx161_1, hx161_2, hx161_3, hl161_1, hi161_1⟩ := at_T27 HR0.out 0 p161 q161
              cases e161
              have qi161 : (0 < l0.length) = True := eq_true (by omega)
              (try rw [show ((0 : Int)).toNat = 0 from rfl] at hx161_0)
              (try rw [show 0 * 4 = 0 from rfl] at hx161_0)
              (try rw [Addr.add_zero'] at hx161_0)
              (try rw [show ((0 : Int)).toNat = 0 from rfl] at hx161_1)
              (try rw [show 0 * 4 = 0 from rfl] at hx161_1)
              (try rw [Addr.add_zero'] at hx161_1)
              (try rw [show ((0 : Int)).toNat = 0 from rfl] at hx161_2)
              (try rw [show 0 * 4 = 0 from rfl] at hx161_2)
              (try rw [Addr.add_zero'] at hx161_2)
              (try rw [show ((0 : Int)).toNat = 0 from rfl] at hx161_3)
              (try rw [show 0 * 4 = 0 from rfl] at hx161_3)
              (try rw [Addr.add_zero'] at hx161_3)
              have HR161_1 := Aside0.mk hi161_1
              have HC161_1 := Aside0.mk hl161_1
              clear hi161_1 hl161_1
              replace p161 := eq_true p161
              replace q161 := eq_true q161
              have p162 : 0 ≤ (0 : Int) := (by omega)
              have q162 : 0 < (l1.length : Int) := of_decide_eq_true (by first | (with_reducible assumption) | assumption)
              obtain ⟨ad162, A162_1, c162_1, e162, hx162_0, hx162_1, hx162_2, hx162_3, hl162_1, hi162_1⟩ := at_T27 HR1.out 0 p162 q162
              cases e162
              have qi162 : (0 < l1.length) = True := eq_true (by omega)
              (try rw [show ((0 : Int)).toNat = 0 from rfl] at hx162_0)
              (try rw [show 0 * 4 = 0 from rfl] at hx162_0)
              (try rw [Addr.add_zero'] at hx162_0)
              (try rw [show ((0 : Int)).toNat = 0 from rfl] at hx162_1)
              (try rw [show 0 * 4 = 0 from rfl] at hx162_1)
              (try rw [Addr.add_zero'] at hx162_1)
              (try rw [show ((0 : Int)).toNat = 0 from rfl] at hx162_2)
              (try rw [show 0 * 4 = 0 from rfl] at hx162_2)
              (try rw [Addr.add_zero'] at hx162_2)
              (try rw [show ((0 : Int)).toNat = 0 from rfl] at hx162_3)
              (try rw [show 0 * 4 = 0 from rfl] at hx162_3)
              (try rw [Addr.add_zero'] at hx162_3)
              have HR162_1 := Aside0.mk hi162_1
              have HC162_1 := Aside0.mk hl162_1
              clear hi162_1 hl162_1
              replace p162 := eq_true p162
              replace q162 := eq_true q162
              have p163 : 0 ≤ (0 : Int) := (by omega)
              have q163 : 0 < (l0.length : Int) := of_decide_eq_true (by first | (with_reducible assumption) | assumption)
              obtain ⟨ad163, A163_1, c163_1, e163, hx163_0, hx163_1, hx163_2, hx163_3, hl163_1, hi163_1⟩ := at_T27 HR0.out 0 p163 q163
              obtain rfl : ad161 = ad163 := (by injection e163)
              have qi163 : (0 < l0.length) = True := eq_true (by omega)
              (try rw [show ((0 : Int)).toNat = 0 from rfl] at hx163_0)
              (try rw [show 0 * 4 = 0 from rfl] at hx163_0)
              (try rw [Addr.add_zero'] at hx163_0)
              (try rw [show ((0 : Int)).toNat = 0 from rfl] at hx163_1)
              (try rw [show 0 * 4 = 0 from rfl] at hx163_1)
              (try rw [Addr.add_zero'] at hx163_1)
              (try rw [show ((0 : Int)).toNat = 0 from rfl] at hx163_2)
              (try rw [show 0 * 4 = 0 from rfl] at hx163_2)
              (try rw [Addr.add_zero'] at hx163_2)
              (try rw [show ((0 : Int)).toNat = 0 from rfl] at hx163_3)
              (try rw [show 0 * 4 = 0 from rfl] at hx163_3)
              (try rw [Addr.add_zero'] at hx163_3)
              have HR163_1 := Aside0.mk hi163_1
              have HC163_1 := Aside0.mk hl163_1
              clear hi163_1 hl163_1
              replace p163 := eq_true p163
              replace q163 := eq_true q163
              have ea_ := Option.some.inj (hx161_1.symm.trans hx163_1)
              injection ea_ with ea_ en_ ec_
              subst ea_
              subst ec_
              clear en_
              have p164 : 0 ≤ (0 : Int) := (by omega)
              have q164 : 0 < (l1.length : Int) := of_decide_eq_true (by first | (with_reducible assumption) | assumption)
              obtain ⟨ad164, A164_1, c164_1, e164, hx164_0, hx164_1, hx164_2, hx164_3, hl164_1, hi164_1⟩ := at_T27 HR1.out 0 p164 q164
              obtain rfl : ad162 = ad164 := (by injection e164)
              have qi164 : (0 < l1.length) = True := eq_true (by omega)
              (try rw [show ((0 : Int)).toNat = 0 from rfl] at hx164_0)
              (try rw [show 0 * 4 = 0 from rfl] at hx164_0)
              (try rw [Addr.add_zero'] at hx164_0)
              (try rw [show ((0 : Int)).toNat = 0 from rfl] at hx164_1)
              (try rw [show 0 * 4 = 0 from rfl] at hx164_1)
              (try rw [Addr.add_zero'] at hx164_1)
              (try rw [show ((0 : Int)).toNat = 0 from rfl] at hx164_2)
              (try rw [show 0 * 4 = 0 from rfl] at hx164_2)
              (try rw [Addr.add_zero'] at hx164_2)
              (try rw [show ((0 : Int)).toNat = 0 from rfl] at hx164_3)
              (try rw [show 0 * 4 = 0 from rfl] at hx164_3)
              (try rw [Addr.add_zero'] at hx164_3)
              have HR164_1 := Aside0.mk hi164_1
              have HC164_1 := Aside0.mk hl164_1
              clear hi164_1 hl164_1
              replace p164 := eq_true p164
              replace q164 := eq_true q164
              have ea_ := Option.some.inj (hx162_1.symm.trans hx164_1)
              injection ea_ with ea_ en_ ec_
              subst ea_
              subst ec_
              clear en_
              have p165 : 0 ≤ (0 : Int) := (by omega)
              have q165 : 0 < (l0.length : Int) := of_decide_eq_true (by first | (with_reducible assumption) | assumption)
              obtain ⟨ad165, A165_1, c165_1, e165, hx165_0, hx165_1, hx165_2, hx165_3, hl165_1, hi165_1⟩ := at_T27 HR0.out 0 p165 q165
              obtain rfl : ad161 = ad165 := (by injection e165)
              have qi165 : (0 < l0.length) = True := eq_true (by omega)
              (try rw [show ((0 : Int)).toNat = 0 from rfl] at hx165_0)
              (try rw [show 0 * 4 = 0 from rfl] at hx165_0)
              (try rw [Addr.add_zero'] at hx165_0)
              (try rw [show ((0 : Int)).toNat = 0 from rfl] at hx165_1)
              (try rw [show 0 * 4 = 0 from rfl] at hx165_1)
              (try rw [Addr.add_zero'] at hx165_1)
              (try rw [show ((0 : Int)).toNat = 0 from rfl] at hx165_2)
              (try rw [show 0 * 4 = 0 from rfl] at hx165_2)
              (try rw [Addr.add_zero'] at hx165_2)
              (try rw [show ((0 : Int)).toNat = 0 from rfl] at hx165_3)
              (try rw [show 0 * 4 = 0 from rfl] at hx165_3)
              (try rw [Addr.add_zero'] at hx165_3)
              have HR165_1 := Aside0.mk hi165_1
              have HC165_1 := Aside0.mk hl165_1
              clear hi165_1 hl165_1
              replace p165 := eq_true p165
              replace q165 := eq_true q165
              have ea_ := Option.some.inj (hx161_1.symm.trans hx165_1)
              injection ea_ with ea_ en_ ec_
              subst ea_
              subst ec_
              clear en_
              have p166 : 0 ≤ (0 : Int) := (by omega)
              have q166 : 0 < (l1.length : Int) := of_decide_eq_true (by first | (with_reducible assumption) | assumption)
              obtain ⟨ad166, A166_1, c166_1, e166, hx166_0, hx166_1, hx166_2, hx166_3, hl166_1, hi166_1⟩ := at_T27 HR1.out 0 p166 q166
              obtain rfl : ad162 = ad166 := (by injection e166)
              have qi166 : (0 < l1.length) = True := eq_true (by omega)
              (try rw [show ((0 : Int)).toNat = 0 from rfl] at hx166_0)
              (try rw [show 0 * 4 = 0 from rfl] at hx166_0)
              (try rw [Addr.add_zero'] at hx166_0)
              (try rw [show ((0 : Int)).toNat = 0 from rfl] at hx166_1)
              (try rw [show 0 * 4 = 0 from rfl] at hx166_1)
              (try rw [Addr.add_zero'] at hx166_1)
              (try rw [show ((0 : Int)).toNat = 0 from rfl] at hx166_2)
              (try rw [show 0 * 4 = 0 from rfl] at hx166_2)
              (try rw [Addr.add_zero'] at hx166_2)
              (try rw [show ((0 : Int)).toNat = 0 from rfl] at hx166_3)
              (try rw [show 0 * 4 = 0 from rfl] at hx166_3)
              (try rw [Addr.add_zero'] at hx166_3)
              have HR166_1 := Aside0.mk hi166_1
              have HC166_1 := Aside0.mk hl166_1
              clear hi166_1 hl166_1
              replace p166 := eq_true p166
              replace q166 := eq_true q166
              have ea_ := Option.some.inj (hx162_1.symm.trans hx166_1)
              injection ea_ with ea_ en_ ec_
              subst ea_
              subst ec_
              clear en_
              go_wp2
              repeat (go_quiet (fail); try go_wp2)
              go_meet
              case rel => exact ⟨_, (true), (by first | rfl | (simp; done) | (simp [*]; done)), H', ⟨by first | omega | exact Nat.le_refl _⟩, by repeat (first | exact Drawn0.refl _ | apply Drawn0.step)⟩
          · rw [if_neg c7] at H
            have c7b0 : (((rd_T27 l0 0).f2) == ((rd_T27 l1 0).f2)) = false := beq_eq_false_iff_ne.mpr c7
            have c7b1 : (((rd_T27 l0 0).f2) != ((rd_T27 l1 0).f2)) = true := bne_iff_ne.mpr c7
            have H' := Aside0.mk H
            clear H
            have p161 : 0 ≤ (0 : Int) := (by omega)
            have q161 : 0 < (l0.length : Int) := of_decide_eq_true (by first | (with_reducible assumption) | assumption)
            obtain ⟨ad161, A161_1, c161_1, e161, hx161_0, hx161_1, hx161_2, hx161_3, hl161_1, hi161_1⟩ := at_T27 HR0.out 0 p161 q161
            cases e161
            have qi161 : (0 < l0.length) = True := eq_true (by omega)
            (try rw [show ((0 : Int)).toNat = 0 from rfl] at hx161_0)
            (try rw [show 0 * 4 = 0 from rfl] at hx161_0)
            (try rw [Addr.add_zero'] at hx161_0)
            (try rw [show ((0 : Int)).toNat = 0 from rfl] at hx161_1)
            (try rw [show 0 * 4 = 0 from rfl] at hx161_1)
            (try rw [Addr.add_zero'] at hx161_1)
            (try rw [show ((0 : Int)).toNat = 0 from rfl] at hx161_2)
            (try rw [show 0 * 4 = 0 from rfl] at hx161_2)
            (try rw [Addr.add_zero'] at hx161_2)
            (try rw [show ((0 : Int)).toNat = 0 from rfl] at hx161_3)
            (try rw [show 0 * 4 = 0 from rfl] at hx161_3)
            (try rw [Addr.add_zero'] at hx161_3)
            have HR161_1 := Aside0.mk hi161_1
            have HC161_1 := Aside0.mk hl161_1
            clear hi161_1 hl161_1
            replace p161 := eq_true p161
            replace q161 := eq_true q161
            have p162 : 0 ≤ (0 : Int) := (by omega)
            have q162 : 0 < (l1.length : Int) := of_decide_eq_true (by first | (with_reducible assumption) | assumption)
            obtain ⟨ad162, A162_1, c162_1, e162, hx162_0, hx162_1, hx162_2, hx162_3, hl162_1, hi162_1⟩ := at_T27 HR1.out 0 p162 q162
            cases e162
            have qi162 : (0 < l1.length) = True := eq_true (by omega)
            (try rw [show ((0 : Int)).toNat = 0 from rfl] at hx162_0)
            (try rw [show 0 * 4 = 0 from rfl] at hx162_0)
            (try rw [Addr.add_zero'] at hx162_0)
            (try rw [show ((0 : Int)).toNat = 0 from rfl] at hx162_1)
            (try rw [show 0 * 4 = 0 from rfl] at hx162_1)
            (try rw [Addr.add_zero'] at hx162_1)
            (try rw [show ((0 : Int)).toNat = 0 from rfl] at hx162_2)
            (try rw [show 0 * 4 = 0 from rfl] at hx162_2)
            (try rw [Addr.add_zero'] at hx162_2)
            (try rw [show ((0 : Int)).toNat = 0 from rfl] at hx162_3)
            (try rw [show 0 * 4 = 0 from rfl] at hx162_3)
            (try rw [Addr.add_zero'] at hx162_3)
            have HR162_1 := Aside0.mk hi162_1
            have HC162_1 := Aside0.mk hl162_1
            clear hi162_1 hl162_1
            replace p162 := eq_true p162
            replace q162 := eq_true q162
            have p163 : 0 ≤ (0 : Int) := (by omega)
            have q163 : 0 < (l0.length : Int) := of_decide_eq_true (by first | (with_reducible assumption) | assumption)
            obtain ⟨ad163, A163_1, c163_1, e163, hx163_0, hx163_1, hx163_2, hx163_3, hl163_1, hi163_1⟩ := at_T27 HR0.out 0 p163 q163
            obtain rfl : ad161 = ad163 := (by injection e163)
            have qi163 : (0 < l0.length) = True := eq_true (by omega)
            (try rw [show ((0 : Int)).toNat = 0 from rfl] at hx163_0)
            (try rw [show 0 * 4 = 0 from rfl] at hx163_0)
            (try rw [Addr.add_zero'] at hx163_0)
            (try rw [show ((0 : Int)).toNat = 0 from rfl] at hx163_1)
            (try rw [show 0 * 4 = 0 from rfl] at hx163_1)
            (try rw [Addr.add_zero'] at hx163_1)
            (try rw [show ((0 : Int)).toNat = 0 from rfl] at hx163_2)
            (try rw [show 0 * 4 = 0 from rfl] at hx163_2)
            (try rw [Addr.add_zero'] at hx163_2)
            (try rw [show ((0 : Int)).toNat = 0 from rfl] at hx163_3)
            (try rw [show 0 * 4 = 0 from rfl] at hx163_3)
            (try rw [Addr.add_zero'] at hx163_3)
            have HR163_1 := Aside0.mk hi163_1
            have HC163_1 := Aside0.mk hl163_1
            clear hi163_1 hl163_1
            replace p163 := eq_true p163
            replace q163 := eq_true q163
            have ea_ := Option.some.inj (hx161_1.symm.trans hx163_1)
            injection ea_ with ea_ en_ ec_
            subst ea_
            subst ec_
            clear en_
            have p164 : 0 ≤ (0 : Int) := (by omega)
            have q164 : 0 < (l1.length : Int) := of_decide_eq_true (by first | (with_reducible assumption) | assumption)
            obtain ⟨ad164, A164_1, c164_1, e164, hx164_0, hx164_1, hx164_2, hx164_3, hl164_1, hi164_1⟩ := at_T27 HR1.out 0 p164 q164
            obtain rfl : ad162 = ad164 := (by injection e164)
            have qi164 : (0 < l1.length) = True := eq_true (by omega)
            (try rw [show ((0 : Int)).toNat = 0 from rfl] at hx164_0)
            (try rw [show 0 * 4 = 0 from rfl] at hx164_0)
            (try rw [Addr.add_zero'] at hx164_0)
            (try rw [show ((0 : Int)).toNat = 0 from rfl] at hx164_1)
            (try rw [show 0 * 4 = 0 from rfl] at hx164_1)
            (try rw [Addr.add_zero'] at hx164_1)
            (try rw [show ((0 : Int)).toNat = 0 from rfl] at hx164_2)
            (try rw [show 0 * 4 = 0 from rfl] at hx164_2)
            (try rw [Addr.add_zero'] at hx164_2)
            (try rw [show ((0 : Int)).toNat = 0 from rfl] at hx164_3)
            (try rw [show 0 * 4 = 0 from rfl] at hx164_3)
            (try rw [Addr.add_zero'] at hx164_3)
            have HR164_1 := Aside0.mk hi164_1
            have HC164_1 := Aside0.mk hl164_1
            clear hi164_1 hl164_1
            replace p164 := eq_true p164
            replace q164 := eq_true q164
            have ea_ := Option.some.inj (hx162_1.symm.trans hx164_1)
            injection ea_ with ea_ en_ ec_
            subst ea_
            subst ec_
            clear en_
            go_wp2
            repeat (go_quiet (fail); try go_wp2)
            go_meet
            case rel => exact ⟨_, (true), (by first | rfl | (simp; done) | (simp [*]; done)), H', ⟨by first | omega | exact Nat.le_refl _⟩, by repeat (first | exact Drawn0.refl _ | apply Drawn0.step)⟩
        · rw [if_neg c6] at H
          have c6b0 : (((rd_T27 l0 0).f0) == ((rd_T27 l1 0).f0)) = false := beq_eq_false_iff_ne.mpr c6
          have c6b1 : (((rd_T27 l0 0).f0) != ((rd_T27 l1 0).f0)) = true := bne_iff_ne.mpr c6
          have H' := Aside0.mk H
          clear H
          have p161 : 0 ≤ (0 : Int) := (by omega)
          have q161 : 0 < (l0.length : Int) := of_decide_eq_true (by first | (with_reducible assumption) | assumption)
          obtain ⟨ad161, A161_1, c161_1, e161, hx161_0, hx161_1, hx161_2, hx161_3, hl161_1, hi161_1⟩ := at_T27 HR0.out 0 p161 q161
          cases e161
          have qi161 : (0 < l0.length) = True := eq_true (by omega)
          (try rw [show ((0 : Int)).toNat = 0 from rfl] at hx161_0)
          (try rw [show 0 * 4 = 0 from rfl] at hx161_0)
          (try rw [Addr.add_zero'] at hx161_0)
          (try rw [show ((0 : Int)).toNat = 0 from rfl] at hx161_1)
          (try rw [show 0 * 4 = 0 from rfl] at hx161_1)
          (try rw [Addr.add_zero'] at hx161_1)
          (try rw [show ((0 : Int)).toNat = 0 from rfl] at hx161_2)
          (try rw [show 0 * 4 = 0 from rfl] at hx161_2)
          (try rw [Addr.add_zero'] at hx161_2)
          (try rw [show ((0 : Int)).toNat = 0 from rfl] at hx161_3)
          (try rw [show 0 * 4 = 0 from rfl] at hx161_3)
          (try rw [Addr.add_zero'] at hx161_3)
          have HR161_1 := Aside0.mk hi161_1
          have HC161_1 := Aside0.mk hl161_1
          clear hi161_1 hl161_1
          replace p161 := eq_true p161
          replace q161 := eq_true q161
          have p162 : 0 ≤ (0 : Int) := (by omega)
          have q162 : 0 < (l1.length : Int) := of_decide_eq_true (by first | (with_reducible assumption) | assumption)
          obtain ⟨ad162, A162_1, c162_1, e162, hx162_0, hx162_1, hx162_2, hx162_3, hl162_1, hi162_1⟩ := at_T27 HR1.out 0 p162 q162
          cases e162
          have qi162 : (0 < l1.length) = True := eq_true (by omega)
          (try rw [show ((0 : Int)).toNat = 0 from rfl] at hx162_0)
          (try rw [show 0 * 4 = 0 from rfl] at hx162_0)
          (try rw [Addr.add_zero'] at hx162_0)
          (try rw [show ((0 : Int)).toNat = 0 from rfl] at hx162_1)
          (try rw [show 0 * 4 = 0 from rfl] at hx162_1)
          (try rw [Addr.add_zero'] at hx162_1)
          (try rw [show ((0 : Int)).toNat = 0 from rfl] at hx162_2)
          (try rw [show 0 * 4 = 0 from rfl] at hx162_2)
          (try rw [Addr.add_zero'] at hx162_2)
          (try rw [show ((0 : Int)).toNat = 0 from rfl] at hx162_3)
          (try rw [show 0 * 4 = 0 from rfl] at hx162_3)
          (try rw [Addr.add_zero'] at hx162_3)
          have HR162_1 := Aside0.mk hi162_1
          have HC162_1 := Aside0.mk hl162_1
          clear hi162_1 hl162_1
          replace p162 := eq_true p162
          replace q162 := eq_true q162
          go_wp2
          repeat (go_quiet (fail); try go_wp2)
          go_meet
          case rel => exact ⟨_, (true), (by first | rfl | (simp; done) | (simp [*]; done)), H', ⟨by first | omega | exact Nat.le_refl _⟩, by repeat (first | exact Drawn0.refl _ | apply Drawn0.step)⟩
      · rw [if_neg c5] at H
        exact absurd H (by simp)
    · rw [if_neg c4] at H
      exact absurd H (by simp)
  case rest =>
    clear HC3
    try clear c1
    try clear p1
    try clear q1
    try clear hx1
    try clear qi1
    try clear p2
    try clear c4
    try clear c4b0
    try clear c4b1
    try clear c5
    try clear c5b0
    try clear c5b1
    try clear c6
    try clear c6b0
    try clear c6b1
    try clear c7
    try clear c7b0
    try clear c7b1
    try clear c8
    try clear c8b0
    try clear c8b1
    try clear hx161_0
    try clear hx161_1
    try clear hx161_2
    try clear hx161_3
    try clear hx162_0
    try clear hx162_1
    try clear hx162_2
    try clear hx162_3
    try clear hx163_0
    try clear hx163_1
    try clear hx163_2
    try clear hx163_3
    try clear hx164_0
    try clear hx164_1
    try clear hx164_2
    try clear hx164_3
    try clear hx165_0
    try clear hx165_1
    try clear hx165_2
    try clear hx165_3
    try clear hx166_0
    try clear hx166_1
    try clear hx166_2
    try clear hx166_3
    try clear hx167_0
    try clear hx167_1
    try clear hx167_2
    try clear hx167_3
    try clear hx168_0
    try clear hx168_1
    try clear hx168_2
    try clear hx168_3
    try clear p161
    try clear p162
    try clear p163
    try clear p164
    try clear p165
    try clear p166
    try clear p167
    try clear p168
    try clear q161
    try clear q162
    try clear q163
    try clear q164
    try clear q165
    try clear q166
    try clear q167
    try clear q168
    obtain ⟨kq, x49_2, rfl, HA, HJ2, ⟨mc2, rfl⟩⟩ := hcut
    cases kq with
    | zero => exact absurd HA.out (by simp [spec_l4Same.j0])
    | succ kj2 =>
      have H := HA.out
      clear HA
      simp only [spec_l4Same.j0] at H
      by_cases c9 : x49_2 = true
      · subst c9
        have H1 : (some false) = some r := by rw [if_pos rfl] at H; exact H
        clear H
        have H := H1
        clear H1
        obtain rfl := Option.some.inj H
        go_wp2
        repeat (go_quiet (fail); try go_wp2)
        go_ret
        exact ⟨by first | rfl | (simp; done) | (simp [*]; done), by repeat (first | exact Drawn0.refl _ | apply Drawn0.step)⟩
      · replace c9 := Bool.eq_false_iff.mpr c9
        subst c9
        have H1 : (spec_l4Same.l0 kj2 l0 l1 0) = some r := by rw [if_neg (show ¬ (false = true) by decide)] at H; exact H
        clear H
        have H := H1
        clear H1
        have H' := Aside0.mk H
        clear H
        go_wp2
        repeat (go_quiet (fail); try go_wp2)
        go_loopg [5] kj2 (fun kq v5 w' => ∃ (x5_2 : Int), v5 = .int .i64 x5_2 ∧ Aside0 (spec_l4Same.l0 kq l0 l1 x5_2 = some r) ∧ Aside0 (kq ≤ kj2) ∧ Drawn0 w w')
        case atStart => exact ⟨(0), (by first | rfl | (simp; done) | (simp [*]; done)), H', ⟨Nat.le_refl _⟩, by repeat (first | exact Drawn0.refl _ | apply Drawn0.step)⟩
        case round =>
          clear H'
          try clear c1
          try clear p1
          try clear q1
          try clear hx1
          try clear qi1
          try clear c2
          try clear p2
          try clear c4
          try clear c4b0
          try clear c4b1
          try clear c5
          try clear c5b0
          try clear c5b1
          try clear c6
          try clear c6b0
          try clear c6b1
          try clear c7
          try clear c7b0
          try clear c7b1
          try clear c8
          try clear c8b0
          try clear c8b1
          try clear c9
          try clear hx161_0
          try clear hx161_1
          try clear hx161_2
          try clear hx161_3
          try clear hx162_0
          try clear hx162_1
          try clear hx162_2
          try clear hx162_3
          try clear hx163_0
          try clear hx163_1
          try clear hx163_2
          try clear hx163_3
          try clear hx164_0
          try clear hx164_1
          try clear hx164_2
          try clear hx164_3
          try clear hx165_0
          try clear hx165_1
          try clear hx165_2
          try clear hx165_3
          try clear hx166_0
          try clear hx166_1
          try clear hx166_2
          try clear hx166_3
          try clear hx167_0
          try clear hx167_1
          try clear hx167_2
          try clear hx167_3
          try clear hx168_0
          try clear hx168_1
          try clear hx168_2
          try clear hx168_3
          try clear p1
          try clear p161
          try clear p162
          try clear p163
          try clear p164
          try clear p165
          try clear p166
          try clear p167
          try clear p168
          try clear p2
          try clear q1
          try clear q161
          try clear q162
          try clear q163
          try clear q164
          try clear q165
          try clear q166
          try clear q167
          try clear q168
          obtain ⟨x5_2, rfl, HA, HK2, ⟨m2, rfl⟩⟩ := hrel
          cases gk with
          | zero => exact absurd HA.out (by simp [spec_l4Same.l0])
          | succ k2 =>
            have H := HA.out
            clear HA
            simp only [spec_l4Same.l0] at H
            by_cases c10 : 0 < (l0.length : Int)
            · rw [if_pos c10] at H
              have c10b0 : decide (0 < (l0.length : Int)) = true := decide_eq_true c10
              have c10b1 : decide (0 < l0.length) = true := decide_eq_true (by omega)
              clear c10
              by_cases c11 : x5_2 < (((rd_T27 l0 0).f1).length : Int)
              · rw [if_pos c11] at H
                have c11b0 : decide (x5_2 < (((rd_T27 l0 0).f1).length : Int)) = true := decide_eq_true c11
                clear c11
                by_cases c12 : 0 ≤ x5_2
                · rw [if_pos c12] at H
                  have c12b0 : decide (0 ≤ x5_2) = true := decide_eq_true c12
                  clear c12
                  by_cases c13 : 0 < (l1.length : Int)
                  · rw [if_pos c13] at H
                    have c13b0 : decide (0 < (l1.length : Int)) = true := decide_eq_true c13
                    have c13b1 : decide (0 < l1.length) = true := decide_eq_true (by omega)
                    clear c13
                    by_cases c14 : x5_2 < (((rd_T27 l1 0).f1).length : Int)
                    · rw [if_pos c14] at H
                      have c14b0 : decide (x5_2 < (((rd_T27 l1 0).f1).length : Int)) = true := decide_eq_true c14
                      clear c14
                      by_cases c15 : (rd ((rd_T27 l0 0).f1) x5_2) = (rd ((rd_T27 l1 0).f1) x5_2)
                      · rw [if_pos c15] at H
                        have c15b0 : ((rd ((rd_T27 l0 0).f1) x5_2) == (rd ((rd_T27 l1 0).f1) x5_2)) = true := beq_iff_eq.mpr c15
                        have c15b1 : ((rd ((rd_T27 l0 0).f1) x5_2) != (rd ((rd_T27 l1 0).f1) x5_2)) = false := bne_eq_false_iff_eq.mpr c15
                        clear c15
                        have H' := Aside0.mk H
                        clear H
                        have p169 : 0 ≤ (0 : Int) := (by omega)
                        have q169 : 0 < (l0.length : Int) := of_decide_eq_true (by first | (with_reducible assumption) | assumption)
                        obtain ⟨ad169, A169_1, c169_1, e169, hx169_0, hx169_1, hx169_2, hx169_3, hl169_1, hi169_1⟩ := at_T27 HR0.out 0 p169 q169
                        cases e169
                        have qi169 : (0 < l0.length) = True := eq_true (by omega)
                        (try rw [show ((0 : Int)).toNat = 0 from rfl] at hx169_0)
                        (try rw [show 0 * 4 = 0 from rfl] at hx169_0)
                        (try rw [Addr.add_zero'] at hx169_0)
                        (try rw [show ((0 : Int)).toNat = 0 from rfl] at hx169_1)
                        (try rw [show 0 * 4 = 0 from rfl] at hx169_1)
                        (try rw [Addr.add_zero'] at hx169_1)
                        (try rw [show ((0 : Int)).toNat = 0 from rfl] at hx169_2)
                        (try rw [show 0 * 4 = 0 from rfl] at hx169_2)
                        (try rw [Addr.add_zero'] at hx169_2)
                        (try rw [show ((0 : Int)).toNat = 0 from rfl] at hx169_3)
                        (try rw [show 0 * 4 = 0 from rfl] at hx169_3)
                        (try rw [Addr.add_zero'] at hx169_3)
                        have HR169_1 := Aside0.mk hi169_1
                        have HC169_1 := Aside0.mk hl169_1
                        clear hi169_1 hl169_1
                        replace p169 := eq_true p169
                        replace q169 := eq_true q169
                        have p170 : 0 ≤ (0 : Int) := (by omega)
                        have q170 : 0 < (l0.length : Int) := of_decide_eq_true (by first | (with_reducible assumption) | assumption)
                        obtain ⟨ad170, A170_1, c170_1, e170, hx170_0, hx170_1, hx170_2, hx170_3, hl170_1, hi170_1⟩ := at_T27 HR0.out 0 p170 q170
                        obtain rfl : ad169 = ad170 := (by injection e170)
                        have qi170 : (0 < l0.length) = True := eq_true (by omega)
                        (try rw [show ((0 : Int)).toNat = 0 from rfl] at hx170_0)
                        (try rw [show 0 * 4 = 0 from rfl] at hx170_0)
                        (try rw [Addr.add_zero'] at hx170_0)
                        (try rw [show ((0 : Int)).toNat = 0 from rfl] at hx170_1)
                        (try rw [show 0 * 4 = 0 from rfl] at hx170_1)
                        (try rw [Addr.add_zero'] at hx170_1)
                        (try rw [show ((0 : Int)).toNat = 0 from rfl] at hx170_2)
                        (try rw [show 0 * 4 = 0 from rfl] at hx170_2)
                        (try rw [Addr.add_zero'] at hx170_2)
                        (try rw [show ((0 : Int)).toNat = 0 from rfl] at hx170_3)
                        (try rw [show 0 * 4 = 0 from rfl] at hx170_3)
                        (try rw [Addr.add_zero'] at hx170_3)
                        have HR170_1 := Aside0.mk hi170_1
                        have HC170_1 := Aside0.mk hl170_1
                        clear hi170_1 hl170_1
                        replace p170 := eq_true p170
                        replace q170 := eq_true q170
                        have ea_ := Option.some.inj (hx169_1.symm.trans hx170_1)
                        injection ea_ with ea_ en_ ec_
                        subst ea_
                        subst ec_
                        clear en_
                        have p171 : 0 ≤ (x5_2 : Int) := of_decide_eq_true (by first | (with_reducible assumption) | assumption)
                        have q171 : x5_2 < (((rd_T27 l0 0).f1).length : Int) := of_decide_eq_true (by first | (with_reducible assumption) | assumption)
                        obtain ⟨ad171, e171, hx171_0⟩ := Kd.at_int HR170_1.out x5_2 p171 q171
                        cases e171
                        replace p171 := eq_true p171
                        replace q171 := eq_true q171
                        have p172 : 0 ≤ (0 : Int) := (by omega)
                        have q172 : 0 < (l1.length : Int) := of_decide_eq_true (by first | (with_reducible assumption) | assumption)
                        obtain ⟨ad172, A172_1, c172_1, e172, hx172_0, hx172_1, hx172_2, hx172_3, hl172_1, hi172_1⟩ := at_T27 HR1.out 0 p172 q172
                        cases e172
                        have qi172 : (0 < l1.length) = True := eq_true (by omega)
                        (try rw [show ((0 : Int)).toNat = 0 from rfl] at hx172_0)
                        (try rw [show 0 * 4 = 0 from rfl] at hx172_0)
                        (try rw [Addr.add_zero'] at hx172_0)
                        (try rw [show ((0 : Int)).toNat = 0 from rfl] at hx172_1)
                        (try rw [show 0 * 4 = 0 from rfl] at hx172_1)
                        (try rw [Addr.add_zero'] at hx172_1)
                        (try rw [show ((0 : Int)).toNat = 0 from rfl] at hx172_2)
                        (try rw [show 0 * 4 = 0 from rfl] at hx172_2)
                        (try rw [Addr.add_zero'] at hx172_2)
                        (try rw [show ((0 : Int)).toNat = 0 from rfl] at hx172_3)
                        (try rw [show 0 * 4 = 0 from rfl] at hx172_3)
                        (try rw [Addr.add_zero'] at hx172_3)
                        have HR172_1 := Aside0.mk hi172_1
                        have HC172_1 := Aside0.mk hl172_1
                        clear hi172_1 hl172_1
                        replace p172 := eq_true p172
                        replace q172 := eq_true q172
                        have p173 : 0 ≤ (x5_2 : Int) := of_decide_eq_true (by first | (with_reducible assumption) | assumption)
                        have q173 : x5_2 < (((rd_T27 l1 0).f1).length : Int) := of_decide_eq_true (by first | (with_reducible assumption) | assumption)
                        obtain ⟨ad173, e173, hx173_0⟩ := Kd.at_int HR172_1.out x5_2 p173 q173
                        cases e173
                        replace p173 := eq_true p173
                        replace q173 := eq_true q173
                        go_wp2
                        repeat (go_quiet (fail); try go_wp2)
                        go_roundg k2
                        case measure => have := HJ2.out; have := HK2.out; omega
                        case rel => exact ⟨(wrap64 (x5_2 + 1)), (by first | rfl | (simp; done) | (simp [*]; done)), H', ⟨by have := HJ2.out; have := HK2.out; omega⟩, by repeat (first | exact Drawn0.refl _ | apply Drawn0.step)⟩
                      · rw [if_neg c15] at H
                        have c15b0 : ((rd ((rd_T27 l0 0).f1) x5_2) == (rd ((rd_T27 l1 0).f1) x5_2)) = false := beq_eq_false_iff_ne.mpr c15
                        have c15b1 : ((rd ((rd_T27 l0 0).f1) x5_2) != (rd ((rd_T27 l1 0).f1) x5_2)) = true := bne_iff_ne.mpr c15
                        obtain rfl := Option.some.inj H
                        have p169 : 0 ≤ (0 : Int) := (by omega)
                        have q169 : 0 < (l0.length : Int) := of_decide_eq_true (by first | (with_reducible assumption) | assumption)
                        obtain ⟨ad169, A169_1, c169_1, e169, hx169_0, hx169_1, hx169_2, hx169_3, hl169_1, hi169_1⟩ := at_T27 HR0.out 0 p169 q169
                        cases e169
                        have qi169 : (0 < l0.length) = True := eq_true (by omega)
                        (try rw [show ((0 : Int)).toNat = 0 from rfl] at hx169_0)
                        (try rw [show 0 * 4 = 0 from rfl] at hx169_0)
                        (try rw [Addr.add_zero'] at hx169_0)
                        (try rw [show ((0 : Int)).toNat = 0 from rfl] at hx169_1)
                        (try rw [show 0 * 4 = 0 from rfl] at hx169_1)
                        (try rw [Addr.add_zero'] at hx169_1)
                        (try rw [show ((0 : Int)).toNat = 0 from rfl] at hx169_2)
                        (try rw [show 0 * 4 = 0 from rfl] at hx169_2)
                        (try rw [Addr.add_zero'] at hx169_2)
                        (try rw [show ((0 : Int)).toNat = 0 from rfl] at hx169_3)
                        (try rw [show 0 * 4 = 0 from rfl] at hx169_3)
                        (try rw [Addr.add_zero'] at hx169_3)
                        have HR169_1 := Aside0.mk hi169_1
                        have HC169_1 := Aside0.mk hl169_1
                        clear hi169_1 hl169_1
                        replace p169 := eq_true p169
                        replace q169 := eq_true q169
                        have p170 : 0 ≤ (0 : Int) := (by omega)
                        have q170 : 0 < (l0.length : Int) := of_decide_eq_true (by first | (with_reducible assumption) | assumption)
                        obtain ⟨ad170, A170_1, c170_1, e170, hx170_0, hx170_1, hx170_2, hx170_3, hl170_1, hi170_1⟩ := at_T27 HR0.out 0 p170 q170
                        obtain rfl : ad169 = ad170 := (by injection e170)
                        have qi170 : (0 < l0.length) = True := eq_true (by omega)
                        (try rw [show ((0 : Int)).toNat = 0 from rfl] at hx170_0)
                        (try rw [show 0 * 4 = 0 from rfl] at hx170_0)
                        (try rw [Addr.add_zero'] at hx170_0)
                        (try rw [show ((0 : Int)).toNat = 0 from rfl] at hx170_1)
                        (try rw [show 0 * 4 = 0 from rfl] at hx170_1)
                        (try rw [Addr.add_zero'] at hx170_1)
                        (try rw [show ((0 : Int)).toNat = 0 from rfl] at hx170_2)
                        (try rw [show 0 * 4 = 0 from rfl] at hx170_2)
                        (try rw [Addr.add_zero'] at hx170_2)
                        (try rw [show ((0 : Int)).toNat = 0 from rfl] at hx170_3)
                        (try rw [show 0 * 4 = 0 from rfl] at hx170_3)
                        (try rw [Addr.add_zero'] at hx170_3)
                        have HR170_1 := Aside0.mk hi170_1
                        have HC170_1 := Aside0.mk hl170_1
                        clear hi170_1 hl170_1
                        replace p170 := eq_true p170
                        replace q170 := eq_true q170
                        have ea_ := Option.some.inj (hx169_1.symm.trans hx170_1)
                        injection ea_ with ea_ en_ ec_
                        subst ea_
                        subst ec_
                        clear en_
                        have p171 : 0 ≤ (x5_2 : Int) := of_decide_eq_true (by first | (with_reducible assumption) | assumption)
                        have q171 : x5_2 < (((rd_T27 l0 0).f1).length : Int) := of_decide_eq_true (by first | (with_reducible assumption) | assumption)
                        obtain ⟨ad171, e171, hx171_0⟩ := Kd.at_int HR170_1.out x5_2 p171 q171
                        cases e171
                        replace p171 := eq_true p171
                        replace q171 := eq_true q171
                        have p172 : 0 ≤ (0 : Int) := (by omega)
                        have q172 : 0 < (l1.length : Int) := of_decide_eq_true (by first | (with_reducible assumption) | assumption)
                        obtain ⟨ad172, A172_1, c172_1, e172, hx172_0, hx172_1, hx172_2, hx172_3, hl172_1, hi172_1⟩ := at_T27 HR1.out 0 p172 q172
                        cases e172
                        have qi172 : (0 < l1.length) = True := eq_true (by omega)
                        (try rw [show ((0 : Int)).toNat = 0 from rfl] at hx172_0)
                        (try rw [show 0 * 4 = 0 from rfl] at hx172_0)
                        (try rw [Addr.add_zero'] at hx172_0)
                        (try rw [show ((0 : Int)).toNat = 0 from rfl] at hx172_1)
                        (try rw [show 0 * 4 = 0 from rfl] at hx172_1)
                        (try rw [Addr.add_zero'] at hx172_1)
                        (try rw [show ((0 : Int)).toNat = 0 from rfl] at hx172_2)
                        (try rw [show 0 * 4 = 0 from rfl] at hx172_2)
                        (try rw [Addr.add_zero'] at hx172_2)
                        (try rw [show ((0 : Int)).toNat = 0 from rfl] at hx172_3)
                        (try rw [show 0 * 4 = 0 from rfl] at hx172_3)
                        (try rw [Addr.add_zero'] at hx172_3)
                        have HR172_1 := Aside0.mk hi172_1
                        have HC172_1 := Aside0.mk hl172_1
                        clear hi172_1 hl172_1
                        replace p172 := eq_true p172
                        replace q172 := eq_true q172
                        have p173 : 0 ≤ (x5_2 : Int) := of_decide_eq_true (by first | (with_reducible assumption) | assumption)
                        have q173 : x5_2 < (((rd_T27 l1 0).f1).length : Int) := of_decide_eq_true (by first | (with_reducible assumption) | assumption)
                        obtain ⟨ad173, e173, hx173_0⟩ := Kd.at_int HR172_1.out x5_2 p173 q173
                        cases e173
                        replace p173 := eq_true p173
                        replace q173 := eq_true q173
                        go_wp2
                        repeat (go_quiet (fail); try go_wp2)
                        go_ret
                        exact ⟨by first | rfl | (simp; done) | (simp [*]; done), by repeat (first | exact Drawn0.refl _ | apply Drawn0.step)⟩
                    · rw [if_neg c14] at H
                      exact absurd H (by simp)
                  · rw [if_neg c13] at H
                    exact absurd H (by simp)
                · rw [if_neg c12] at H
                  exact absurd H (by simp)
              · rw [if_neg c11] at H
                have c11b0 : decide (x5_2 < (((rd_T27 l0 0).f1).length : Int)) = false := decide_eq_false c11
                clear c11
                obtain rfl := Option.some.inj H
                have p169 : 0 ≤ (0 : Int) := (by omega)
                have q169 : 0 < (l0.length : Int) := of_decide_eq_true (by first | (with_reducible assumption) | assumption)
                obtain ⟨ad169, A169_1, c169_1, e169, hx169_0, hx169_1, hx169_2, hx169_3, hl169_1, hi169_1⟩ := at_T27 HR0.out 0 p169 q169
                cases e169
                have qi169 : (0 < l0.length) = True := eq_true (by omega)
                (try rw [show ((0 : Int)).toNat = 0 from rfl] at hx169_0)
                (try rw [show 0 * 4 = 0 from rfl] at hx169_0)
                (try rw [Addr.add_zero'] at hx169_0)
                (try rw [show ((0 : Int)).toNat = 0 from rfl] at hx169_1)
                (try rw [show 0 * 4 = 0 from rfl] at hx169_1)
                (try rw [Addr.add_zero'] at hx169_1)
                (try rw [show ((0 : Int)).toNat = 0 from rfl] at hx169_2)
                (try rw [show 0 * 4 = 0 from rfl] at hx169_2)
                (try rw [Addr.add_zero'] at hx169_2)
                (try rw [show ((0 : Int)).toNat = 0 from rfl] at hx169_3)
                (try rw [show 0 * 4 = 0 from rfl] at hx169_3)
                (try rw [Addr.add_zero'] at hx169_3)
                have HR169_1 := Aside0.mk hi169_1
                have HC169_1 := Aside0.mk hl169_1
                clear hi169_1 hl169_1
                replace p169 := eq_true p169
                replace q169 := eq_true q169
                go_wp2
                repeat (go_quiet (fail); try go_wp2)
                go_ret
                exact ⟨by first | rfl | (simp; done) | (simp [*]; done), by repeat (first | exact Drawn0.refl _ | apply Drawn0.step)⟩
            · rw [if_neg c10] at H
              exact absurd H (by simp)

end Go.Proofs.Ytljpfppkpjodiaa.PFnExactIndexTrue
