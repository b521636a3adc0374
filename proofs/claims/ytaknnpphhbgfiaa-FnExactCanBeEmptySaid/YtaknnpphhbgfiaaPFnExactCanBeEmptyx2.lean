/- Functions of the given program as plain Lean functions, each with a proof that the Go code answers just so; made by a program of this session out of the translation. Conditions: those that each theorem names. -/
import Derived.Test.YtaknnpphhbgfiaaPFnExactCanBeEmptyx0
import Derived.Test.YtaknnpphhbgfiaaPFnExactCanBeEmptyx1
namespace Go.Proofs.Ytaknnpphhbgfiaa.PFnExactCanBeEmpty
open Go.RowKit Go.Proofs.YtaknnpphhbgfiaaW.PrintWords Go.Proofs.YtaknnpphhbgfiaaW.PrintLast Go.Proofs.YtaknnpphhbgfiaaW.PrintMore
attribute [local go_sem] max2_int min2_int max_two min_two max_three min_three max_four min_four   -- for this text's walks alone
set_option linter.unusedVariables false
set_option linter.unusedSimpArgs false

/-! ### spec_l5Form: function 51 -/
def spec_l5Form.j0 : Nat → List (S48) → Bool → Option (Bool)
  | 0, _, _ => none
  | k + 1, x0, x35 => if x35 = true then (some false) else (if 0 < (x0.length : Int) then ((spec_l5Two.f ((rd_T48 x0 0).f0)).bind fun t134 => (if t134 = true then ((spec_l5Two.f ((rd_T48 x0 0).f0)).bind fun t136 => (if t136 = true then (some true) else ((spec_l5One.f ((rd_T48 x0 0).f0)).bind fun t138 => (if t138 = true then (some true) else (some (((rd_T48 x0 0).f3) == 0)))))) else (if ((rd_T48 x0 0).f4) = 0 then ((spec_l5Two.f ((rd_T48 x0 0).f0)).bind fun t142 => (if t142 = true then (some true) else ((spec_l5One.f ((rd_T48 x0 0).f0)).bind fun t144 => (if t144 = true then (some true) else (some (((rd_T48 x0 0).f3) == 0)))))) else (some false)))) else (none))
def spec_l5Form.f (k : Nat) (l0 : List (S48)) : Option (Bool) := if 0 < (l0.length : Int) then ((spec_l1In.f ((rd_T48 l0 0).f0) 1 12).bind fun t124 => (if t124 = true then (if ((rd_T48 l0 0).f0) = 2 then ((spec_l5Has.f ((rd_T48 l0 0).f0)).bind fun t127 => (if t127 = true then (spec_l5Form.j0 k l0 false) else (spec_l5Form.j0 k l0 (((rd_T48 l0 0).f2).toList != ([] : List UInt8))))) else (if ((rd_T48 l0 0).f1) = 0 then ((spec_l5Has.f ((rd_T48 l0 0).f0)).bind fun t131 => (if t131 = true then (spec_l5Form.j0 k l0 false) else (spec_l5Form.j0 k l0 (((rd_T48 l0 0).f2).toList != ([] : List UInt8))))) else (spec_l5Form.j0 k l0 true))) else (some false))) else (none)
theorem spec_l5Form.mono_l : ∀ k, (∀ y0 y1, LeO (spec_l5Form.j0 k y0 y1) (spec_l5Form.j0 (k + 1) y0 y1))
  | 0 => fun _ _ r h => by simp [spec_l5Form.j0] at h
  | k + 1 => by
    have ih0 := spec_l5Form.mono_l k
    · intro y0 y1
      unfold spec_l5Form.j0
      repeat' first
      | (with_reducible exact ih0 _ _)
      | (with_reducible exact LeO.refl _)
      | (with_reducible exact LeO.none _)
      | (with_reducible refine LeO.ite ?_ ?_)
      | (with_reducible refine LeO.bind ?_ (fun _ => ?_))
      | exact ih0 _ _
      | exact LeO.none _
      | refine LeO.ite ?_ ?_
      | refine LeO.bind ?_ (fun _ => ?_)
theorem spec_l5Form.mono : ∀ a0 k, LeO (spec_l5Form.f k a0) (spec_l5Form.f (k + 1) a0) := by
  intro a0 k
  have ih0 := spec_l5Form.mono_l k
  unfold spec_l5Form.f
  repeat' first
      | (with_reducible exact ih0 _ _)
      | (with_reducible exact LeO.refl _)
      | (with_reducible exact LeO.none _)
      | (with_reducible refine LeO.ite ?_ ?_)
      | (with_reducible refine LeO.bind ?_ (fun _ => ?_))
      | exact ih0 _ _
      | exact LeO.none _
      | refine LeO.ite ?_ ?_
      | refine LeO.bind ?_ (fun _ => ?_)
set_option maxHeartbeats 8000000 in
set_option maxRecDepth 100000 in
theorem spec_l5Form.calls (k : Nat) (A0 : Option Addr) (c0 : Nat) (l0 : List (S48)) (r : Bool) (w : World) (hr0 : Kd.C k48 w A0 l0.length l0) (hc0 : l0.length ≤ c0) (h : spec_l5Form.f k l0 = some r) :
    Calls Try.prog 51 #[.pointer A0] w fun e w' => e = .returned (.bool r) ∧ Drawn0 w w' := by
  have HR0 := Aside0.mk hr0
  have HC0 := Aside0.mk hc0
  clear hr0 hc0
  have H : (if 0 < (l0.length : Int) then ((spec_l1In.f ((rd_T48 l0 0).f0) 1 12).bind fun t124 => (if t124 = true then (if ((rd_T48 l0 0).f0) = 2 then ((spec_l5Has.f ((rd_T48 l0 0).f0)).bind fun t127 => (if t127 = true then (spec_l5Form.j0 k l0 false) else (spec_l5Form.j0 k l0 (((rd_T48 l0 0).f2).toList != ([] : List UInt8))))) else (if ((rd_T48 l0 0).f1) = 0 then ((spec_l5Has.f ((rd_T48 l0 0).f0)).bind fun t131 => (if t131 = true then (spec_l5Form.j0 k l0 false) else (spec_l5Form.j0 k l0 (((rd_T48 l0 0).f2).toList != ([] : List UInt8))))) else (spec_l5Form.j0 k l0 true))) else (some false))) else (none)) = some r := h
  clear h
  by_cases c2 : 0 < (l0.length : Int)
  · rw [if_pos c2] at H
    have c2b0 : decide (0 < (l0.length : Int)) = true := decide_eq_true c2
    have c2b1 : decide (0 < l0.length) = true := decide_eq_true (by omega)
    clear c2
    replace H := Option.bind_eq_some_iff.mp H
    obtain ⟨t124, A30, H⟩ := H
    replace H : (if t124 = true then (if ((rd_T48 l0 0).f0) = 2 then ((spec_l5Has.f ((rd_T48 l0 0).f0)).bind fun t127 => (if t127 = true then (spec_l5Form.j0 k l0 false) else (spec_l5Form.j0 k l0 (((rd_T48 l0 0).f2).toList != ([] : List UInt8))))) else (if ((rd_T48 l0 0).f1) = 0 then ((spec_l5Has.f ((rd_T48 l0 0).f0)).bind fun t131 => (if t131 = true then (spec_l5Form.j0 k l0 false) else (spec_l5Form.j0 k l0 (((rd_T48 l0 0).f2).toList != ([] : List UInt8))))) else (spec_l5Form.j0 k l0 true))) else (some false)) = some r := H
    have A3 := Aside0.mk A30
    clear A30
    by_cases c4 : t124 = true
    · subst c4
      have H1 : (if ((rd_T48 l0 0).f0) = 2 then ((spec_l5Has.f ((rd_T48 l0 0).f0)).bind fun t127 => (if t127 = true then (spec_l5Form.j0 k l0 false) else (spec_l5Form.j0 k l0 (((rd_T48 l0 0).f2).toList != ([] : List UInt8))))) else (if ((rd_T48 l0 0).f1) = 0 then ((spec_l5Has.f ((rd_T48 l0 0).f0)).bind fun t131 => (if t131 = true then (spec_l5Form.j0 k l0 false) else (spec_l5Form.j0 k l0 (((rd_T48 l0 0).f2).toList != ([] : List UInt8))))) else (spec_l5Form.j0 k l0 true))) = some r := by rw [if_pos rfl] at H; exact H
      clear H
      have H := H1
      clear H1
      have HC5 := Aside0.mk H
      clear H
      have p123 : 0 ≤ (0 : Int) := (by omega)
      have q123 : 0 < (l0.length : Int) := of_decide_eq_true (by first | (with_reducible assumption) | assumption)
      obtain ⟨ad123, e123, hx123_0, hx123_1, hx123_2, hx123_3, hx123_4⟩ := at_T48 HR0.out 0 p123 q123
      cases e123
      have qi123 : (0 < l0.length) = True := eq_true (by omega)
      (try rw [show ((0 : Int)).toNat = 0 from rfl] at hx123_0)
      (try rw [show 0 * 5 = 0 from rfl] at hx123_0)
      (try rw [Addr.add_zero'] at hx123_0)
      (try rw [show ((0 : Int)).toNat = 0 from rfl] at hx123_1)
      (try rw [show 0 * 5 = 0 from rfl] at hx123_1)
      (try rw [Addr.add_zero'] at hx123_1)
      (try rw [show ((0 : Int)).toNat = 0 from rfl] at hx123_2)
      (try rw [show 0 * 5 = 0 from rfl] at hx123_2)
      (try rw [Addr.add_zero'] at hx123_2)
      (try rw [show ((0 : Int)).toNat = 0 from rfl] at hx123_3)
      (try rw [show 0 * 5 = 0 from rfl] at hx123_3)
      (try rw [Addr.add_zero'] at hx123_3)
      (try rw [show ((0 : Int)).toNat = 0 from rfl] at hx123_4)
      (try rw [show 0 * 5 = 0 from rfl] at hx123_4)
      (try rw [Addr.add_zero'] at hx123_4)
      replace p123 := eq_true p123
      replace q123 := eq_true q123
      go_enter Try.func51, Try.ntmps51
      go_upto_region 3 with (first | ((with_reducible refine gate_callee (f := 52) rfl ?_); refine goesL_ (some 7) rfl rfl Try.func52 (by kernel_rfl) rfl #[.int .i64 ((rd_T48 l0 0).f0), .int .i64 1, .int .i64 12] rfl (by (try simp only [List.map_toArray, List.map_cons, List.map_nil]); first | done | rfl | (simp only [List.length_drop, List.length_take]; rfl)) ?_; (with_reducible refine (spec_l1In.calls ((rd_T48 l0 0).f0) 1 12 true _ A3.out).mono ?_); rintro e w' ⟨rfl, ⟨nd, rfl⟩⟩; refine ⟨_, rfl, ?_⟩))
      (try simp only [Act.put, List.setIfInBounds_toArray, List.set_cons_zero, List.set_cons_succ])
      go_cut [35] (fun v35 wc => ∃ (kq : Nat) (x35_4 : Bool), v35 = .bool x35_4 ∧ Aside0 (spec_l5Form.j0 kq l0 x35_4 = some r) ∧ Aside0 (kq ≤ k) ∧ Drawn0 w wc)
      case first =>
        have H := HC5.out
        clear HC5
        by_cases c6 : ((rd_T48 l0 0).f0) = 2
        · rw [if_pos c6] at H
          have c6b0 : (((rd_T48 l0 0).f0) == 2) = true := beq_iff_eq.mpr c6
          have c6b1 : (((rd_T48 l0 0).f0) != 2) = false := bne_eq_false_iff_eq.mpr c6
          clear c6
          (first | rw [c6b0] | (simp only [i64_w, i32_w]; rw [c6b0]) | skip)
          replace H := Option.bind_eq_some_iff.mp H
          obtain ⟨t127, A70, H⟩ := H
          replace H : (if t127 = true then (spec_l5Form.j0 k l0 false) else (spec_l5Form.j0 k l0 (((rd_T48 l0 0).f2).toList != ([] : List UInt8)))) = some r := H
          have A7 := Aside0.mk A70
          clear A70
          by_cases c8 : t127 = true
          · subst c8
            have H1 : (spec_l5Form.j0 k l0 false) = some r := by rw [if_pos rfl] at H; exact H
            clear H
            have H := H1
            clear H1
            have H' := Aside0.mk H
            clear H
            have p125 : 0 ≤ (0 : Int) := (by omega)
            have q125 : 0 < (l0.length : Int) := of_decide_eq_true (by first | (with_reducible assumption) | assumption)
            obtain ⟨ad125, e125, hx125_0, hx125_1, hx125_2, hx125_3, hx125_4⟩ := at_T48 HR0.out 0 p125 q125
            obtain rfl : ad123 = ad125 := (by injection e125)
            have qi125 : (0 < l0.length) = True := eq_true (by omega)
            (try rw [show ((0 : Int)).toNat = 0 from rfl] at hx125_0)
            (try rw [show 0 * 5 = 0 from rfl] at hx125_0)
            (try rw [Addr.add_zero'] at hx125_0)
            (try rw [show ((0 : Int)).toNat = 0 from rfl] at hx125_1)
            (try rw [show 0 * 5 = 0 from rfl] at hx125_1)
            (try rw [Addr.add_zero'] at hx125_1)
            (try rw [show ((0 : Int)).toNat = 0 from rfl] at hx125_2)
            (try rw [show 0 * 5 = 0 from rfl] at hx125_2)
            (try rw [Addr.add_zero'] at hx125_2)
            (try rw [show ((0 : Int)).toNat = 0 from rfl] at hx125_3)
            (try rw [show 0 * 5 = 0 from rfl] at hx125_3)
            (try rw [Addr.add_zero'] at hx125_3)
            (try rw [show ((0 : Int)).toNat = 0 from rfl] at hx125_4)
            (try rw [show 0 * 5 = 0 from rfl] at hx125_4)
            (try rw [Addr.add_zero'] at hx125_4)
            replace p125 := eq_true p125
            replace q125 := eq_true q125
            have p126 : 0 ≤ (0 : Int) := (by omega)
            have q126 : 0 < (l0.length : Int) := of_decide_eq_true (by first | (with_reducible assumption) | assumption)
            obtain ⟨ad126, e126, hx126_0, hx126_1, hx126_2, hx126_3, hx126_4⟩ := at_T48 HR0.out 0 p126 q126
            obtain rfl : ad123 = ad126 := (by injection e126)
            have qi126 : (0 < l0.length) = True := eq_true (by omega)
            (try rw [show ((0 : Int)).toNat = 0 from rfl] at hx126_0)
            (try rw [show 0 * 5 = 0 from rfl] at hx126_0)
            (try rw [Addr.add_zero'] at hx126_0)
            (try rw [show ((0 : Int)).toNat = 0 from rfl] at hx126_1)
            (try rw [show 0 * 5 = 0 from rfl] at hx126_1)
            (try rw [Addr.add_zero'] at hx126_1)
            (try rw [show ((0 : Int)).toNat = 0 from rfl] at hx126_2)
            (try rw [show 0 * 5 = 0 from rfl] at hx126_2)
            (try rw [Addr.add_zero'] at hx126_2)
            (try rw [show ((0 : Int)).toNat = 0 from rfl] at hx126_3)
            (try rw [show 0 * 5 = 0 from rfl] at hx126_3)
            (try rw [Addr.add_zero'] at hx126_3)
            (try rw [show ((0 : Int)).toNat = 0 from rfl] at hx126_4)
            (try rw [show 0 * 5 = 0 from rfl] at hx126_4)
            (try rw [Addr.add_zero'] at hx126_4)
            replace p126 := eq_true p126
            replace q126 := eq_true q126
            go_wp2_with (first | (go_at_call 53; (with_reducible refine (spec_l5Has.calls ((rd_T48 l0 0).f0) true _ A7.out).mono ?_); rintro e w' ⟨rfl, ⟨nd, rfl⟩⟩))
            go_meet
            case rel => exact ⟨_, (false), (by first | rfl | (simp; done) | (simp [*]; done)), H', ⟨by first | omega | exact Nat.le_refl _⟩, by repeat (first | exact Drawn0.refl _ | apply Drawn0.step)⟩
          · replace c8 := Bool.eq_false_iff.mpr c8
            subst c8
            have H1 : (spec_l5Form.j0 k l0 (((rd_T48 l0 0).f2).toList != ([] : List UInt8))) = some r := by rw [if_neg (show ¬ (false = true) by decide)] at H; exact H
            clear H
            have H := H1
            clear H1
            have H' := Aside0.mk H
            clear H
            have p125 : 0 ≤ (0 : Int) := (by omega)
            have q125 : 0 < (l0.length : Int) := of_decide_eq_true (by first | (with_reducible assumption) | assumption)
            obtain ⟨ad125, e125, hx125_0, hx125_1, hx125_2, hx125_3, hx125_4⟩ := at_T48 HR0.out 0 p125 q125
            obtain rfl : ad123 = ad125 := (by injection e125)
            have qi125 : (0 < l0.length) = True := eq_true (by omega)
            (try rw [show ((0 : Int)).toNat = 0 from rfl] at hx125_0)
            (try rw [show 0 * 5 = 0 from rfl] at hx125_0)
            (try rw [Addr.add_zero'] at hx125_0)
            (try rw [show ((0 : Int)).toNat = 0 from rfl] at hx125_1)
            (try rw [show 0 * 5 = 0 from rfl] at hx125_1)
            (try rw [Addr.add_zero'] at hx125_1)
            (try rw [show ((0 : Int)).toNat = 0 from rfl] at hx125_2)
            (try rw [show 0 * 5 = 0 from rfl] at hx125_2)
            (try rw [Addr.add_zero'] at hx125_2)
            (try rw [show ((0 : Int)).toNat = 0 from rfl] at hx125_3)
            (try rw [show 0 * 5 = 0 from rfl] at hx125_3)
            (try rw [Addr.add_zero'] at hx125_3)
            (try rw [show ((0 : Int)).toNat = 0 from rfl] at hx125_4)
            (try rw [show 0 * 5 = 0 from rfl] at hx125_4)
            (try rw [Addr.add_zero'] at hx125_4)
            replace p125 := eq_true p125
            replace q125 := eq_true q125
            have p126 : 0 ≤ (0 : Int) := (by omega)
            have q126 : 0 < (l0.length : Int) := of_decide_eq_true (by first | (with_reducible assumption) | assumption)
            obtain ⟨ad126, e126, hx126_0, hx126_1, hx126_2, hx126_3, hx126_4⟩ := at_T48 HR0.out 0 p126 q126
            obtain rfl : ad123 = ad126 := (by injection e126)
            have qi126 : (0 < l0.length) = True := eq_true (by omega)
            (try rw [show ((0 : Int)).toNat = 0 from rfl] at hx126_0)
            (try rw [show 0 * 5 = 0 from rfl] at hx126_0)
            (try rw [Addr.add_zero'] at hx126_0)
            (try rw [show ((0 : Int)).toNat = 0 from rfl] at hx126_1)
            (try rw [show 0 * 5 = 0 from rfl] at hx126_1)
            (try rw [Addr.add_zero'] at hx126_1)
            (try rw [show ((0 : Int)).toNat = 0 from rfl] at hx126_2)
            (try rw [show 0 * 5 = 0 from rfl] at hx126_2)
            (try rw [Addr.add_zero'] at hx126_2)
            (try rw [show ((0 : Int)).toNat = 0 from rfl] at hx126_3)
            (try rw [show 0 * 5 = 0 from rfl] at hx126_3)
            (try rw [Addr.add_zero'] at hx126_3)
            (try rw [show ((0 : Int)).toNat = 0 from rfl] at hx126_4)
            (try rw [show 0 * 5 = 0 from rfl] at hx126_4)
            (try rw [Addr.add_zero'] at hx126_4)
            replace p126 := eq_true p126
            replace q126 := eq_true q126
            go_wp2_with (first | (go_at_call 53; (with_reducible refine (spec_l5Has.calls ((rd_T48 l0 0).f0) false _ A7.out).mono ?_); rintro e w' ⟨rfl, ⟨nd, rfl⟩⟩; have p128 : 0 ≤ (0 : Int) := (by omega); have q128 : 0 < (l0.length : Int) := of_decide_eq_true (by first | (with_reducible assumption) | assumption); obtain ⟨ad128, e128, hx128_0, hx128_1, hx128_2, hx128_3, hx128_4⟩ := at_T48 HR0.out 0 p128 q128; obtain rfl : ad123 = ad128 := (by injection e128); have qi128 : (0 < l0.length) = True := eq_true (by omega); (try rw [show ((0 : Int)).toNat = 0 from rfl] at hx128_0); (try rw [show 0 * 5 = 0 from rfl] at hx128_0); (try rw [Addr.add_zero'] at hx128_0); (try rw [show ((0 : Int)).toNat = 0 from rfl] at hx128_1); (try rw [show 0 * 5 = 0 from rfl] at hx128_1); (try rw [Addr.add_zero'] at hx128_1); (try rw [show ((0 : Int)).toNat = 0 from rfl] at hx128_2); (try rw [show 0 * 5 = 0 from rfl] at hx128_2); (try rw [Addr.add_zero'] at hx128_2); (try rw [show ((0 : Int)).toNat = 0 from rfl] at hx128_3); (try rw [show 0 * 5 = 0 from rfl] at hx128_3); (try rw [Addr.add_zero'] at hx128_3); (try rw [show ((0 : Int)).toNat = 0 from rfl] at hx128_4); (try rw [show 0 * 5 = 0 from rfl] at hx128_4); (try rw [Addr.add_zero'] at hx128_4); replace p128 := eq_true p128; replace q128 := eq_true q128))
            go_meet
            case rel => exact ⟨_, ((((rd_T48 l0 0).f2).toList != ([] : List UInt8))), (by first | rfl | (simp; done) | (simp [bne]; done) | (simp [*]; done)), H', ⟨by first | omega | exact Nat.le_refl _⟩, by repeat (first | exact Drawn0.refl _ | apply Drawn0.step)⟩
        · rw [if_neg c6] at H
          have c6b0 : (((rd_T48 l0 0).f0) == 2) = false := beq_eq_false_iff_ne.mpr c6
          have c6b1 : (((rd_T48 l0 0).f0) != 2) = true := bne_iff_ne.mpr c6
          (first | rw [c6b0] | (simp only [i64_w, i32_w]; rw [c6b0]) | skip)
          by_cases c9 : ((rd_T48 l0 0).f1) = 0
          · rw [if_pos c9] at H
            have c9b0 : (((rd_T48 l0 0).f1) == 0) = true := beq_iff_eq.mpr c9
            have c9b1 : (((rd_T48 l0 0).f1) != 0) = false := bne_eq_false_iff_eq.mpr c9
            clear c9
            replace H := Option.bind_eq_some_iff.mp H
            obtain ⟨t131, A100, H⟩ := H
            replace H : (if t131 = true then (spec_l5Form.j0 k l0 false) else (spec_l5Form.j0 k l0 (((rd_T48 l0 0).f2).toList != ([] : List UInt8)))) = some r := H
            have A10 := Aside0.mk A100
            clear A100
            by_cases c11 : t131 = true
            · subst c11
              have H1 : (spec_l5Form.j0 k l0 false) = some r := by rw [if_pos rfl] at H; exact H
              clear H
              have H := H1
              clear H1
              have H' := Aside0.mk H
              clear H
              have p125 : 0 ≤ (0 : Int) := (by omega)
              have q125 : 0 < (l0.length : Int) := of_decide_eq_true (by first | (with_reducible assumption) | assumption)
              obtain ⟨ad125, e125, hx125_0, hx125_1, hx125_2, hx125_3, hx125_4⟩ := at_T48 HR0.out 0 p125 q125
              obtain rfl : ad123 = ad125 := (by injection e125)
              have qi125 : (0 < l0.length) = True := eq_true (by omega)
              (try rw [show ((0 : Int)).toNat = 0 from rfl] at hx125_0)
              (try rw [show 0 * 5 = 0 from rfl] at hx125_0)
              (try rw [Addr.add_zero'] at hx125_0)
              (try rw [show ((0 : Int)).toNat = 0 from rfl] at hx125_1)
              (try rw [show 0 * 5 = 0 from rfl] at hx125_1)
              (try rw [Addr.add_zero'] at hx125_1)
              (try rw [show ((0 : Int)).toNat = 0 from rfl] at hx125_2)
              (try rw [show 0 * 5 = 0 from rfl] at hx125_2)
              (try rw [Addr.add_zero'] at hx125_2)
              (try rw [show ((0 : Int)).toNat = 0 from rfl] at hx125_3)
              (try rw [show 0 * 5 = 0 from rfl] at hx125_3)
              (try rw [Addr.add_zero'] at hx125_3)
              (try rw [show ((0 : Int)).toNat = 0 from rfl] at hx125_4)
              (try rw [show 0 * 5 = 0 from rfl] at hx125_4)
              (try rw [Addr.add_zero'] at hx125_4)
              replace p125 := eq_true p125
              replace q125 := eq_true q125
              have p129 : 0 ≤ (0 : Int) := (by omega)
              have q129 : 0 < (l0.length : Int) := of_decide_eq_true (by first | (with_reducible assumption) | assumption)
              obtain ⟨ad129, e129, hx129_0, hx129_1, hx129_2, hx129_3, hx129_4⟩ := at_T48 HR0.out 0 p129 q129
              obtain rfl : ad123 = ad129 := (by injection e129)
              have qi129 : (0 < l0.length) = True := eq_true (by omega)
              (try rw [show ((0 : Int)).toNat = 0 from rfl] at hx129_0)
              (try rw [show 0 * 5 = 0 from rfl] at hx129_0)
              (try rw [Addr.add_zero'] at hx129_0)
              (try rw [show ((0 : Int)).toNat = 0 from rfl] at hx129_1)
              (try rw [show 0 * 5 = 0 from rfl] at hx129_1)
              (try rw [Addr.add_zero'] at hx129_1)
              (try rw [show ((0 : Int)).toNat = 0 from rfl] at hx129_2)
              (try rw [show 0 * 5 = 0 from rfl] at hx129_2)
              (try rw [Addr.add_zero'] at hx129_2)
              (try rw [show ((0 : Int)).toNat = 0 from rfl] at hx129_3)
              (try rw [show 0 * 5 = 0 from rfl] at hx129_3)
              (try rw [Addr.add_zero'] at hx129_3)
              (try rw [show ((0 : Int)).toNat = 0 from rfl] at hx129_4)
              (try rw [show 0 * 5 = 0 from rfl] at hx129_4)
              (try rw [Addr.add_zero'] at hx129_4)
              replace p129 := eq_true p129
              replace q129 := eq_true q129
              have p130 : 0 ≤ (0 : Int) := (by omega)
              have q130 : 0 < (l0.length : Int) := of_decide_eq_true (by first | (with_reducible assumption) | assumption)
              obtain ⟨ad130, e130, hx130_0, hx130_1, hx130_2, hx130_3, hx130_4⟩ := at_T48 HR0.out 0 p130 q130
              obtain rfl : ad123 = ad130 := (by injection e130)
              have qi130 : (0 < l0.length) = True := eq_true (by omega)
              (try rw [show ((0 : Int)).toNat = 0 from rfl] at hx130_0)
              (try rw [show 0 * 5 = 0 from rfl] at hx130_0)
              (try rw [Addr.add_zero'] at hx130_0)
              (try rw [show ((0 : Int)).toNat = 0 from rfl] at hx130_1)
              (try rw [show 0 * 5 = 0 from rfl] at hx130_1)
              (try rw [Addr.add_zero'] at hx130_1)
              (try rw [show ((0 : Int)).toNat = 0 from rfl] at hx130_2)
              (try rw [show 0 * 5 = 0 from rfl] at hx130_2)
              (try rw [Addr.add_zero'] at hx130_2)
              (try rw [show ((0 : Int)).toNat = 0 from rfl] at hx130_3)
              (try rw [show 0 * 5 = 0 from rfl] at hx130_3)
              (try rw [Addr.add_zero'] at hx130_3)
              (try rw [show ((0 : Int)).toNat = 0 from rfl] at hx130_4)
              (try rw [show 0 * 5 = 0 from rfl] at hx130_4)
              (try rw [Addr.add_zero'] at hx130_4)
              replace p130 := eq_true p130
              replace q130 := eq_true q130
              go_wp2_with (first | (go_at_call 53; (with_reducible refine (spec_l5Has.calls ((rd_T48 l0 0).f0) true _ A10.out).mono ?_); rintro e w' ⟨rfl, ⟨nd, rfl⟩⟩))
              go_meet
              case rel => exact ⟨_, (false), (by first | rfl | (simp; done) | (simp [*]; done)), H', ⟨by first | omega | exact Nat.le_refl _⟩, by repeat (first | exact Drawn0.refl _ | apply Drawn0.step)⟩
            · replace c11 := Bool.eq_false_iff.mpr c11
              subst c11
              have H1 : (spec_l5Form.j0 k l0 (((rd_T48 l0 0).f2).toList != ([] : List UInt8))) = some r := by rw [if_neg (show ¬ (false = true) by decide)] at H; exact H
              clear H
              have H := H1
              clear H1
              have H' := Aside0.mk H
              clear H
              have p125 : 0 ≤ (0 : Int) := (by omega)
              have q125 : 0 < (l0.length : Int) := of_decide_eq_true (by first | (with_reducible assumption) | assumption)
              obtain ⟨ad125, e125, hx125_0, hx125_1, hx125_2, hx125_3, hx125_4⟩ := at_T48 HR0.out 0 p125 q125
              obtain rfl : ad123 = ad125 := (by injection e125)
              have qi125 : (0 < l0.length) = True := eq_true (by omega)
              (try rw [show ((0 : Int)).toNat = 0 from rfl] at hx125_0)
              (try rw [show 0 * 5 = 0 from rfl] at hx125_0)
              (try rw [Addr.add_zero'] at hx125_0)
              (try rw [show ((0 : Int)).toNat = 0 from rfl] at hx125_1)
              (try rw [show 0 * 5 = 0 from rfl] at hx125_1)
              (try rw [Addr.add_zero'] at hx125_1)
              (try rw [show ((0 : Int)).toNat = 0 from rfl] at hx125_2)
              (try rw [show 0 * 5 = 0 from rfl] at hx125_2)
              (try rw [Addr.add_zero'] at hx125_2)
              (try rw [show ((0 : Int)).toNat = 0 from rfl] at hx125_3)
              (try rw [show 0 * 5 = 0 from rfl] at hx125_3)
              (try rw [Addr.add_zero'] at hx125_3)
              (try rw [show ((0 : Int)).toNat = 0 from rfl] at hx125_4)
              (try rw [show 0 * 5 = 0 from rfl] at hx125_4)
              (try rw [Addr.add_zero'] at hx125_4)
              replace p125 := eq_true p125
              replace q125 := eq_true q125
              have p129 : 0 ≤ (0 : Int) := (by omega)
              have q129 : 0 < (l0.length : Int) := of_decide_eq_true (by first | (with_reducible assumption) | assumption)
              obtain ⟨ad129, e129, hx129_0, hx129_1, hx129_2, hx129_3, hx129_4⟩ := at_T48 HR0.out 0 p129 q129
              obtain rfl : ad123 = ad129 := (by injection e129)
              have qi129 : (0 < l0.length) = True := eq_true (by omega)
              (try rw [show ((0 : Int)).toNat = 0 from rfl] at hx129_0)
              (try rw [show 0 * 5 = 0 from rfl] at hx129_0)
              (try rw [Addr.add_zero'] at hx129_0)
              (try rw [show ((0 : Int)).toNat = 0 from rfl] at hx129_1)
              (try rw [show 0 * 5 = 0 from rfl] at hx129_1)
              (try rw [Addr.add_zero'] at hx129_1)
              (try rw [show ((0 : Int)).toNat = 0 from rfl] at hx129_2)
              (try rw [show 0 * 5 = 0 from rfl] at hx129_2)
              (try rw [Addr.add_zero'] at hx129_2)
              (try rw [show ((0 : Int)).toNat = 0 from rfl] at hx129_3)
              (try rw [show 0 * 5 = 0 from rfl] at hx129_3)
              (try rw [Addr.add_zero'] at hx129_3)
              (try rw [show ((0 : Int)).toNat = 0 from rfl] at hx129_4)
              (try rw [show 0 * 5 = 0 from rfl] at hx129_4)
              (try rw [Addr.add_zero'] at hx129_4)
              replace p129 := eq_true p129
              replace q129 := eq_true q129
              have p130 : 0 ≤ (0 : Int) := (by omega)
              have q130 : 0 < (l0.length : Int) := of_decide_eq_true (by first | (with_reducible assumption) | assumption)
              obtain ⟨ad130, e130, hx130_0, hx130_1, hx130_2, hx130_3, hx130_4⟩ := at_T48 HR0.out 0 p130 q130
              obtain rfl : ad123 = ad130 := (by injection e130)
              have qi130 : (0 < l0.length) = True := eq_true (by omega)
              (try rw [show ((0 : Int)).toNat = 0 from rfl] at hx130_0)
              (try rw [show 0 * 5 = 0 from rfl] at hx130_0)
              (try rw [Addr.add_zero'] at hx130_0)
              (try rw [show ((0 : Int)).toNat = 0 from rfl] at hx130_1)
              (try rw [show 0 * 5 = 0 from rfl] at hx130_1)
              (try rw [Addr.add_zero'] at hx130_1)
              (try rw [show ((0 : Int)).toNat = 0 from rfl] at hx130_2)
              (try rw [show 0 * 5 = 0 from rfl] at hx130_2)
              (try rw [Addr.add_zero'] at hx130_2)
              (try rw [show ((0 : Int)).toNat = 0 from rfl] at hx130_3)
              (try rw [show 0 * 5 = 0 from rfl] at hx130_3)
              (try rw [Addr.add_zero'] at hx130_3)
              (try rw [show ((0 : Int)).toNat = 0 from rfl] at hx130_4)
              (try rw [show 0 * 5 = 0 from rfl] at hx130_4)
              (try rw [Addr.add_zero'] at hx130_4)
              replace p130 := eq_true p130
              replace q130 := eq_true q130
              go_wp2_with (first | (go_at_call 53; (with_reducible refine (spec_l5Has.calls ((rd_T48 l0 0).f0) false _ A10.out).mono ?_); rintro e w' ⟨rfl, ⟨nd, rfl⟩⟩; have p132 : 0 ≤ (0 : Int) := (by omega); have q132 : 0 < (l0.length : Int) := of_decide_eq_true (by first | (with_reducible assumption) | assumption); obtain ⟨ad132, e132, hx132_0, hx132_1, hx132_2, hx132_3, hx132_4⟩ := at_T48 HR0.out 0 p132 q132; obtain rfl : ad123 = ad132 := (by injection e132); have qi132 : (0 < l0.length) = True := eq_true (by omega); (try rw [show ((0 : Int)).toNat = 0 from rfl] at hx132_0); (try rw [show 0 * 5 = 0 from rfl] at hx132_0); (try rw [Addr.add_zero'] at hx132_0); (try rw [show ((0 : Int)).toNat = 0 from rfl] at hx132_1); (try rw [show 0 * 5 = 0 from rfl] at hx132_1); (try rw [Addr.add_zero'] at hx132_1); (try rw [show ((0 : Int)).toNat = 0 from rfl] at hx132_2); (try rw [show 0 * 5 = 0 from rfl] at hx132_2); (try rw [Addr.add_zero'] at hx132_2); (try rw [show ((0 : Int)).toNat = 0 from rfl] at hx132_3); (try rw [show 0 * 5 = 0 from rfl] at hx132_3); (try rw [Addr.add_zero'] at hx132_3); (try rw [show ((0 : Int)).toNat = 0 from rfl] at hx132_4); (try rw [show 0 * 5 = 0 from rfl] at hx132_4); (try rw [Addr.add_zero'] at hx132_4); replace p132 := eq_true p132; replace q132 := eq_true q132))
              go_meet
              case rel => exact ⟨_, ((((rd_T48 l0 0).f2).toList != ([] : List UInt8))), (by first | rfl | (simp; done) | (simp [bne]; done) | (simp [*]; done)), H', ⟨by first | omega | exact Nat.le_refl _⟩, by repeat (first | exact Drawn0.refl _ | apply Drawn0.step)⟩
          · rw [if_neg c9] at H
            have c9b0 : (((rd_T48 l0 0).f1) == 0) = false := beq_eq_false_iff_ne.mpr c9
            have c9b1 : (((rd_T48 l0 0).f1) != 0) = true := bne_iff_ne.mpr c9
            have H' := Aside0.mk H
            clear H
            have p125 : 0 ≤ (0 : Int) := (by omega)
            have q125 : 0 < (l0.length : Int) := of_decide_eq_true (by first | (with_reducible assumption) | assumption)
            obtain ⟨ad125, e125, hx125_0, hx125_1, hx125_2, hx125_3, hx125_4⟩ := at_T48 HR0.out 0 p125 q125
            obtain rfl : ad123 = ad125 := (by injection e125)
            have qi125 : (0 < l0.length) = True := eq_true (by omega)
            (try rw [show ((0 : Int)).toNat = 0 from rfl] at hx125_0)
            (try rw [show 0 * 5 = 0 from rfl] at hx125_0)
            (try rw [Addr.add_zero'] at hx125_0)
            (try rw [show ((0 : Int)).toNat = 0 from rfl] at hx125_1)
            (try rw [show 0 * 5 = 0 from rfl] at hx125_1)
            (try rw [Addr.add_zero'] at hx125_1)
            (try rw [show ((0 : Int)).toNat = 0 from rfl] at hx125_2)
            (try rw [show 0 * 5 = 0 from rfl] at hx125_2)
            (try rw [Addr.add_zero'] at hx125_2)
            (try rw [show ((0 : Int)).toNat = 0 from rfl] at hx125_3)
            (try rw [show 0 * 5 = 0 from rfl] at hx125_3)
            (try rw [Addr.add_zero'] at hx125_3)
            (try rw [show ((0 : Int)).toNat = 0 from rfl] at hx125_4)
            (try rw [show 0 * 5 = 0 from rfl] at hx125_4)
            (try rw [Addr.add_zero'] at hx125_4)
            replace p125 := eq_true p125
            replace q125 := eq_true q125
            have p129 : 0 ≤ (0 : Int) := (by omega)
            have q129 : 0 < (l0.length : Int) := of_decide_eq_true (by first | (with_reducible assumption) | assumption)
            obtain ⟨ad129, e129, hx129_0, hx129_1, hx129_2, hx129_3, hx129_4⟩ := at_T48 HR0.out 0 p129 q129
            obtain rfl : ad123 = ad129 := (by injection e129)
            have qi129 : (0 < l0.length) = True := eq_true (by omega)
            (try rw [show ((0 : Int)).toNat = 0 from rfl] at hx129_0)
            (try rw [show 0 * 5 = 0 from rfl] at hx129_0)
            (try rw [Addr.add_zero'] at hx129_0)
            (try rw [show ((0 : Int)).toNat = 0 from rfl] at hx129_1)
            (try rw [show 0 * 5 = 0 from rfl] at hx129_1)
            (try rw [Addr.add_zero'] at hx129_1)
            (try rw [show ((0 : Int)).toNat = 0 from rfl] at hx129_2)
            (try rw [show 0 * 5 = 0 from rfl] at hx129_2)
            (try rw [Addr.add_zero'] at hx129_2)
            (try rw [show ((0 : Int)).toNat = 0 from rfl] at hx129_3)
            (try rw [show 0 * 5 = 0 from rfl] at hx129_3)
            (try rw [Addr.add_zero'] at hx129_3)
            (try rw [show ((0 : Int)).toNat = 0 from rfl] at hx129_4)
            (try rw [show 0 * 5 = 0 from rfl] at hx129_4)
            (try rw [Addr.add_zero'] at hx129_4)
            replace p129 := eq_true p129
            replace q129 := eq_true q129
            go_wp2
            go_meet
            case rel => exact ⟨_, (true), (by first | rfl | (simp; done) | (simp [*]; done)), H', ⟨by first | omega | exact Nat.le_refl _⟩, by repeat (first | exact Drawn0.refl _ | apply Drawn0.step)⟩
      case rest =>
        clear HC5
        try clear c1
        try clear p1
        try clear q1
        try clear hx1
        try clear qi1
        try clear c2
        try clear c2b0
        try clear c2b1
        try clear p2
        try clear c4
        try clear c5
        try clear c6
        try clear c6b0
        try clear c6b1
        try clear c8
        try clear c9
        try clear c9b0
        try clear c9b1
        try clear c11
        try clear hx123_0
        try clear hx123_1
        try clear hx123_2
        try clear hx123_3
        try clear hx123_4
        try clear hx125_0
        try clear hx125_1
        try clear hx125_2
        try clear hx125_3
        try clear hx125_4
        try clear hx126_0
        try clear hx126_1
        try clear hx126_2
        try clear hx126_3
        try clear hx126_4
        try clear hx128_0
        try clear hx128_1
        try clear hx128_2
        try clear hx128_3
        try clear hx128_4
        try clear hx129_0
        try clear hx129_1
        try clear hx129_2
        try clear hx129_3
        try clear hx129_4
        try clear hx130_0
        try clear hx130_1
        try clear hx130_2
        try clear hx130_3
        try clear hx130_4
        try clear hx132_0
        try clear hx132_1
        try clear hx132_2
        try clear hx132_3
        try clear hx132_4
        try clear p123
        try clear p125
        try clear p126
        try clear p128
        try clear p129
        try clear p130
        try clear p132
        try clear q123
        try clear q125
        try clear q126
        try clear q128
        try clear q129
        try clear q130
        try clear q132
        obtain ⟨kq, x35_4, rfl, HA, HJ4, ⟨mc4, rfl⟩⟩ := hcut
        cases kq with
        | zero => exact absurd HA.out (by simp [spec_l5Form.j0])
        | succ kj4 =>
          have H := HA.out
          clear HA
          simp only [spec_l5Form.j0] at H
          by_cases c12 : x35_4 = true
          · subst c12
            have H1 : (some false) = some r := by rw [if_pos rfl] at H; exact H
            clear H
            have H := H1
            clear H1
            obtain rfl := Option.some.inj H
            go_wp2
            go_ret
            exact ⟨by first | rfl | (simp; done) | (simp [*]; done), by repeat (first | exact Drawn0.refl _ | apply Drawn0.step)⟩
          · replace c12 := Bool.eq_false_iff.mpr c12
            subst c12
            have H1 : (if 0 < (l0.length : Int) then ((spec_l5Two.f ((rd_T48 l0 0).f0)).bind fun t134 => (if t134 = true then ((spec_l5Two.f ((rd_T48 l0 0).f0)).bind fun t136 => (if t136 = true then (some true) else ((spec_l5One.f ((rd_T48 l0 0).f0)).bind fun t138 => (if t138 = true then (some true) else (some (((rd_T48 l0 0).f3) == 0)))))) else (if ((rd_T48 l0 0).f4) = 0 then ((spec_l5Two.f ((rd_T48 l0 0).f0)).bind fun t142 => (if t142 = true then (some true) else ((spec_l5One.f ((rd_T48 l0 0).f0)).bind fun t144 => (if t144 = true then (some true) else (some (((rd_T48 l0 0).f3) == 0)))))) else (some false)))) else (none)) = some r := by rw [if_neg (show ¬ (false = true) by decide)] at H; exact H
            clear H
            have H := H1
            clear H1
            by_cases c13 : 0 < (l0.length : Int)
            · rw [if_pos c13] at H
              have c13b0 : decide (0 < (l0.length : Int)) = true := decide_eq_true c13
              have c13b1 : decide (0 < l0.length) = true := decide_eq_true (by omega)
              clear c13
              replace H := Option.bind_eq_some_iff.mp H
              obtain ⟨t134, A140, H⟩ := H
              replace H : (if t134 = true then ((spec_l5Two.f ((rd_T48 l0 0).f0)).bind fun t136 => (if t136 = true then (some true) else ((spec_l5One.f ((rd_T48 l0 0).f0)).bind fun t138 => (if t138 = true then (some true) else (some (((rd_T48 l0 0).f3) == 0)))))) else (if ((rd_T48 l0 0).f4) = 0 then ((spec_l5Two.f ((rd_T48 l0 0).f0)).bind fun t142 => (if t142 = true then (some true) else ((spec_l5One.f ((rd_T48 l0 0).f0)).bind fun t144 => (if t144 = true then (some true) else (some (((rd_T48 l0 0).f3) == 0)))))) else (some false))) = some r := H
              have A14 := Aside0.mk A140
              clear A140
              by_cases c15 : t134 = true
              · subst c15
                have H1 : ((spec_l5Two.f ((rd_T48 l0 0).f0)).bind fun t136 => (if t136 = true then (some true) else ((spec_l5One.f ((rd_T48 l0 0).f0)).bind fun t138 => (if t138 = true then (some true) else (some (((rd_T48 l0 0).f3) == 0)))))) = some r := by rw [if_pos rfl] at H; exact H
                clear H
                have H := H1
                clear H1
                replace H := Option.bind_eq_some_iff.mp H
                obtain ⟨t136, A160, H⟩ := H
                replace H : (if t136 = true then (some true) else ((spec_l5One.f ((rd_T48 l0 0).f0)).bind fun t138 => (if t138 = true then (some true) else (some (((rd_T48 l0 0).f3) == 0))))) = some r := H
                have A16 := Aside0.mk A160
                clear A160
                by_cases c17 : t136 = true
                · subst c17
                  have H1 : (some true) = some r := by rw [if_pos rfl] at H; exact H
                  clear H
                  have H := H1
                  clear H1
                  obtain rfl := Option.some.inj H
                  have p133 : 0 ≤ (0 : Int) := (by omega)
                  have q133 : 0 < (l0.length : Int) := of_decide_eq_true (by first | (with_reducible assumption) | assumption)
                  obtain ⟨ad133, e133, hx133_0, hx133_1, hx133_2, hx133_3, hx133_4⟩ := at_T48 HR0.out 0 p133 q133
                  obtain rfl : ad123 = ad133 := (by injection e133)
                  have qi133 : (0 < l0.length) = True := eq_true (by omega)
                  (try rw [show ((0 : Int)).toNat = 0 from rfl] at hx133_0)
                  (try rw [show 0 * 5 = 0 from rfl] at hx133_0)
                  (try rw [Addr.add_zero'] at hx133_0)
                  (try rw [show ((0 : Int)).toNat = 0 from rfl] at hx133_1)
                  (try rw [show 0 * 5 = 0 from rfl] at hx133_1)
                  (try rw [Addr.add_zero'] at hx133_1)
                  (try rw [show ((0 : Int)).toNat = 0 from rfl] at hx133_2)
                  (try rw [show 0 * 5 = 0 from rfl] at hx133_2)
                  (try rw [Addr.add_zero'] at hx133_2)
                  (try rw [show ((0 : Int)).toNat = 0 from rfl] at hx133_3)
                  (try rw [show 0 * 5 = 0 from rfl] at hx133_3)
                  (try rw [Addr.add_zero'] at hx133_3)
                  (try rw [show ((0 : Int)).toNat = 0 from rfl] at hx133_4)
                  (try rw [show 0 * 5 = 0 from rfl] at hx133_4)
                  (try rw [Addr.add_zero'] at hx133_4)
                  replace p133 := eq_true p133
                  replace q133 := eq_true q133
                  go_wp2_with (first | ((with_reducible refine gate_callee (f := 71) rfl ?_); refine goesL_ (some 40) rfl rfl Try.func71 (by kernel_rfl) rfl #[.int .i64 ((rd_T48 l0 0).f0)] rfl (by (try simp only [List.map_toArray, List.map_cons, List.map_nil]); first | done | rfl | (simp only [List.length_drop, List.length_take]; rfl)) ?_; (with_reducible refine (spec_l5Two.calls ((rd_T48 l0 0).f0) true _ A14.out).mono ?_); rintro e w' ⟨rfl, ⟨nd, rfl⟩⟩; refine ⟨_, rfl, ?_⟩; have p135 : 0 ≤ (0 : Int) := (by omega); have q135 : 0 < (l0.length : Int) := of_decide_eq_true (by first | (with_reducible assumption) | assumption); obtain ⟨ad135, e135, hx135_0, hx135_1, hx135_2, hx135_3, hx135_4⟩ := at_T48 HR0.out 0 p135 q135; obtain rfl : ad123 = ad135 := (by injection e135); have qi135 : (0 < l0.length) = True := eq_true (by omega); (try rw [show ((0 : Int)).toNat = 0 from rfl] at hx135_0); (try rw [show 0 * 5 = 0 from rfl] at hx135_0); (try rw [Addr.add_zero'] at hx135_0); (try rw [show ((0 : Int)).toNat = 0 from rfl] at hx135_1); (try rw [show 0 * 5 = 0 from rfl] at hx135_1); (try rw [Addr.add_zero'] at hx135_1); (try rw [show ((0 : Int)).toNat = 0 from rfl] at hx135_2); (try rw [show 0 * 5 = 0 from rfl] at hx135_2); (try rw [Addr.add_zero'] at hx135_2); (try rw [show ((0 : Int)).toNat = 0 from rfl] at hx135_3); (try rw [show 0 * 5 = 0 from rfl] at hx135_3); (try rw [Addr.add_zero'] at hx135_3); (try rw [show ((0 : Int)).toNat = 0 from rfl] at hx135_4); (try rw [show 0 * 5 = 0 from rfl] at hx135_4); (try rw [Addr.add_zero'] at hx135_4); replace p135 := eq_true p135; replace q135 := eq_true q135) | (go_at_call 71; (with_reducible refine (spec_l5Two.calls ((rd_T48 l0 0).f0) true _ A16.out).mono ?_); rintro e w' ⟨rfl, ⟨nd, rfl⟩⟩))
                  go_ret
                  exact ⟨by first | rfl | (simp; done) | (simp [*]; done), by repeat (first | exact Drawn0.refl _ | apply Drawn0.step)⟩
                · replace c17 := Bool.eq_false_iff.mpr c17
                  subst c17
                  have H1 : ((spec_l5One.f ((rd_T48 l0 0).f0)).bind fun t138 => (if t138 = true then (some true) else (some (((rd_T48 l0 0).f3) == 0)))) = some r := by rw [if_neg (show ¬ (false = true) by decide)] at H; exact H
                  clear H
                  have H := H1
                  clear H1
                  replace H := Option.bind_eq_some_iff.mp H
                  obtain ⟨t138, A180, H⟩ := H
                  replace H : (if t138 = true then (some true) else (some (((rd_T48 l0 0).f3) == 0))) = some r := H
                  have A18 := Aside0.mk A180
                  clear A180
                  by_cases c19 : t138 = true
                  · subst c19
                    have H1 : (some true) = some r := by rw [if_pos rfl] at H; exact H
                    clear H
                    have H := H1
                    clear H1
                    obtain rfl := Option.some.inj H
                    have p133 : 0 ≤ (0 : Int) := (by omega)
                    have q133 : 0 < (l0.length : Int) := of_decide_eq_true (by first | (with_reducible assumption) | assumption)
                    obtain ⟨ad133, e133, hx133_0, hx133_1, hx133_2, hx133_3, hx133_4⟩ := at_T48 HR0.out 0 p133 q133
                    obtain rfl : ad123 = ad133 := (by injection e133)
                    have qi133 : (0 < l0.length) = True := eq_true (by omega)
                    (try rw [show ((0 : Int)).toNat = 0 from rfl] at hx133_0)
                    (try rw [show 0 * 5 = 0 from rfl] at hx133_0)
                    (try rw [Addr.add_zero'] at hx133_0)
                    (try rw [show ((0 : Int)).toNat = 0 from rfl] at hx133_1)
                    (try rw [show 0 * 5 = 0 from rfl] at hx133_1)
                    (try rw [Addr.add_zero'] at hx133_1)
                    (try rw [show ((0 : Int)).toNat = 0 from rfl] at hx133_2)
                    (try rw [show 0 * 5 = 0 from rfl] at hx133_2)
                    (try rw [Addr.add_zero'] at hx133_2)
                    (try rw [show ((0 : Int)).toNat = 0 from rfl] at hx133_3)
                    (try rw [show 0 * 5 = 0 from rfl] at hx133_3)
                    (try rw [Addr.add_zero'] at hx133_3)
                    (try rw [show ((0 : Int)).toNat = 0 from rfl] at hx133_4)
                    (try rw [show 0 * 5 = 0 from rfl] at hx133_4)
                    (try rw [Addr.add_zero'] at hx133_4)
                    replace p133 := eq_true p133
                    replace q133 := eq_true q133
                    exact absurd (A14.out.symm.trans A16.out) (by simp)
                  · replace c19 := Bool.eq_false_iff.mpr c19
                    subst c19
                    have H1 : (some (((rd_T48 l0 0).f3) == 0)) = some r := by rw [if_neg (show ¬ (false = true) by decide)] at H; exact H
                    clear H
                    have H := H1
                    clear H1
                    obtain rfl := Option.some.inj H
                    have p133 : 0 ≤ (0 : Int) := (by omega)
                    have q133 : 0 < (l0.length : Int) := of_decide_eq_true (by first | (with_reducible assumption) | assumption)
                    obtain ⟨ad133, e133, hx133_0, hx133_1, hx133_2, hx133_3, hx133_4⟩ := at_T48 HR0.out 0 p133 q133
                    obtain rfl : ad123 = ad133 := (by injection e133)
                    have qi133 : (0 < l0.length) = True := eq_true (by omega)
                    (try rw [show ((0 : Int)).toNat = 0 from rfl] at hx133_0)
                    (try rw [show 0 * 5 = 0 from rfl] at hx133_0)
                    (try rw [Addr.add_zero'] at hx133_0)
                    (try rw [show ((0 : Int)).toNat = 0 from rfl] at hx133_1)
                    (try rw [show 0 * 5 = 0 from rfl] at hx133_1)
                    (try rw [Addr.add_zero'] at hx133_1)
                    (try rw [show ((0 : Int)).toNat = 0 from rfl] at hx133_2)
                    (try rw [show 0 * 5 = 0 from rfl] at hx133_2)
                    (try rw [Addr.add_zero'] at hx133_2)
                    (try rw [show ((0 : Int)).toNat = 0 from rfl] at hx133_3)
                    (try rw [show 0 * 5 = 0 from rfl] at hx133_3)
                    (try rw [Addr.add_zero'] at hx133_3)
                    (try rw [show ((0 : Int)).toNat = 0 from rfl] at hx133_4)
                    (try rw [show 0 * 5 = 0 from rfl] at hx133_4)
                    (try rw [Addr.add_zero'] at hx133_4)
                    replace p133 := eq_true p133
                    replace q133 := eq_true q133
                    exact absurd (A14.out.symm.trans A16.out) (by simp)
              · replace c15 := Bool.eq_false_iff.mpr c15
                subst c15
                have H1 : (if ((rd_T48 l0 0).f4) = 0 then ((spec_l5Two.f ((rd_T48 l0 0).f0)).bind fun t142 => (if t142 = true then (some true) else ((spec_l5One.f ((rd_T48 l0 0).f0)).bind fun t144 => (if t144 = true then (some true) else (some (((rd_T48 l0 0).f3) == 0)))))) else (some false)) = some r := by rw [if_neg (show ¬ (false = true) by decide)] at H; exact H
                clear H
                have H := H1
                clear H1
                by_cases c20 : ((rd_T48 l0 0).f4) = 0
                · rw [if_pos c20] at H
                  have c20b0 : (((rd_T48 l0 0).f4) == 0) = true := beq_iff_eq.mpr c20
                  have c20b1 : (((rd_T48 l0 0).f4) != 0) = false := bne_eq_false_iff_eq.mpr c20
                  clear c20
                  replace H := Option.bind_eq_some_iff.mp H
                  obtain ⟨t142, A210, H⟩ := H
                  replace H : (if t142 = true then (some true) else ((spec_l5One.f ((rd_T48 l0 0).f0)).bind fun t144 => (if t144 = true then (some true) else (some (((rd_T48 l0 0).f3) == 0))))) = some r := H
                  have A21 := Aside0.mk A210
                  clear A210
                  by_cases c22 : t142 = true
                  · subst c22
                    have H1 : (some true) = some r := by rw [if_pos rfl] at H; exact H
                    clear H
                    have H := H1
                    clear H1
                    obtain rfl := Option.some.inj H
                    have p133 : 0 ≤ (0 : Int) := (by omega)
                    have q133 : 0 < (l0.length : Int) := of_decide_eq_true (by first | (with_reducible assumption) | assumption)
                    obtain ⟨ad133, e133, hx133_0, hx133_1, hx133_2, hx133_3, hx133_4⟩ := at_T48 HR0.out 0 p133 q133
                    obtain rfl : ad123 = ad133 := (by injection e133)
                    have qi133 : (0 < l0.length) = True := eq_true (by omega)
                    (try rw [show ((0 : Int)).toNat = 0 from rfl] at hx133_0)
                    (try rw [show 0 * 5 = 0 from rfl] at hx133_0)
                    (try rw [Addr.add_zero'] at hx133_0)
                    (try rw [show ((0 : Int)).toNat = 0 from rfl] at hx133_1)
                    (try rw [show 0 * 5 = 0 from rfl] at hx133_1)
                    (try rw [Addr.add_zero'] at hx133_1)
                    (try rw [show ((0 : Int)).toNat = 0 from rfl] at hx133_2)
                    (try rw [show 0 * 5 = 0 from rfl] at hx133_2)
                    (try rw [Addr.add_zero'] at hx133_2)
                    (try rw [show ((0 : Int)).toNat = 0 from rfl] at hx133_3)
                    (try rw [show 0 * 5 = 0 from rfl] at hx133_3)
                    (try rw [Addr.add_zero'] at hx133_3)
                    (try rw [show ((0 : Int)).toNat = 0 from rfl] at hx133_4)
                    (try rw [show 0 * 5 = 0 from rfl] at hx133_4)
                    (try rw [Addr.add_zero'] at hx133_4)
                    replace p133 := eq_true p133
                    replace q133 := eq_true q133
                    exact absurd (A14.out.symm.trans A21.out) (by simp)
                  · replace c22 := Bool.eq_false_iff.mpr c22
                    subst c22
                    have H1 : ((spec_l5One.f ((rd_T48 l0 0).f0)).bind fun t144 => (if t144 = true then (some true) else (some (((rd_T48 l0 0).f3) == 0)))) = some r := by rw [if_neg (show ¬ (false = true) by decide)] at H; exact H
                    clear H
                    have H := H1
                    clear H1
                    replace H := Option.bind_eq_some_iff.mp H
                    obtain ⟨t144, A230, H⟩ := H
                    replace H : (if t144 = true then (some true) else (some (((rd_T48 l0 0).f3) == 0))) = some r := H
                    have A23 := Aside0.mk A230
                    clear A230
                    by_cases c24 : t144 = true
                    · subst c24
                      have H1 : (some true) = some r := by rw [if_pos rfl] at H; exact H
                      clear H
                      have H := H1
                      clear H1
                      obtain rfl := Option.some.inj H
                      have p133 : 0 ≤ (0 : Int) := (by omega)
                      have q133 : 0 < (l0.length : Int) := of_decide_eq_true (by first | (with_reducible assumption) | assumption)
                      obtain ⟨ad133, e133, hx133_0, hx133_1, hx133_2, hx133_3, hx133_4⟩ := at_T48 HR0.out 0 p133 q133
                      obtain rfl : ad123 = ad133 := (by injection e133)
                      have qi133 : (0 < l0.length) = True := eq_true (by omega)
                      (try rw [show ((0 : Int)).toNat = 0 from rfl] at hx133_0)
                      (try rw [show 0 * 5 = 0 from rfl] at hx133_0)
                      (try rw [Addr.add_zero'] at hx133_0)
                      (try rw [show ((0 : Int)).toNat = 0 from rfl] at hx133_1)
                      (try rw [show 0 * 5 = 0 from rfl] at hx133_1)
                      (try rw [Addr.add_zero'] at hx133_1)
                      (try rw [show ((0 : Int)).toNat = 0 from rfl] at hx133_2)
                      (try rw [show 0 * 5 = 0 from rfl] at hx133_2)
                      (try rw [Addr.add_zero'] at hx133_2)
                      (try rw [show ((0 : Int)).toNat = 0 from rfl] at hx133_3)
                      (try rw [show 0 * 5 = 0 from rfl] at hx133_3)
                      (try rw [Addr.add_zero'] at hx133_3)
                      (try rw [show ((0 : Int)).toNat = 0 from rfl] at hx133_4)
                      (try rw [show 0 * 5 = 0 from rfl] at hx133_4)
                      (try rw [Addr.add_zero'] at hx133_4)
                      replace p133 := eq_true p133
                      replace q133 := eq_true q133
                      go_wp2_with (first | ((with_reducible refine gate_callee (f := 71) rfl ?_); refine goesL_ (some 40) rfl rfl Try.func71 (by kernel_rfl) rfl #[.int .i64 ((rd_T48 l0 0).f0)] rfl (by (try simp only [List.map_toArray, List.map_cons, List.map_nil]); first | done | rfl | (simp only [List.length_drop, List.length_take]; rfl)) ?_; (with_reducible refine (spec_l5Two.calls ((rd_T48 l0 0).f0) false _ A14.out).mono ?_); rintro e w' ⟨rfl, ⟨nd, rfl⟩⟩; refine ⟨_, rfl, ?_⟩; have p140 : 0 ≤ (0 : Int) := (by omega); have q140 : 0 < (l0.length : Int) := of_decide_eq_true (by first | (with_reducible assumption) | assumption); obtain ⟨ad140, e140, hx140_0, hx140_1, hx140_2, hx140_3, hx140_4⟩ := at_T48 HR0.out 0 p140 q140; obtain rfl : ad123 = ad140 := (by injection e140); have qi140 : (0 < l0.length) = True := eq_true (by omega); (try rw [show ((0 : Int)).toNat = 0 from rfl] at hx140_0); (try rw [show 0 * 5 = 0 from rfl] at hx140_0); (try rw [Addr.add_zero'] at hx140_0); (try rw [show ((0 : Int)).toNat = 0 from rfl] at hx140_1); (try rw [show 0 * 5 = 0 from rfl] at hx140_1); (try rw [Addr.add_zero'] at hx140_1); (try rw [show ((0 : Int)).toNat = 0 from rfl] at hx140_2); (try rw [show 0 * 5 = 0 from rfl] at hx140_2); (try rw [Addr.add_zero'] at hx140_2); (try rw [show ((0 : Int)).toNat = 0 from rfl] at hx140_3); (try rw [show 0 * 5 = 0 from rfl] at hx140_3); (try rw [Addr.add_zero'] at hx140_3); (try rw [show ((0 : Int)).toNat = 0 from rfl] at hx140_4); (try rw [show 0 * 5 = 0 from rfl] at hx140_4); (try rw [Addr.add_zero'] at hx140_4); replace p140 := eq_true p140; replace q140 := eq_true q140; have p141 : 0 ≤ (0 : Int) := (by omega); have q141 : 0 < (l0.length : Int) := of_decide_eq_true (by first | (with_reducible assumption) | assumption); obtain ⟨ad141, e141, hx141_0, hx141_1, hx141_2, hx141_3, hx141_4⟩ := at_T48 HR0.out 0 p141 q141; obtain rfl : ad123 = ad141 := (by injection e141); have qi141 : (0 < l0.length) = True := eq_true (by omega); (try rw [show ((0 : Int)).toNat = 0 from rfl] at hx141_0); (try rw [show 0 * 5 = 0 from rfl] at hx141_0); (try rw [Addr.add_zero'] at hx141_0); (try rw [show ((0 : Int)).toNat = 0 from rfl] at hx141_1); (try rw [show 0 * 5 = 0 from rfl] at hx141_1); (try rw [Addr.add_zero'] at hx141_1); (try rw [show ((0 : Int)).toNat = 0 from rfl] at hx141_2); (try rw [show 0 * 5 = 0 from rfl] at hx141_2); (try rw [Addr.add_zero'] at hx141_2); (try rw [show ((0 : Int)).toNat = 0 from rfl] at hx141_3); (try rw [show 0 * 5 = 0 from rfl] at hx141_3); (try rw [Addr.add_zero'] at hx141_3); (try rw [show ((0 : Int)).toNat = 0 from rfl] at hx141_4); (try rw [show 0 * 5 = 0 from rfl] at hx141_4); (try rw [Addr.add_zero'] at hx141_4); replace p141 := eq_true p141; replace q141 := eq_true q141) | (go_at_call 71; (with_reducible refine (spec_l5Two.calls ((rd_T48 l0 0).f0) false _ A21.out).mono ?_); rintro e w' ⟨rfl, ⟨nd, rfl⟩⟩; have p143 : 0 ≤ (0 : Int) := (by omega); have q143 : 0 < (l0.length : Int) := of_decide_eq_true (by first | (with_reducible assumption) | assumption); obtain ⟨ad143, e143, hx143_0, hx143_1, hx143_2, hx143_3, hx143_4⟩ := at_T48 HR0.out 0 p143 q143; obtain rfl : ad123 = ad143 := (by injection e143); have qi143 : (0 < l0.length) = True := eq_true (by omega); (try rw [show ((0 : Int)).toNat = 0 from rfl] at hx143_0); (try rw [show 0 * 5 = 0 from rfl] at hx143_0); (try rw [Addr.add_zero'] at hx143_0); (try rw [show ((0 : Int)).toNat = 0 from rfl] at hx143_1); (try rw [show 0 * 5 = 0 from rfl] at hx143_1); (try rw [Addr.add_zero'] at hx143_1); (try rw [show ((0 : Int)).toNat = 0 from rfl] at hx143_2); (try rw [show 0 * 5 = 0 from rfl] at hx143_2); (try rw [Addr.add_zero'] at hx143_2); (try rw [show ((0 : Int)).toNat = 0 from rfl] at hx143_3); (try rw [show 0 * 5 = 0 from rfl] at hx143_3); (try rw [Addr.add_zero'] at hx143_3); (try rw [show ((0 : Int)).toNat = 0 from rfl] at hx143_4); (try rw [show 0 * 5 = 0 from rfl] at hx143_4); (try rw [Addr.add_zero'] at hx143_4); replace p143 := eq_true p143; replace q143 := eq_true q143) | (go_at_call 72; (with_reducible refine (spec_l5One.calls ((rd_T48 l0 0).f0) true _ A23.out).mono ?_); rintro e w' ⟨rfl, ⟨nd, rfl⟩⟩))
                      go_ret
                      exact ⟨by first | rfl | (simp; done) | (simp [*]; done), by repeat (first | exact Drawn0.refl _ | apply Drawn0.step)⟩
                    · replace c24 := Bool.eq_false_iff.mpr c24
                      subst c24
                      have H1 : (some (((rd_T48 l0 0).f3) == 0)) = some r := by rw [if_neg (show ¬ (false = true) by decide)] at H; exact H
                      clear H
                      have H := H1
                      clear H1
                      obtain rfl := Option.some.inj H
                      have p133 : 0 ≤ (0 : Int) := (by omega)
                      have q133 : 0 < (l0.length : Int) := of_decide_eq_true (by first | (with_reducible assumption) | assumption)
                      obtain ⟨ad133, e133, hx133_0, hx133_1, hx133_2, hx133_3, hx133_4⟩ := at_T48 HR0.out 0 p133 q133
                      obtain rfl : ad123 = ad133 := (by injection e133)
                      have qi133 : (0 < l0.length) = True := eq_true (by omega)
                      (try rw [show ((0 : Int)).toNat = 0 from rfl] at hx133_0)
                      (try rw [show 0 * 5 = 0 from rfl] at hx133_0)
                      (try rw [Addr.add_zero'] at hx133_0)
                      (try rw [show ((0 : Int)).toNat = 0 from rfl] at hx133_1)
                      (try rw [show 0 * 5 = 0 from rfl] at hx133_1)
                      (try rw [Addr.add_zero'] at hx133_1)
                      (try rw [show ((0 : Int)).toNat = 0 from rfl] at hx133_2)
                      (try rw [show 0 * 5 = 0 from rfl] at hx133_2)
                      (try rw [Addr.add_zero'] at hx133_2)
                      (try rw [show ((0 : Int)).toNat = 0 from rfl] at hx133_3)
                      (try rw [show 0 * 5 = 0 from rfl] at hx133_3)
                      (try rw [Addr.add_zero'] at hx133_3)
                      (try rw [show ((0 : Int)).toNat = 0 from rfl] at hx133_4)
                      (try rw [show 0 * 5 = 0 from rfl] at hx133_4)
                      (try rw [Addr.add_zero'] at hx133_4)
                      replace p133 := eq_true p133
                      replace q133 := eq_true q133
                      go_wp2_with (first | ((with_reducible refine gate_callee (f := 71) rfl ?_); refine goesL_ (some 40) rfl rfl Try.func71 (by kernel_rfl) rfl #[.int .i64 ((rd_T48 l0 0).f0)] rfl (by (try simp only [List.map_toArray, List.map_cons, List.map_nil]); first | done | rfl | (simp only [List.length_drop, List.length_take]; rfl)) ?_; (with_reducible refine (spec_l5Two.calls ((rd_T48 l0 0).f0) false _ A14.out).mono ?_); rintro e w' ⟨rfl, ⟨nd, rfl⟩⟩; refine ⟨_, rfl, ?_⟩; have p140 : 0 ≤ (0 : Int) := (by omega); have q140 : 0 < (l0.length : Int) := of_decide_eq_true (by first | (with_reducible assumption) | assumption); obtain ⟨ad140, e140, hx140_0, hx140_1, hx140_2, hx140_3, hx140_4⟩ := at_T48 HR0.out 0 p140 q140; obtain rfl : ad123 = ad140 := (by injection e140); have qi140 : (0 < l0.length) = True := eq_true (by omega); (try rw [show ((0 : Int)).toNat = 0 from rfl] at hx140_0); (try rw [show 0 * 5 = 0 from rfl] at hx140_0); (try rw [Addr.add_zero'] at hx140_0); (try rw [show ((0 : Int)).toNat = 0 from rfl] at hx140_1); (try rw [show 0 * 5 = 0 from rfl] at hx140_1); (try rw [Addr.add_zero'] at hx140_1); (try rw [show ((0 : Int)).toNat = 0 from rfl] at hx140_2); (try rw [show 0 * 5 = 0 from rfl] at hx140_2); (try rw [Addr.add_zero'] at hx140_2); (try rw [show ((0 : Int)).toNat = 0 from rfl] at hx140_3); (try rw [show 0 * 5 = 0 from rfl] at hx140_3); (try rw [Addr.add_zero'] at hx140_3); (try rw [show ((0 : Int)).toNat = 0 from rfl] at hx140_4); (try rw [show 0 * 5 = 0 from rfl] at hx140_4); (try rw [Addr.add_zero'] at hx140_4); replace p140 := eq_true p140; replace q140 := eq_true q140; have p141 : 0 ≤ (0 : Int) := (by omega); have q141 : 0 < (l0.length : Int) := of_decide_eq_true (by first | (with_reducible assumption) | assumption); obtain ⟨ad141, e141, hx141_0, hx141_1, hx141_2, hx141_3, hx141_4⟩ := at_T48 HR0.out 0 p141 q141; obtain rfl : ad123 = ad141 := (by injection e141); have qi141 : (0 < l0.length) = True := eq_true (by omega); (try rw [show ((0 : Int)).toNat = 0 from rfl] at hx141_0); (try rw [show 0 * 5 = 0 from rfl] at hx141_0); (try rw [Addr.add_zero'] at hx141_0); (try rw [show ((0 : Int)).toNat = 0 from rfl] at hx141_1); (try rw [show 0 * 5 = 0 from rfl] at hx141_1); (try rw [Addr.add_zero'] at hx141_1); (try rw [show ((0 : Int)).toNat = 0 from rfl] at hx141_2); (try rw [show 0 * 5 = 0 from rfl] at hx141_2); (try rw [Addr.add_zero'] at hx141_2); (try rw [show ((0 : Int)).toNat = 0 from rfl] at hx141_3); (try rw [show 0 * 5 = 0 from rfl] at hx141_3); (try rw [Addr.add_zero'] at hx141_3); (try rw [show ((0 : Int)).toNat = 0 from rfl] at hx141_4); (try rw [show 0 * 5 = 0 from rfl] at hx141_4); (try rw [Addr.add_zero'] at hx141_4); replace p141 := eq_true p141; replace q141 := eq_true q141) | (go_at_call 71; (with_reducible refine (spec_l5Two.calls ((rd_T48 l0 0).f0) false _ A21.out).mono ?_); rintro e w' ⟨rfl, ⟨nd, rfl⟩⟩; have p143 : 0 ≤ (0 : Int) := (by omega); have q143 : 0 < (l0.length : Int) := of_decide_eq_true (by first | (with_reducible assumption) | assumption); obtain ⟨ad143, e143, hx143_0, hx143_1, hx143_2, hx143_3, hx143_4⟩ := at_T48 HR0.out 0 p143 q143; obtain rfl : ad123 = ad143 := (by injection e143); have qi143 : (0 < l0.length) = True := eq_true (by omega); (try rw [show ((0 : Int)).toNat = 0 from rfl] at hx143_0); (try rw [show 0 * 5 = 0 from rfl] at hx143_0); (try rw [Addr.add_zero'] at hx143_0); (try rw [show ((0 : Int)).toNat = 0 from rfl] at hx143_1); (try rw [show 0 * 5 = 0 from rfl] at hx143_1); (try rw [Addr.add_zero'] at hx143_1); (try rw [show ((0 : Int)).toNat = 0 from rfl] at hx143_2); (try rw [show 0 * 5 = 0 from rfl] at hx143_2); (try rw [Addr.add_zero'] at hx143_2); (try rw [show ((0 : Int)).toNat = 0 from rfl] at hx143_3); (try rw [show 0 * 5 = 0 from rfl] at hx143_3); (try rw [Addr.add_zero'] at hx143_3); (try rw [show ((0 : Int)).toNat = 0 from rfl] at hx143_4); (try rw [show 0 * 5 = 0 from rfl] at hx143_4); (try rw [Addr.add_zero'] at hx143_4); replace p143 := eq_true p143; replace q143 := eq_true q143) | (go_at_call 72; (with_reducible refine (spec_l5One.calls ((rd_T48 l0 0).f0) false _ A23.out).mono ?_); rintro e w' ⟨rfl, ⟨nd, rfl⟩⟩; have p145 : 0 ≤ (0 : Int) := (by omega); have q145 : 0 < (l0.length : Int) := of_decide_eq_true (by first | (with_reducible assumption) | assumption); obtain ⟨ad145, e145, hx145_0, hx145_1, hx145_2, hx145_3, hx145_4⟩ := at_T48 HR0.out 0 p145 q145; obtain rfl : ad123 = ad145 := (by injection e145); have qi145 : (0 < l0.length) = True := eq_true (by omega); (try rw [show ((0 : Int)).toNat = 0 from rfl] at hx145_0); (try rw [show 0 * 5 = 0 from rfl] at hx145_0); (try rw [Addr.add_zero'] at hx145_0); (try rw [show ((0 : Int)).toNat = 0 from rfl] at hx145_1); (try rw [show 0 * 5 = 0 from rfl] at hx145_1); (try rw [Addr.add_zero'] at hx145_1); (try rw [show ((0 : Int)).toNat = 0 from rfl] at hx145_2); (try rw [show 0 * 5 = 0 from rfl] at hx145_2); (try rw [Addr.add_zero'] at hx145_2); (try rw [show ((0 : Int)).toNat = 0 from rfl] at hx145_3); (try rw [show 0 * 5 = 0 from rfl] at hx145_3); (try rw [Addr.add_zero'] at hx145_3); (try rw [show ((0 : Int)).toNat = 0 from rfl] at hx145_4); (try rw [show 0 * 5 = 0 from rfl] at hx145_4); (try rw [Addr.add_zero'] at hx145_4); replace p145 := eq_true p145; replace q145 := eq_true q145))
                      go_ret
                      exact ⟨by first | rfl | (simp; done) | (simp [*]; done), by repeat (first | exact Drawn0.refl _ | apply Drawn0.step)⟩
                · rw [if_neg c20] at H
                  have c20b0 : (((rd_T48 l0 0).f4) == 0) = false := beq_eq_false_iff_ne.mpr c20
                  have c20b1 : (((rd_T48 l0 0).f4) != 0) = true := bne_iff_ne.mpr c20
                  obtain rfl := Option.some.inj H
                  have p133 : 0 ≤ (0 : Int) := (by omega)
                  have q133 : 0 < (l0.length : Int) := of_decide_eq_true (by first | (with_reducible assumption) | assumption)
                  obtain ⟨ad133, e133, hx133_0, hx133_1, hx133_2, hx133_3, hx133_4⟩ := at_T48 HR0.out 0 p133 q133
                  obtain rfl : ad123 = ad133 := (by injection e133)
                  have qi133 : (0 < l0.length) = True := eq_true (by omega)
                  (try rw [show ((0 : Int)).toNat = 0 from rfl] at hx133_0)
                  (try rw [show 0 * 5 = 0 from rfl] at hx133_0)
                  (try rw [Addr.add_zero'] at hx133_0)
                  (try rw [show ((0 : Int)).toNat = 0 from rfl] at hx133_1)
                  (try rw [show 0 * 5 = 0 from rfl] at hx133_1)
                  (try rw [Addr.add_zero'] at hx133_1)
                  (try rw [show ((0 : Int)).toNat = 0 from rfl] at hx133_2)
                  (try rw [show 0 * 5 = 0 from rfl] at hx133_2)
                  (try rw [Addr.add_zero'] at hx133_2)
                  (try rw [show ((0 : Int)).toNat = 0 from rfl] at hx133_3)
                  (try rw [show 0 * 5 = 0 from rfl] at hx133_3)
                  (try rw [Addr.add_zero'] at hx133_3)
                  (try rw [show ((0 : Int)).toNat = 0 from rfl] at hx133_4)
                  (try rw [show 0 * 5 = 0 from rfl] at hx133_4)
                  (try rw [Addr.add_zero'] at hx133_4)
                  replace p133 := eq_true p133
                  replace q133 := eq_true q133
                  go_wp2_with (first | ((with_reducible refine gate_callee (f := 71) rfl ?_); refine goesL_ (some 40) rfl rfl Try.func71 (by kernel_rfl) rfl #[.int .i64 ((rd_T48 l0 0).f0)] rfl (by (try simp only [List.map_toArray, List.map_cons, List.map_nil]); first | done | rfl | (simp only [List.length_drop, List.length_take]; rfl)) ?_; (with_reducible refine (spec_l5Two.calls ((rd_T48 l0 0).f0) false _ A14.out).mono ?_); rintro e w' ⟨rfl, ⟨nd, rfl⟩⟩; refine ⟨_, rfl, ?_⟩; have p140 : 0 ≤ (0 : Int) := (by omega); have q140 : 0 < (l0.length : Int) := of_decide_eq_true (by first | (with_reducible assumption) | assumption); obtain ⟨ad140, e140, hx140_0, hx140_1, hx140_2, hx140_3, hx140_4⟩ := at_T48 HR0.out 0 p140 q140; obtain rfl : ad123 = ad140 := (by injection e140); have qi140 : (0 < l0.length) = True := eq_true (by omega); (try rw [show ((0 : Int)).toNat = 0 from rfl] at hx140_0); (try rw [show 0 * 5 = 0 from rfl] at hx140_0); (try rw [Addr.add_zero'] at hx140_0); (try rw [show ((0 : Int)).toNat = 0 from rfl] at hx140_1); (try rw [show 0 * 5 = 0 from rfl] at hx140_1); (try rw [Addr.add_zero'] at hx140_1); (try rw [show ((0 : Int)).toNat = 0 from rfl] at hx140_2); (try rw [show 0 * 5 = 0 from rfl] at hx140_2); (try rw [Addr.add_zero'] at hx140_2); (try rw [show ((0 : Int)).toNat = 0 from rfl] at hx140_3); (try rw [show 0 * 5 = 0 from rfl] at hx140_3); (try rw [Addr.add_zero'] at hx140_3); (try rw [show ((0 : Int)).toNat = 0 from rfl] at hx140_4); (try rw [show 0 * 5 = 0 from rfl] at hx140_4); (try rw [Addr.add_zero'] at hx140_4); replace p140 := eq_true p140; replace q140 := eq_true q140))
                  go_ret
                  exact ⟨by first | rfl | (simp; done) | (simp [*]; done), by repeat (first | exact Drawn0.refl _ | apply Drawn0.step)⟩
            · rw [if_neg c13] at H
              exact absurd H (by simp)
    · replace c4 := Bool.eq_false_iff.mpr c4
      subst c4
      have H1 : (some false) = some r := by rw [if_neg (show ¬ (false = true) by decide)] at H; exact H
      clear H
      have H := H1
      clear H1
      obtain rfl := Option.some.inj H
      have p123 : 0 ≤ (0 : Int) := (by omega)
      have q123 : 0 < (l0.length : Int) := of_decide_eq_true (by first | (with_reducible assumption) | assumption)
      obtain ⟨ad123, e123, hx123_0, hx123_1, hx123_2, hx123_3, hx123_4⟩ := at_T48 HR0.out 0 p123 q123
      cases e123
      have qi123 : (0 < l0.length) = True := eq_true (by omega)
      (try rw [show ((0 : Int)).toNat = 0 from rfl] at hx123_0)
      (try rw [show 0 * 5 = 0 from rfl] at hx123_0)
      (try rw [Addr.add_zero'] at hx123_0)
      (try rw [show ((0 : Int)).toNat = 0 from rfl] at hx123_1)
      (try rw [show 0 * 5 = 0 from rfl] at hx123_1)
      (try rw [Addr.add_zero'] at hx123_1)
      (try rw [show ((0 : Int)).toNat = 0 from rfl] at hx123_2)
      (try rw [show 0 * 5 = 0 from rfl] at hx123_2)
      (try rw [Addr.add_zero'] at hx123_2)
      (try rw [show ((0 : Int)).toNat = 0 from rfl] at hx123_3)
      (try rw [show 0 * 5 = 0 from rfl] at hx123_3)
      (try rw [Addr.add_zero'] at hx123_3)
      (try rw [show ((0 : Int)).toNat = 0 from rfl] at hx123_4)
      (try rw [show 0 * 5 = 0 from rfl] at hx123_4)
      (try rw [Addr.add_zero'] at hx123_4)
      replace p123 := eq_true p123
      replace q123 := eq_true q123
      go_enter Try.func51, Try.ntmps51
      go_wp2_with (first | ((with_reducible refine gate_callee (f := 52) rfl ?_); refine goesL_ (some 7) rfl rfl Try.func52 (by kernel_rfl) rfl #[.int .i64 ((rd_T48 l0 0).f0), .int .i64 1, .int .i64 12] rfl (by (try simp only [List.map_toArray, List.map_cons, List.map_nil]); first | done | rfl | (simp only [List.length_drop, List.length_take]; rfl)) ?_; (with_reducible refine (spec_l1In.calls ((rd_T48 l0 0).f0) 1 12 false _ A3.out).mono ?_); rintro e w' ⟨rfl, ⟨nd, rfl⟩⟩; refine ⟨_, rfl, ?_⟩))
      go_ret
      exact ⟨by first | rfl | (simp; done) | (simp [*]; done), by repeat (first | exact Drawn0.refl _ | apply Drawn0.step)⟩
  · rw [if_neg c2] at H
    exact absurd H (by simp)

end Go.Proofs.Ytaknnpphhbgfiaa.PFnExactCanBeEmpty
