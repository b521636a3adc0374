/- Functions of the given program as plain Lean functions, each with a proof that the Go code answers just so; made by a program of this session out of the translation. Conditions: those that each theorem names. -/
import Derived.Test.YtkocconggohdgaaPFnExactReadRangex0
import Derived.Test.YtkocconggohdgaaPFnExactReadRangex3
namespace Go.Proofs.Ytkocconggohdgaa.PFnExactReadRange
open Go.RowKit Go.Proofs.YtkocconggohdgaaW.PrintWords Go.Proofs.YtkocconggohdgaaW.PrintLast Go.Proofs.YtkocconggohdgaaW.PrintMore
attribute [local go_sem] max2_int min2_int max_two min_two max_three min_three max_four min_four   -- for this text's walks alone
set_option linter.unusedVariables false
set_option linter.unusedSimpArgs false

/-! ### spec_l3Fault: function 50 -/
mutual
def spec_l3Fault.j0 : Nat → List (S25) → Bool → Option (Int)
  | 0, _, _ => none
  | k + 1, x0, x18 => if x18 = true then (some 3) else (if 0 < (x0.length : Int) then (if (((rd_T25 x0 0).f2).length : Int) > ((rd_T25 x0 0).f1) then (some 2) else (spec_l3Fault.l0 k x0 0)) else (none))
def spec_l3Fault.l0 : Nat → List (S25) → Int → Option (Int)
  | 0, _, _ => none
  | k + 1, x0, x3 => if 0 < (x0.length : Int) then (if x3 < (((rd_T25 x0 0).f2).length : Int) then (if 0 ≤ x3 then ((spec_l1In.f ((rd_T80 ((rd_T25 x0 0).f2) x3).f0) 0 400).bind fun t187 => (if t187 = true then ((spec_l1In.f (((rd_T80 ((rd_T25 x0 0).f2) x3).f1).length : Int) 1 ((rd_T25 x0 0).f0)).bind fun t189 => (if t189 = true then ((spec_l3At.f k x0 ((rd_T80 ((rd_T25 x0 0).f2) x3).f0)).bind fun t190 => (if t190 = x3 then (spec_l3Fault.l0 k x0 (wrap64 (x3 + 1))) else (some 6))) else (some 1))) else (some 3))) else (none)) else (some 0)) else (none)
end
def spec_l3Fault.f (k : Nat) (l0 : List (S25)) : Option (Int) := if 0 < (l0.length : Int) then ((spec_l1In.f ((rd_T25 l0 0).f0) 1 64).bind fun t181 => (if t181 = true then ((spec_l1In.f ((rd_T25 l0 0).f1) 1 6).bind fun t182 => (spec_l3Fault.j0 k l0 (!t182))) else (spec_l3Fault.j0 k l0 true))) else (none)
theorem spec_l3Fault.mono_l : ∀ k, (∀ y0 y1, LeO (spec_l3Fault.j0 k y0 y1) (spec_l3Fault.j0 (k + 1) y0 y1)) ∧ (∀ y0 y1, LeO (spec_l3Fault.l0 k y0 y1) (spec_l3Fault.l0 (k + 1) y0 y1))
  | 0 => ⟨fun _ _ r h => by simp [spec_l3Fault.j0] at h, fun _ _ r h => by simp [spec_l3Fault.l0] at h⟩
  | k + 1 => by
    obtain ⟨ih0, ih1⟩ := spec_l3Fault.mono_l k
    refine ⟨?_, ?_⟩
    · intro y0 y1
      unfold spec_l3Fault.j0
      repeat' first
      | (with_reducible exact ih0 _ _)
      | (with_reducible exact ih1 _ _)
      | (with_reducible exact spec_l3At.mono _ _ _)
      | (with_reducible exact LeO.refl _)
      | (with_reducible exact LeO.none _)
      | (with_reducible refine LeO.ite ?_ ?_)
      | (with_reducible refine LeO.bind ?_ (fun _ => ?_))
      | exact ih0 _ _
      | exact ih1 _ _
      | exact spec_l3At.mono _ _ _
      | exact LeO.none _
      | refine LeO.ite ?_ ?_
      | refine LeO.bind ?_ (fun _ => ?_)
    · intro y0 y1
      unfold spec_l3Fault.l0
      repeat' first
      | (with_reducible exact ih0 _ _)
      | (with_reducible exact ih1 _ _)
      | (with_reducible exact spec_l3At.mono _ _ _)
      | (with_reducible exact LeO.refl _)
      | (with_reducible exact LeO.none _)
      | (with_reducible refine LeO.ite ?_ ?_)
      | (with_reducible refine LeO.bind ?_ (fun _ => ?_))
      | exact ih0 _ _
      | exact ih1 _ _
      | exact spec_l3At.mono _ _ _
      | exact LeO.none _
      | refine LeO.ite ?_ ?_
      | refine LeO.bind ?_ (fun _ => ?_)
theorem spec_l3Fault.mono : ∀ a0 k, LeO (spec_l3Fault.f k a0) (spec_l3Fault.f (k + 1) a0) := by
  intro a0 k
  obtain ⟨ih0, ih1⟩ := spec_l3Fault.mono_l k
  unfold spec_l3Fault.f
  repeat' first
      | (with_reducible exact ih0 _ _)
      | (with_reducible exact ih1 _ _)
      | (with_reducible exact spec_l3At.mono _ _ _)
      | (with_reducible exact LeO.refl _)
      | (with_reducible exact LeO.none _)
      | (with_reducible refine LeO.ite ?_ ?_)
      | (with_reducible refine LeO.bind ?_ (fun _ => ?_))
      | exact ih0 _ _
      | exact ih1 _ _
      | exact spec_l3At.mono _ _ _
      | exact LeO.none _
      | refine LeO.ite ?_ ?_
      | refine LeO.bind ?_ (fun _ => ?_)
set_option maxHeartbeats 8000000 in
set_option maxRecDepth 100000 in
theorem spec_l3Fault.calls (k : Nat) (A0 : Option Addr) (c0 : Nat) (l0 : List (S25)) (r : Int) (w : World) (hr0 : Kd.C k25 w A0 l0.length l0) (hc0 : l0.length ≤ c0) (h : spec_l3Fault.f k l0 = some r) :
    Calls Try.prog 50 #[.pointer A0] w fun e w' => e = .returned (.int .i64 r) ∧ Drawn0 w w' := by
  have HR0 := Aside0.mk hr0
  have HC0 := Aside0.mk hc0
  clear hr0 hc0
  have H : (if 0 < (l0.length : Int) then ((spec_l1In.f ((rd_T25 l0 0).f0) 1 64).bind fun t181 => (if t181 = true then ((spec_l1In.f ((rd_T25 l0 0).f1) 1 6).bind fun t182 => (spec_l3Fault.j0 k l0 (!t182))) else (spec_l3Fault.j0 k l0 true))) else (none)) = some r := h
  clear h
  have HC2 := Aside0.mk H
  clear H
  go_enter Try.func50, Try.ntmps50
  go_upto_region 1 with (fail)
  repeat (go_quiet (fail); go_upto_region 1 with (fail))
  go_cut [18] (fun v18 wc => ∃ (kq : Nat) (x18_1 : Bool), v18 = .bool x18_1 ∧ Aside0 (spec_l3Fault.j0 kq l0 x18_1 = some r) ∧ Aside0 (kq ≤ k) ∧ Drawn0 w wc)
  case first =>
    have H := HC2.out
    clear HC2
    by_cases c3 : 0 < (l0.length : Int)
    · rw [if_pos c3] at H
      have c3b0 : decide (0 < (l0.length : Int)) = true := decide_eq_true c3
      have c3b1 : decide (0 < l0.length) = true := decide_eq_true (by omega)
      clear c3
      (first | rw [c3b0] | (simp only [i64_w, i32_w]; rw [c3b0]) | skip)
      replace H := Option.bind_eq_some_iff.mp H
      obtain ⟨t181, A40, H⟩ := H
      try dsimp only at H
      have A4 := Aside0.mk A40
      clear A40
      by_cases c5 : t181 = true
      · subst c5
        rw [if_pos rfl] at H
        replace H := Option.bind_eq_some_iff.mp H
        obtain ⟨t182, A60, H⟩ := H
        try dsimp only at H
        have A6 := Aside0.mk A60
        clear A60
        have H' := Aside0.mk H
        clear H
        have p180 : 0 ≤ (0 : Int) := (by omega)
        have q180 : 0 < (l0.length : Int) := of_decide_eq_true (by first | (with_reducible assumption) | assumption)
        obtain ⟨ad180, A180_2, c180_2, e180, hx180_0, hx180_1, hx180_2, hl180_2, hi180_2⟩ := at_T25 HR0.out 0 p180 q180
        cases e180
        have qi180 : (0 < l0.length) = True := eq_true (by omega)
        (try rw [show ((0 : Int)).toNat = 0 from rfl] at hx180_0)
        (try rw [show 0 * 3 = 0 from rfl] at hx180_0)
        (try rw [Addr.add_zero'] at hx180_0)
        (try rw [show ((0 : Int)).toNat = 0 from rfl] at hx180_1)
        (try rw [show 0 * 3 = 0 from rfl] at hx180_1)
        (try rw [Addr.add_zero'] at hx180_1)
        (try rw [show ((0 : Int)).toNat = 0 from rfl] at hx180_2)
        (try rw [show 0 * 3 = 0 from rfl] at hx180_2)
        (try rw [Addr.add_zero'] at hx180_2)
        have HR180_2 := Aside0.mk hi180_2
        have HC180_2 := Aside0.mk hl180_2
        clear hi180_2 hl180_2
        replace p180 := eq_true p180
        replace q180 := eq_true q180
        go_wp2_with (first | (go_at_call 43; (with_reducible refine (spec_l1In.calls ((rd_T25 l0 0).f0) 1 64 true _ A4.out).mono ?_); rintro e w' ⟨rfl, ⟨nd, rfl⟩⟩; (try first | exact ⟨rfl, _, World.drewN_drewN _ _ _⟩ | exact ⟨rfl, _, Eq.trans (World.drewN_drewN _ _ _) (congrArg (World.drewN _) (Nat.add_assoc _ _ _))⟩)) | (go_at_call 43; (with_reducible refine (spec_l1In.calls ((rd_T25 l0 0).f1) 1 6 t182 _ A6.out).mono ?_); rintro e w' ⟨rfl, ⟨nd, rfl⟩⟩; (try first | exact ⟨rfl, _, World.drewN_drewN _ _ _⟩ | exact ⟨rfl, _, Eq.trans (World.drewN_drewN _ _ _) (congrArg (World.drewN _) (Nat.add_assoc _ _ _))⟩)))
        repeat (go_quiet (first | (go_at_call 43; (with_reducible refine (spec_l1In.calls ((rd_T25 l0 0).f0) 1 64 true _ A4.out).mono ?_); rintro e w' ⟨rfl, ⟨nd, rfl⟩⟩; (try first | exact ⟨rfl, _, World.drewN_drewN _ _ _⟩ | exact ⟨rfl, _, Eq.trans (World.drewN_drewN _ _ _) (congrArg (World.drewN _) (Nat.add_assoc _ _ _))⟩)) | (go_at_call 43; (with_reducible refine (spec_l1In.calls ((rd_T25 l0 0).f1) 1 6 t182 _ A6.out).mono ?_); rintro e w' ⟨rfl, ⟨nd, rfl⟩⟩; (try first | exact ⟨rfl, _, World.drewN_drewN _ _ _⟩ | exact ⟨rfl, _, Eq.trans (World.drewN_drewN _ _ _) (congrArg (World.drewN _) (Nat.add_assoc _ _ _))⟩))); try go_wp2_with (first | (go_at_call 43; (with_reducible refine (spec_l1In.calls ((rd_T25 l0 0).f0) 1 64 true _ A4.out).mono ?_); rintro e w' ⟨rfl, ⟨nd, rfl⟩⟩; (try first | exact ⟨rfl, _, World.drewN_drewN _ _ _⟩ | exact ⟨rfl, _, Eq.trans (World.drewN_drewN _ _ _) (congrArg (World.drewN _) (Nat.add_assoc _ _ _))⟩)) | (go_at_call 43; (with_reducible refine (spec_l1In.calls ((rd_T25 l0 0).f1) 1 6 t182 _ A6.out).mono ?_); rintro e w' ⟨rfl, ⟨nd, rfl⟩⟩; (try first | exact ⟨rfl, _, World.drewN_drewN _ _ _⟩ | exact ⟨rfl, _, Eq.trans (World.drewN_drewN _ _ _) (congrArg (World.drewN _) (Nat.add_assoc _ _ _))⟩))))
        go_meet
        case rel => exact ⟨_, (!t182), (by first | rfl | (simp; done) | (simp [*]; done)), H', ⟨by first | omega | exact Nat.le_refl _⟩, by repeat (first | exact Drawn0.refl _ | apply Drawn0.step)⟩
      · replace c5 := Bool.eq_false_iff.mpr c5
        subst c5
        have H1 : (spec_l3Fault.j0 k l0 true) = some r := by rw [if_neg (show ¬ (false = true) by decide)] at H; exact H
        clear H
        have H := H1
        clear H1
        have H' := Aside0.mk H
        clear H
        have p180 : 0 ≤ (0 : Int) := (by omega)
        have q180 : 0 < (l0.length : Int) := of_decide_eq_true (by first | (with_reducible assumption) | assumption)
        obtain ⟨ad180, A180_2, c180_2, e180, hx180_0, hx180_1, hx180_2, hl180_2, hi180_2⟩ := at_T25 HR0.out 0 p180 q180
        cases e180
        have qi180 : (0 < l0.length) = True := eq_true (by omega)
        (try rw [show ((0 : Int)).toNat = 0 from rfl] at hx180_0)
        (try rw [show 0 * 3 = 0 from rfl] at hx180_0)
        (try rw [Addr.add_zero'] at hx180_0)
        (try rw [show ((0 : Int)).toNat = 0 from rfl] at hx180_1)
        (try rw [show 0 * 3 = 0 from rfl] at hx180_1)
        (try rw [Addr.add_zero'] at hx180_1)
        (try rw [show ((0 : Int)).toNat = 0 from rfl] at hx180_2)
        (try rw [show 0 * 3 = 0 from rfl] at hx180_2)
        (try rw [Addr.add_zero'] at hx180_2)
        have HR180_2 := Aside0.mk hi180_2
        have HC180_2 := Aside0.mk hl180_2
        clear hi180_2 hl180_2
        replace p180 := eq_true p180
        replace q180 := eq_true q180
        go_wp2_with (first | (go_at_call 43; (with_reducible refine (spec_l1In.calls ((rd_T25 l0 0).f0) 1 64 false _ A4.out).mono ?_); rintro e w' ⟨rfl, ⟨nd, rfl⟩⟩; (try first | exact ⟨rfl, _, World.drewN_drewN _ _ _⟩ | exact ⟨rfl, _, Eq.trans (World.drewN_drewN _ _ _) (congrArg (World.drewN _) (Nat.add_assoc _ _ _))⟩)))
        repeat (go_quiet (first | (go_at_call 43; (with_reducible refine (spec_l1In.calls ((rd_T25 l0 0).f0) 1 64 false _ A4.out).mono ?_); rintro e w' ⟨rfl, ⟨nd, rfl⟩⟩; (try first | exact ⟨rfl, _, World.drewN_drewN _ _ _⟩ | exact ⟨rfl, _, Eq.trans (World.drewN_drewN _ _ _) (congrArg (World.drewN _) (Nat.add_assoc _ _ _))⟩))); try go_wp2_with (first | (go_at_call 43; (with_reducible refine (spec_l1In.calls ((rd_T25 l0 0).f0) 1 64 false _ A4.out).mono ?_); rintro e w' ⟨rfl, ⟨nd, rfl⟩⟩; (try first | exact ⟨rfl, _, World.drewN_drewN _ _ _⟩ | exact ⟨rfl, _, Eq.trans (World.drewN_drewN _ _ _) (congrArg (World.drewN _) (Nat.add_assoc _ _ _))⟩))))
        go_meet
        case rel => exact ⟨_, (true), (by first | rfl | (simp; done) | (simp [*]; done)), H', ⟨by first | omega | exact Nat.le_refl _⟩, by repeat (first | exact Drawn0.refl _ | apply Drawn0.step)⟩
    · rw [if_neg c3] at H
      exact absurd H (by simp)
  case rest =>
    clear HC2
    try clear c1
    try clear p1
    try clear q1
    try clear hx1
    try clear qi1
    try clear p2
    try clear c3
    try clear c3b0
    try clear c3b1
    try clear c5
    try clear hx180_0
    try clear hx180_1
    try clear hx180_2
    try clear p180
    try clear q180
    obtain ⟨kq, x18_1, rfl, HA, HJ1, ⟨mc1, rfl⟩⟩ := hcut
    cases kq with
    | zero => exact absurd HA.out (by simp [spec_l3Fault.j0])
    | succ kj1 =>
      have H := HA.out
      clear HA
      simp only [spec_l3Fault.j0] at H
      by_cases c7 : x18_1 = true
      · subst c7
        rw [if_pos rfl] at H
        obtain rfl := Option.some.inj H
        go_wp2
        repeat (go_quiet (fail); try go_wp2)
        go_ret
        exact ⟨by first | rfl | (simp; done) | (simp [*]; done), by repeat (first | exact Drawn0.refl _ | apply Drawn0.step)⟩
      · replace c7 := Bool.eq_false_iff.mpr c7
        subst c7
        have H1 : (if 0 < (l0.length : Int) then (if (((rd_T25 l0 0).f2).length : Int) > ((rd_T25 l0 0).f1) then (some 2) else (spec_l3Fault.l0 kj1 l0 0)) else (none)) = some r := by rw [if_neg (show ¬ (false = true) by decide)] at H; exact H
        clear H
        have H := H1
        clear H1
        by_cases c8 : 0 < (l0.length : Int)
        · rw [if_pos c8] at H
          have c8b0 : decide (0 < (l0.length : Int)) = true := decide_eq_true c8
          have c8b1 : decide (0 < l0.length) = true := decide_eq_true (by omega)
          clear c8
          by_cases c9 : (((rd_T25 l0 0).f2).length : Int) > ((rd_T25 l0 0).f1)
          · rw [if_pos c9] at H
            have c9b0 : decide (((rd_T25 l0 0).f1) < (((rd_T25 l0 0).f2).length : Int)) = true := decide_eq_true c9
            clear c9
            obtain rfl := Option.some.inj H
            have p183 : 0 ≤ (0 : Int) := (by omega)
            have q183 : 0 < (l0.length : Int) := of_decide_eq_true (by first | (with_reducible assumption) | assumption)
            obtain ⟨ad183, A183_2, c183_2, e183, hx183_0, hx183_1, hx183_2, hl183_2, hi183_2⟩ := at_T25 HR0.out 0 p183 q183
            cases e183
            have qi183 : (0 < l0.length) = True := eq_true (by omega)
            (try rw [show ((0 : Int)).toNat = 0 from rfl] at hx183_0)
            (try rw [show 0 * 3 = 0 from rfl] at hx183_0)
            (try rw [Addr.add_zero'] at hx183_0)
            (try rw [show ((0 : Int)).toNat = 0 from rfl] at hx183_1)
            (try rw [show 0 * 3 = 0 from rfl] at hx183_1)
            (try rw [Addr.add_zero'] at hx183_1)
            (try rw [show ((0 : Int)).toNat = 0 from rfl] at hx183_2)
            (try rw [show 0 * 3 = 0 from rfl] at hx183_2)
            (try rw [Addr.add_zero'] at hx183_2)
            have HR183_2 := Aside0.mk hi183_2
            have HC183_2 := Aside0.mk hl183_2
            clear hi183_2 hl183_2
            replace p183 := eq_true p183
            replace q183 := eq_true q183
            go_wp2
            repeat (go_quiet (fail); try go_wp2)
            go_ret
            exact ⟨by first | rfl | (simp; done) | (simp [*]; done), by repeat (first | exact Drawn0.refl _ | apply Drawn0.step)⟩
          · rw [if_neg c9] at H
            have c9b0 : decide (((rd_T25 l0 0).f1) < (((rd_T25 l0 0).f2).length : Int)) = false := decide_eq_false c9
            clear c9
            have H' := Aside0.mk H
            clear H
            have p183 : 0 ≤ (0 : Int) := (by omega)
            have q183 : 0 < (l0.length : Int) := of_decide_eq_true (by first | (with_reducible assumption) | assumption)
            obtain ⟨ad183, A183_2, c183_2, e183, hx183_0, hx183_1, hx183_2, hl183_2, hi183_2⟩ := at_T25 HR0.out 0 p183 q183
            cases e183
            have qi183 : (0 < l0.length) = True := eq_true (by omega)
            (try rw [show ((0 : Int)).toNat = 0 from rfl] at hx183_0)
            (try rw [show 0 * 3 = 0 from rfl] at hx183_0)
            (try rw [Addr.add_zero'] at hx183_0)
            (try rw [show ((0 : Int)).toNat = 0 from rfl] at hx183_1)
            (try rw [show 0 * 3 = 0 from rfl] at hx183_1)
            (try rw [Addr.add_zero'] at hx183_1)
            (try rw [show ((0 : Int)).toNat = 0 from rfl] at hx183_2)
            (try rw [show 0 * 3 = 0 from rfl] at hx183_2)
            (try rw [Addr.add_zero'] at hx183_2)
            have HR183_2 := Aside0.mk hi183_2
            have HC183_2 := Aside0.mk hl183_2
            clear hi183_2 hl183_2
            replace p183 := eq_true p183
            replace q183 := eq_true q183
            go_wp2
            repeat (go_quiet (fail); try go_wp2)
            go_loopg [3] kj1 (fun kq v3 w' => ∃ (x3_2 : Int), v3 = .int .i64 x3_2 ∧ Aside0 (spec_l3Fault.l0 kq l0 x3_2 = some r) ∧ Aside0 (kq ≤ kj1) ∧ Drawn0 w w')
            case atStart => exact ⟨(0), (by first | rfl | (simp; done) | (simp [*]; done)), H', ⟨Nat.le_refl _⟩, by repeat (first | exact Drawn0.refl _ | apply Drawn0.step)⟩
            case round =>
              clear H'
              try clear c1
              try clear p1
              try clear q1
              try clear hx1
              try clear qi1
              try clear p2
              try clear c3
              try clear c3b0
              try clear c3b1
              try clear c5
              try clear c7
              try clear c8
              try clear c8b0
              try clear c8b1
              try clear c9
              try clear c9b0
              try clear hx180_0
              try clear hx180_1
              try clear hx180_2
              try clear hx183_0
              try clear hx183_1
              try clear hx183_2
              try clear p1
              try clear p180
              try clear p183
              try clear p2
              try clear q1
              try clear q180
              try clear q183
              obtain ⟨x3_2, rfl, HA, HK2, ⟨m2, rfl⟩⟩ := hrel
              cases gk with
              | zero => exact absurd HA.out (by simp [spec_l3Fault.l0])
              | succ k2 =>
                have H := HA.out
                clear HA
                simp only [spec_l3Fault.l0] at H
                by_cases c10 : 0 < (l0.length : Int)
                · rw [if_pos c10] at H
                  have c10b0 : decide (0 < (l0.length : Int)) = true := decide_eq_true c10
                  have c10b1 : decide (0 < l0.length) = true := decide_eq_true (by omega)
                  clear c10
                  by_cases c11 : x3_2 < (((rd_T25 l0 0).f2).length : Int)
                  · rw [if_pos c11] at H
                    have c11b0 : decide (x3_2 < (((rd_T25 l0 0).f2).length : Int)) = true := decide_eq_true c11
                    clear c11
                    by_cases c12 : 0 ≤ x3_2
                    · rw [if_pos c12] at H
                      have c12b0 : decide (0 ≤ x3_2) = true := decide_eq_true c12
                      clear c12
                      replace H := Option.bind_eq_some_iff.mp H
                      obtain ⟨t187, A130, H⟩ := H
                      try dsimp only at H
                      have A13 := Aside0.mk A130
                      clear A130
                      by_cases c14 : t187 = true
                      · subst c14
                        rw [if_pos rfl] at H
                        replace H := Option.bind_eq_some_iff.mp H
                        obtain ⟨t189, A150, H⟩ := H
                        try dsimp only at H
                        have A15 := Aside0.mk A150
                        clear A150
                        by_cases c16 : t189 = true
                        · subst c16
                          rw [if_pos rfl] at H
                          replace H := Option.bind_eq_some_iff.mp H
                          obtain ⟨t190, A170, H⟩ := H
                          try dsimp only at H
                          have A17 := Aside0.mk A170
                          clear A170
                          by_cases c18 : t190 = x3_2
                          · rw [if_pos c18] at H
                            have c18b0 : (t190 == x3_2) = true := beq_iff_eq.mpr c18
                            have c18b1 : (t190 != x3_2) = false := bne_eq_false_iff_eq.mpr c18
                            clear c18
                            have H' := Aside0.mk H
                            clear H
                            have p184 : 0 ≤ (0 : Int) := (by omega)
                            have q184 : 0 < (l0.length : Int) := of_decide_eq_true (by first | (with_reducible assumption) | assumption)
                            obtain ⟨ad184, A184_2, c184_2, e184, hx184_0, hx184_1, hx184_2, hl184_2, hi184_2⟩ := at_T25 HR0.out 0 p184 q184
                            obtain rfl : ad183 = ad184 := (by injection e184)
                            have qi184 : (0 < l0.length) = True := eq_true (by omega)
                            (try rw [show ((0 : Int)).toNat = 0 from rfl] at hx184_0)
                            (try rw [show 0 * 3 = 0 from rfl] at hx184_0)
                            (try rw [Addr.add_zero'] at hx184_0)
                            (try rw [show ((0 : Int)).toNat = 0 from rfl] at hx184_1)
                            (try rw [show 0 * 3 = 0 from rfl] at hx184_1)
                            (try rw [Addr.add_zero'] at hx184_1)
                            (try rw [show ((0 : Int)).toNat = 0 from rfl] at hx184_2)
                            (try rw [show 0 * 3 = 0 from rfl] at hx184_2)
                            (try rw [Addr.add_zero'] at hx184_2)
                            have HR184_2 := Aside0.mk hi184_2
                            have HC184_2 := Aside0.mk hl184_2
                            clear hi184_2 hl184_2
                            replace p184 := eq_true p184
                            replace q184 := eq_true q184
                            have p185 : 0 ≤ (0 : Int) := (by omega)
                            have q185 : 0 < (l0.length : Int) := of_decide_eq_true (by first | (with_reducible assumption) | assumption)
                            obtain ⟨ad185, A185_2, c185_2, e185, hx185_0, hx185_1, hx185_2, hl185_2, hi185_2⟩ := at_T25 HR0.out 0 p185 q185
                            obtain rfl : ad183 = ad185 := (by injection e185)
                            have qi185 : (0 < l0.length) = True := eq_true (by omega)
                            (try rw [show ((0 : Int)).toNat = 0 from rfl] at hx185_0)
                            (try rw [show 0 * 3 = 0 from rfl] at hx185_0)
                            (try rw [Addr.add_zero'] at hx185_0)
                            (try rw [show ((0 : Int)).toNat = 0 from rfl] at hx185_1)
                            (try rw [show 0 * 3 = 0 from rfl] at hx185_1)
                            (try rw [Addr.add_zero'] at hx185_1)
                            (try rw [show ((0 : Int)).toNat = 0 from rfl] at hx185_2)
                            (try rw [show 0 * 3 = 0 from rfl] at hx185_2)
                            (try rw [Addr.add_zero'] at hx185_2)
                            have HR185_2 := Aside0.mk hi185_2
                            have HC185_2 := Aside0.mk hl185_2
                            clear hi185_2 hl185_2
                            replace p185 := eq_true p185
                            replace q185 := eq_true q185
                            have ea_ := Option.some.inj (hx184_2.symm.trans hx185_2)
                            injection ea_ with ea_ en_ ec_
                            subst ea_
                            subst ec_
                            clear en_
                            have p186 : 0 ≤ (x3_2 : Int) := of_decide_eq_true (by first | (with_reducible assumption) | assumption)
                            have q186 : x3_2 < (((rd_T25 l0 0).f2).length : Int) := of_decide_eq_true (by first | (with_reducible assumption) | assumption)
                            obtain ⟨ad186, A186_1, c186_1, e186, hx186_0, hx186_1, hl186_1, hi186_1⟩ := at_T80 HR185_2.out x3_2 p186 q186
                            cases e186
                            have HR186_1 := Aside0.mk hi186_1
                            have HC186_1 := Aside0.mk hl186_1
                            clear hi186_1 hl186_1
                            replace p186 := eq_true p186
                            replace q186 := eq_true q186
                            go_wp2_with (first | (go_at_call 43; (with_reducible refine (spec_l1In.calls ((rd_T80 ((rd_T25 l0 0).f2) x3_2).f0) 0 400 true _ A13.out).mono ?_); rintro e w' ⟨rfl, ⟨nd, rfl⟩⟩; (try first | exact ⟨rfl, _, World.drewN_drewN _ _ _⟩ | exact ⟨rfl, _, Eq.trans (World.drewN_drewN _ _ _) (congrArg (World.drewN _) (Nat.add_assoc _ _ _))⟩); have p188 : 0 ≤ (0 : Int) := (by omega); have q188 : 0 < (l0.length : Int) := of_decide_eq_true (by first | (with_reducible assumption) | assumption); obtain ⟨ad188, A188_2, c188_2, e188, hx188_0, hx188_1, hx188_2, hl188_2, hi188_2⟩ := at_T25 HR0.out 0 p188 q188; obtain rfl : ad183 = ad188 := (by injection e188); have qi188 : (0 < l0.length) = True := eq_true (by omega); (try rw [show ((0 : Int)).toNat = 0 from rfl] at hx188_0); (try rw [show 0 * 3 = 0 from rfl] at hx188_0); (try rw [Addr.add_zero'] at hx188_0); (try rw [show ((0 : Int)).toNat = 0 from rfl] at hx188_1); (try rw [show 0 * 3 = 0 from rfl] at hx188_1); (try rw [Addr.add_zero'] at hx188_1); (try rw [show ((0 : Int)).toNat = 0 from rfl] at hx188_2); (try rw [show 0 * 3 = 0 from rfl] at hx188_2); (try rw [Addr.add_zero'] at hx188_2); have HR188_2 := Aside0.mk hi188_2; have HC188_2 := Aside0.mk hl188_2; clear hi188_2 hl188_2; replace p188 := eq_true p188; replace q188 := eq_true q188; have ea_ := Option.some.inj (hx184_2.symm.trans hx188_2); injection ea_ with ea_ en_ ec_; subst ea_; subst ec_; clear en_) | (go_at_call 43; (with_reducible refine (spec_l1In.calls (((rd_T80 ((rd_T25 l0 0).f2) x3_2).f1).length : Int) 1 ((rd_T25 l0 0).f0) true _ A15.out).mono ?_); rintro e w' ⟨rfl, ⟨nd, rfl⟩⟩; (try first | exact ⟨rfl, _, World.drewN_drewN _ _ _⟩ | exact ⟨rfl, _, Eq.trans (World.drewN_drewN _ _ _) (congrArg (World.drewN _) (Nat.add_assoc _ _ _))⟩)) | (go_at_call 81; (with_reducible refine (spec_l3At.calls k2 _ (l0).length l0 ((rd_T80 ((rd_T25 l0 0).f2) x3_2).f0) t190 _ ?side1 ?side2 A17.out).mono ?_); (case side1 => repeat (first | exact HR0.out | (with_reducible refine Kd.C_alloc ?_ _) | (with_reducible refine Kd.C_drewN ?_ _) | (with_reducible refine Kd.C_drew ?_))); (case side2 => exact Nat.le_refl _); rintro e w' ⟨rfl, ⟨nd, rfl⟩⟩; (try first | exact ⟨rfl, _, World.drewN_drewN _ _ _⟩ | exact ⟨rfl, _, Eq.trans (World.drewN_drewN _ _ _) (congrArg (World.drewN _) (Nat.add_assoc _ _ _))⟩)))
                            repeat (go_quiet (first | (go_at_call 43; (with_reducible refine (spec_l1In.calls ((rd_T80 ((rd_T25 l0 0).f2) x3_2).f0) 0 400 true _ A13.out).mono ?_); rintro e w' ⟨rfl, ⟨nd, rfl⟩⟩; (try first | exact ⟨rfl, _, World.drewN_drewN _ _ _⟩ | exact ⟨rfl, _, Eq.trans (World.drewN_drewN _ _ _) (congrArg (World.drewN _) (Nat.add_assoc _ _ _))⟩); have p188 : 0 ≤ (0 : Int) := (by omega); have q188 : 0 < (l0.length : Int) := of_decide_eq_true (by first | (with_reducible assumption) | assumption); obtain ⟨ad188, A188_2, c188_2, e188, hx188_0, hx188_1, hx188_2, hl188_2, hi188_2⟩ := at_T25 HR0.out 0 p188 q188; obtain rfl : ad183 = ad188 := (by injection e188); have qi188 : (0 < l0.length) = True := eq_true (by omega); (try rw [show ((0 : Int)).toNat = 0 from rfl] at hx188_0); (try rw [show 0 * 3 = 0 from rfl] at hx188_0); (try rw [Addr.add_zero'] at hx188_0); (try rw [show ((0 : Int)).toNat = 0 from rfl] at hx188_1); (try rw [show 0 * 3 = 0 from rfl] at hx188_1); (try rw [Addr.add_zero'] at hx188_1); (try rw [show ((0 : Int)).toNat = 0 from rfl] at hx188_2); (try rw [show 0 * 3 = 0 from rfl] at hx188_2); (try rw [Addr.add_zero'] at hx188_2); have HR188_2 := Aside0.mk hi188_2; have HC188_2 := Aside0.mk hl188_2; clear hi188_2 hl188_2; replace p188 := eq_true p188; replace q188 := eq_true q188; have ea_ := Option.some.inj (hx184_2.symm.trans hx188_2); injection ea_ with ea_ en_ ec_; subst ea_; subst ec_; clear en_) | (go_at_call 43; (with_reducible refine (spec_l1In.calls (((rd_T80 ((rd_T25 l0 0).f2) x3_2).f1).length : Int) 1 ((rd_T25 l0 0).f0) true _ A15.out).mono ?_); rintro e w' ⟨rfl, ⟨nd, rfl⟩⟩; (try first | exact ⟨rfl, _, World.drewN_drewN _ _ _⟩ | exact ⟨rfl, _, Eq.trans (World.drewN_drewN _ _ _) (congrArg (World.drewN _) (Nat.add_assoc _ _ _))⟩)) | (go_at_call 81; (with_reducible refine (spec_l3At.calls k2 _ (l0).length l0 ((rd_T80 ((rd_T25 l0 0).f2) x3_2).f0) t190 _ ?side1 ?side2 A17.out).mono ?_); (case side1 => repeat (first | exact HR0.out | (with_reducible refine Kd.C_alloc ?_ _) | (with_reducible refine Kd.C_drewN ?_ _) | (with_reducible refine Kd.C_drew ?_))); (case side2 => exact Nat.le_refl _); rintro e w' ⟨rfl, ⟨nd, rfl⟩⟩; (try first | exact ⟨rfl, _, World.drewN_drewN _ _ _⟩ | exact ⟨rfl, _, Eq.trans (World.drewN_drewN _ _ _) (congrArg (World.drewN _) (Nat.add_assoc _ _ _))⟩))); try go_wp2_with (first | (go_at_call 43; (with_reducible refine (spec_l1In.calls ((rd_T80 ((rd_T25 l0 0).f2) x3_2).f0) 0 400 true _ A13.out).mono ?_); rintro e w' ⟨rfl, ⟨nd, rfl⟩⟩; (try first | exact ⟨rfl, _, World.drewN_drewN _ _ _⟩ | exact ⟨rfl, _, Eq.trans (World.drewN_drewN _ _ _) (congrArg (World.drewN _) (Nat.add_assoc _ _ _))⟩); have p188 : 0 ≤ (0 : Int) := (by omega); have q188 : 0 < (l0.length : Int) := of_decide_eq_true (by first | (with_reducible assumption) | assumption); obtain ⟨ad188, A188_2, c188_2, e188, hx188_0, hx188_1, hx188_2, hl188_2, hi188_2⟩ := at_T25 HR0.out 0 p188 q188; obtain rfl : ad183 = ad188 := (by injection e188); have qi188 : (0 < l0.length) = True := eq_true (by omega); (try rw [show ((0 : Int)).toNat = 0 from rfl] at hx188_0); (try rw [show 0 * 3 = 0 from rfl] at hx188_0); (try rw [Addr.add_zero'] at hx188_0); (try rw [show ((0 : Int)).toNat = 0 from rfl] at hx188_1); (try rw [show 0 * 3 = 0 from rfl] at hx188_1); (try rw [Addr.add_zero'] at hx188_1); (try rw [show ((0 : Int)).toNat = 0 from rfl] at hx188_2); (try rw [show 0 * 3 = 0 from rfl] at hx188_2); (try rw [Addr.add_zero'] at hx188_2); have HR188_2 := Aside0.mk hi188_2; have HC188_2 := Aside0.mk hl188_2; clear hi188_2 hl188_2; replace p188 := eq_true p188; replace q188 := eq_true q188; have ea_ := Option.some.inj (hx184_2.symm.trans hx188_2); injection ea_ with ea_ en_ ec_; subst ea_; subst ec_; clear en_) | (go_at_call 43; (with_reducible refine (spec_l1In.calls (((rd_T80 ((rd_T25 l0 0).f2) x3_2).f1).length : Int) 1 ((rd_T25 l0 0).f0) true _ A15.out).mono ?_); rintro e w' ⟨rfl, ⟨nd, rfl⟩⟩; (try first | exact ⟨rfl, _, World.drewN_drewN _ _ _⟩ | exact ⟨rfl, _, Eq.trans (World.drewN_drewN _ _ _) (congrArg (World.drewN _) (Nat.add_assoc _ _ _))⟩)) | (go_at_call 81; (with_reducible refine (spec_l3At.calls k2 _ (l0).length l0 ((rd_T80 ((rd_T25 l0 0).f2) x3_2).f0) t190 _ ?side1 ?side2 A17.out).mono ?_); (case side1 => repeat (first | exact HR0.out | (with_reducible refine Kd.C_alloc ?_ _) | (with_reducible refine Kd.C_drewN ?_ _) | (with_reducible refine Kd.C_drew ?_))); (case side2 => exact Nat.le_refl _); rintro e w' ⟨rfl, ⟨nd, rfl⟩⟩; (try first | exact ⟨rfl, _, World.drewN_drewN _ _ _⟩ | exact ⟨rfl, _, Eq.trans (World.drewN_drewN _ _ _) (congrArg (World.drewN _) (Nat.add_assoc _ _ _))⟩))))
                            go_roundg k2
                            case measure => have := HJ1.out; have := HK2.out; omega
                            case rel => exact ⟨(wrap64 (x3_2 + 1)), (by first | rfl | (simp; done) | (simp [*]; done)), H', ⟨by have := HJ1.out; have := HK2.out; omega⟩, by repeat (first | exact Drawn0.refl _ | apply Drawn0.step)⟩
                          · rw [if_neg c18] at H
                            have c18b0 : (t190 == x3_2) = false := beq_eq_false_iff_ne.mpr c18
                            have c18b1 : (t190 != x3_2) = true := bne_iff_ne.mpr c18
                            obtain rfl := Option.some.inj H
                            have p184 : 0 ≤ (0 : Int) := (by omega)
                            have q184 : 0 < (l0.length : Int) := of_decide_eq_true (by first | (with_reducible assumption) | assumption)
                            obtain ⟨ad184, A184_2, c184_2, e184, hx184_0, hx184_1, hx184_2, hl184_2, hi184_2⟩ := at_T25 HR0.out 0 p184 q184
                            obtain rfl : ad183 = ad184 := (by injection e184)
                            have qi184 : (0 < l0.length) = True := eq_true (by omega)
                            (try rw [show ((0 : Int)).toNat = 0 from rfl] at hx184_0)
                            (try rw [show 0 * 3 = 0 from rfl] at hx184_0)
                            (try rw [Addr.add_zero'] at hx184_0)
                            (try rw [show ((0 : Int)).toNat = 0 from rfl] at hx184_1)
                            (try rw [show 0 * 3 = 0 from rfl] at hx184_1)
                            (try rw [Addr.add_zero'] at hx184_1)
                            (try rw [show ((0 : Int)).toNat = 0 from rfl] at hx184_2)
                            (try rw [show 0 * 3 = 0 from rfl] at hx184_2)
                            (try rw [Addr.add_zero'] at hx184_2)
                            have HR184_2 := Aside0.mk hi184_2
                            have HC184_2 := Aside0.mk hl184_2
                            clear hi184_2 hl184_2
                            replace p184 := eq_true p184
                            replace q184 := eq_true q184
                            have p185 : 0 ≤ (0 : Int) := (by omega)
                            have q185 : 0 < (l0.length : Int) := of_decide_eq_true (by first | (with_reducible assumption) | assumption)
                            obtain ⟨ad185, A185_2, c185_2, e185, hx185_0, hx185_1, hx185_2, hl185_2, hi185_2⟩ := at_T25 HR0.out 0 p185 q185
                            obtain rfl : ad183 = ad185 := (by injection e185)
                            have qi185 : (0 < l0.length) = True := eq_true (by omega)
                            (try rw [show ((0 : Int)).toNat = 0 from rfl] at hx185_0)
                            (try rw [show 0 * 3 = 0 from rfl] at hx185_0)
                            (try rw [Addr.add_zero'] at hx185_0)
                            (try rw [show ((0 : Int)).toNat = 0 from rfl] at hx185_1)
                            (try rw [show 0 * 3 = 0 from rfl] at hx185_1)
                            (try rw [Addr.add_zero'] at hx185_1)
                            (try rw [show ((0 : Int)).toNat = 0 from rfl] at hx185_2)
                            (try rw [show 0 * 3 = 0 from rfl] at hx185_2)
                            (try rw [Addr.add_zero'] at hx185_2)
                            have HR185_2 := Aside0.mk hi185_2
                            have HC185_2 := Aside0.mk hl185_2
                            clear hi185_2 hl185_2
                            replace p185 := eq_true p185
                            replace q185 := eq_true q185
                            have ea_ := Option.some.inj (hx184_2.symm.trans hx185_2)
                            injection ea_ with ea_ en_ ec_
                            subst ea_
                            subst ec_
                            clear en_
                            have p186 : 0 ≤ (x3_2 : Int) := of_decide_eq_true (by first | (with_reducible assumption) | assumption)
                            have q186 : x3_2 < (((rd_T25 l0 0).f2).length : Int) := of_decide_eq_true (by first | (with_reducible assumption) | assumption)
                            obtain ⟨ad186, A186_1, c186_1, e186, hx186_0, hx186_1, hl186_1, hi186_1⟩ := at_T80 HR185_2.out x3_2 p186 q186
                            cases e186
                            have HR186_1 := Aside0.mk hi186_1
                            have HC186_1 := Aside0.mk hl186_1
                            clear hi186_1 hl186_1
                            replace p186 := eq_true p186
                            replace q186 := eq_true q186
                            go_wp2_with (first | (go_at_call 43; (with_reducible refine (spec_l1In.calls ((rd_T80 ((rd_T25 l0 0).f2) x3_2).f0) 0 400 true _ A13.out).mono ?_); rintro e w' ⟨rfl, ⟨nd, rfl⟩⟩; (try first | exact ⟨rfl, _, World.drewN_drewN _ _ _⟩ | exact ⟨rfl, _, Eq.trans (World.drewN_drewN _ _ _) (congrArg (World.drewN _) (Nat.add_assoc _ _ _))⟩); have p188 : 0 ≤ (0 : Int) := (by omega); have q188 : 0 < (l0.length : Int) := of_decide_eq_true (by first | (with_reducible assumption) | assumption); obtain ⟨ad188, A188_2, c188_2, e188, hx188_0, hx188_1, hx188_2, hl188_2, hi188_2⟩ := at_T25 HR0.out 0 p188 q188; obtain rfl : ad183 = ad188 := (by injection e188); have qi188 : (0 < l0.length) = True := eq_true (by omega); (try rw [show ((0 : Int)).toNat = 0 from rfl] at hx188_0); (try rw [show 0 * 3 = 0 from rfl] at hx188_0); (try rw [Addr.add_zero'] at hx188_0); (try rw [show ((0 : Int)).toNat = 0 from rfl] at hx188_1); (try rw [show 0 * 3 = 0 from rfl] at hx188_1); (try rw [Addr.add_zero'] at hx188_1); (try rw [show ((0 : Int)).toNat = 0 from rfl] at hx188_2); (try rw [show 0 * 3 = 0 from rfl] at hx188_2); (try rw [Addr.add_zero'] at hx188_2); have HR188_2 := Aside0.mk hi188_2; have HC188_2 := Aside0.mk hl188_2; clear hi188_2 hl188_2; replace p188 := eq_true p188; replace q188 := eq_true q188; have ea_ := Option.some.inj (hx184_2.symm.trans hx188_2); injection ea_ with ea_ en_ ec_; subst ea_; subst ec_; clear en_) | (go_at_call 43; (with_reducible refine (spec_l1In.calls (((rd_T80 ((rd_T25 l0 0).f2) x3_2).f1).length : Int) 1 ((rd_T25 l0 0).f0) true _ A15.out).mono ?_); rintro e w' ⟨rfl, ⟨nd, rfl⟩⟩; (try first | exact ⟨rfl, _, World.drewN_drewN _ _ _⟩ | exact ⟨rfl, _, Eq.trans (World.drewN_drewN _ _ _) (congrArg (World.drewN _) (Nat.add_assoc _ _ _))⟩)) | (go_at_call 81; (with_reducible refine (spec_l3At.calls k2 _ (l0).length l0 ((rd_T80 ((rd_T25 l0 0).f2) x3_2).f0) t190 _ ?side1 ?side2 A17.out).mono ?_); (case side1 => repeat (first | exact HR0.out | (with_reducible refine Kd.C_alloc ?_ _) | (with_reducible refine Kd.C_drewN ?_ _) | (with_reducible refine Kd.C_drew ?_))); (case side2 => exact Nat.le_refl _); rintro e w' ⟨rfl, ⟨nd, rfl⟩⟩; (try first | exact ⟨rfl, _, World.drewN_drewN _ _ _⟩ | exact ⟨rfl, _, Eq.trans (World.drewN_drewN _ _ _) (congrArg (World.drewN _) (Nat.add_assoc _ _ _))⟩)))
                            repeat (go_quiet (first | (go_at_call 43; (with_reducible refine (spec_l1In.calls ((rd_T80 ((rd_T25 l0 0).f2) x3_2).f0) 0 400 true _ A13.out).mono ?_); rintro e w' ⟨rfl, ⟨nd, rfl⟩⟩; (try first | exact ⟨rfl, _, World.drewN_drewN _ _ _⟩ | exact ⟨rfl, _, Eq.trans (World.drewN_drewN _ _ _) (congrArg (World.drewN _) (Nat.add_assoc _ _ _))⟩); have p188 : 0 ≤ (0 : Int) := (by omega); have q188 : 0 < (l0.length : Int) := of_decide_eq_true (by first | (with_reducible assumption) | assumption); obtain ⟨ad188, A188_2, c188_2, e188, hx188_0, hx188_1, hx188_2, hl188_2, hi188_2⟩ := at_T25 HR0.out 0 p188 q188; obtain rfl : ad183 = ad188 := (by injection e188); have qi188 : (0 < l0.length) = True := eq_true (by omega); (try rw [show ((0 : Int)).toNat = 0 from rfl] at hx188_0); (try rw [show 0 * 3 = 0 from rfl] at hx188_0); (try rw [Addr.add_zero'] at hx188_0); (try rw [show ((0 : Int)).toNat = 0 from rfl] at hx188_1); (try rw [show 0 * 3 = 0 from rfl] at hx188_1); (try rw [Addr.add_zero'] at hx188_1); (try rw [show ((0 : Int)).toNat = 0 from rfl] at hx188_2); (try rw [show 0 * 3 = 0 from rfl] at hx188_2); (try rw [Addr.add_zero'] at hx188_2); have HR188_2 := Aside0.mk hi188_2; have HC188_2 := Aside0.mk hl188_2; clear hi188_2 hl188_2; replace p188 := eq_true p188; replace q188 := eq_true q188; have ea_ := Option.some.inj (hx184_2.symm.trans hx188_2); injection ea_ with ea_ en_ ec_; subst ea_; subst ec_; clear en_) | (go_at_call 43; (with_reducible refine (spec_l1In.calls (((rd_T80 ((rd_T25 l0 0).f2) x3_2).f1).length : Int) 1 ((rd_T25 l0 0).f0) true _ A15.out).mono ?_); rintro e w' ⟨rfl, ⟨nd, rfl⟩⟩; (try first | exact ⟨rfl, _, World.drewN_drewN _ _ _⟩ | exact ⟨rfl, _, Eq.trans (World.drewN_drewN _ _ _) (congrArg (World.drewN _) (Nat.add_assoc _ _ _))⟩)) | (go_at_call 81; (with_reducible refine (spec_l3At.calls k2 _ (l0).length l0 ((rd_T80 ((rd_T25 l0 0).f2) x3_2).f0) t190 _ ?side1 ?side2 A17.out).mono ?_); (case side1 => repeat (first | exact HR0.out | (with_reducible refine Kd.C_alloc ?_ _) | (with_reducible refine Kd.C_drewN ?_ _) | (with_reducible refine Kd.C_drew ?_))); (case side2 => exact Nat.le_refl _); rintro e w' ⟨rfl, ⟨nd, rfl⟩⟩; (try first | exact ⟨rfl, _, World.drewN_drewN _ _ _⟩ | exact ⟨rfl, _, Eq.trans (World.drewN_drewN _ _ _) (congrArg (World.drewN _) (Nat.add_assoc _ _ _))⟩))); try go_wp2_with (first | (go_at_call 43; (with_reducible refine (spec_l1In.calls ((rd_T80 ((rd_T25 l0 0).f2) x3_2).f0) 0 400 true _ A13.out).mono ?_); rintro e w' ⟨rfl, ⟨nd, rfl⟩⟩; (try first | exact ⟨rfl, _, World.drewN_drewN _ _ _⟩ | exact ⟨rfl, _, Eq.trans (World.drewN_drewN _ _ _) (congrArg (World.drewN _) (Nat.add_assoc _ _ _))⟩); have p188 : 0 ≤ (0 : Int) := (by omega); have q188 : 0 < (l0.length : Int) := of_decide_eq_true (by first | (with_reducible assumption) | assumption); obtain ⟨ad188, A188_2, c188_2, e188, hx188_0, hx188_1, hx188_2, hl188_2, hi188_2⟩ := at_T25 HR0.out 0 p188 q188; obtain rfl : ad183 = ad188 := (by injection e188); have qi188 : (0 < l0.length) = True := eq_true (by omega); (try rw [show ((0 : Int)).toNat = 0 from rfl] at hx188_0); (try rw [show 0 * 3 = 0 from rfl] at hx188_0); (try rw [Addr.add_zero'] at hx188_0); (try rw [show ((0 : Int)).toNat = 0 from rfl] at hx188_1); (try rw [show 0 * 3 = 0 from rfl] at hx188_1); (try rw [Addr.add_zero'] at hx188_1); (try rw [show ((0 : Int)).toNat = 0 from rfl] at hx188_2); (try rw [show 0 * 3 = 0 from rfl] at hx188_2); (try rw [Addr.add_zero'] at hx188_2); have HR188_2 := Aside0.mk hi188_2; have HC188_2 := Aside0.mk hl188_2; clear hi188_2 hl188_2; replace p188 := eq_true p188; replace q188 := eq_true q188; have ea_ := Option.some.inj (hx184_2.symm.trans hx188_2); injection ea_ with ea_ en_ ec_; subst ea_; subst ec_; clear en_) | (go_at_call 43; (with_reducible refine (spec_l1In.calls (((rd_T80 ((rd_T25 l0 0).f2) x3_2).f1).length : Int) 1 ((rd_T25 l0 0).f0) true _ A15.out).mono ?_); rintro e w' ⟨rfl, ⟨nd, rfl⟩⟩; (try first | exact ⟨rfl, _, World.drewN_drewN _ _ _⟩ | exact ⟨rfl, _, Eq.trans (World.drewN_drewN _ _ _) (congrArg (World.drewN _) (Nat.add_assoc _ _ _))⟩)) | (go_at_call 81; (with_reducible refine (spec_l3At.calls k2 _ (l0).length l0 ((rd_T80 ((rd_T25 l0 0).f2) x3_2).f0) t190 _ ?side1 ?side2 A17.out).mono ?_); (case side1 => repeat (first | exact HR0.out | (with_reducible refine Kd.C_alloc ?_ _) | (with_reducible refine Kd.C_drewN ?_ _) | (with_reducible refine Kd.C_drew ?_))); (case side2 => exact Nat.le_refl _); rintro e w' ⟨rfl, ⟨nd, rfl⟩⟩; (try first | exact ⟨rfl, _, World.drewN_drewN _ _ _⟩ | exact ⟨rfl, _, Eq.trans (World.drewN_drewN _ _ _) (congrArg (World.drewN _) (Nat.add_assoc _ _ _))⟩))))
                            go_ret
                            exact ⟨by first | rfl | (simp; done) | (simp [*]; done), by repeat (first | exact Drawn0.refl _ | apply Drawn0.step)⟩
                        · replace c16 := Bool.eq_false_iff.mpr c16
                          subst c16
                          have H1 : (some 1) = some r := by rw [if_neg (show ¬ (false = true) by decide)] at H; exact H
                          clear H
                          have H := H1
                          clear H1
                          obtain rfl := Option.some.inj H
                          have p184 : 0 ≤ (0 : Int) := (by omega)
                          have q184 : 0 < (l0.length : Int) := of_decide_eq_true (by first | (with_reducible assumption) | assumption)
                          obtain ⟨ad184, A184_2, c184_2, e184, hx184_0, hx184_1, hx184_2, hl184_2, hi184_2⟩ := at_T25 HR0.out 0 p184 q184
                          obtain rfl : ad183 = ad184 := (by injection e184)
                          have qi184 : (0 < l0.length) = True := eq_true (by omega)
                          (try rw [show ((0 : Int)).toNat = 0 from rfl] at hx184_0)
                          (try rw [show 0 * 3 = 0 from rfl] at hx184_0)
                          (try rw [Addr.add_zero'] at hx184_0)
                          (try rw [show ((0 : Int)).toNat = 0 from rfl] at hx184_1)
                          (try rw [show 0 * 3 = 0 from rfl] at hx184_1)
                          (try rw [Addr.add_zero'] at hx184_1)
                          (try rw [show ((0 : Int)).toNat = 0 from rfl] at hx184_2)
                          (try rw [show 0 * 3 = 0 from rfl] at hx184_2)
                          (try rw [Addr.add_zero'] at hx184_2)
                          have HR184_2 := Aside0.mk hi184_2
                          have HC184_2 := Aside0.mk hl184_2
                          clear hi184_2 hl184_2
                          replace p184 := eq_true p184
                          replace q184 := eq_true q184
                          have p185 : 0 ≤ (0 : Int) := (by omega)
                          have q185 : 0 < (l0.length : Int) := of_decide_eq_true (by first | (with_reducible assumption) | assumption)
                          obtain ⟨ad185, A185_2, c185_2, e185, hx185_0, hx185_1, hx185_2, hl185_2, hi185_2⟩ := at_T25 HR0.out 0 p185 q185
                          obtain rfl : ad183 = ad185 := (by injection e185)
                          have qi185 : (0 < l0.length) = True := eq_true (by omega)
                          (try rw [show ((0 : Int)).toNat = 0 from rfl] at hx185_0)
                          (try rw [show 0 * 3 = 0 from rfl] at hx185_0)
                          (try rw [Addr.add_zero'] at hx185_0)
                          (try rw [show ((0 : Int)).toNat = 0 from rfl] at hx185_1)
                          (try rw [show 0 * 3 = 0 from rfl] at hx185_1)
                          (try rw [Addr.add_zero'] at hx185_1)
                          (try rw [show ((0 : Int)).toNat = 0 from rfl] at hx185_2)
                          (try rw [show 0 * 3 = 0 from rfl] at hx185_2)
                          (try rw [Addr.add_zero'] at hx185_2)
                          have HR185_2 := Aside0.mk hi185_2
                          have HC185_2 := Aside0.mk hl185_2
                          clear hi185_2 hl185_2
                          replace p185 := eq_true p185
                          replace q185 := eq_true q185
                          have ea_ := Option.some.inj (hx184_2.symm.trans hx185_2)
                          injection ea_ with ea_ en_ ec_
                          subst ea_
                          subst ec_
                          clear en_
                          have p186 : 0 ≤ (x3_2 : Int) := of_decide_eq_true (by first | (with_reducible assumption) | assumption)
                          have q186 : x3_2 < (((rd_T25 l0 0).f2).length : Int) := of_decide_eq_true (by first | (with_reducible assumption) | assumption)
                          obtain ⟨ad186, A186_1, c186_1, e186, hx186_0, hx186_1, hl186_1, hi186_1⟩ := at_T80 HR185_2.out x3_2 p186 q186
                          cases e186
                          have HR186_1 := Aside0.mk hi186_1
                          have HC186_1 := Aside0.mk hl186_1
                          clear hi186_1 hl186_1
                          replace p186 := eq_true p186
                          replace q186 := eq_true q186
                          go_wp2_with (first | (go_at_call 43; (with_reducible refine (spec_l1In.calls ((rd_T80 ((rd_T25 l0 0).f2) x3_2).f0) 0 400 true _ A13.out).mono ?_); rintro e w' ⟨rfl, ⟨nd, rfl⟩⟩; (try first | exact ⟨rfl, _, World.drewN_drewN _ _ _⟩ | exact ⟨rfl, _, Eq.trans (World.drewN_drewN _ _ _) (congrArg (World.drewN _) (Nat.add_assoc _ _ _))⟩); have p188 : 0 ≤ (0 : Int) := (by omega); have q188 : 0 < (l0.length : Int) := of_decide_eq_true (by first | (with_reducible assumption) | assumption); obtain ⟨ad188, A188_2, c188_2, e188, hx188_0, hx188_1, hx188_2, hl188_2, hi188_2⟩ := at_T25 HR0.out 0 p188 q188; obtain rfl : ad183 = ad188 := (by injection e188); have qi188 : (0 < l0.length) = True := eq_true (by omega); (try rw [show ((0 : Int)).toNat = 0 from rfl] at hx188_0); (try rw [show 0 * 3 = 0 from rfl] at hx188_0); (try rw [Addr.add_zero'] at hx188_0); (try rw [show ((0 : Int)).toNat = 0 from rfl] at hx188_1); (try rw [show 0 * 3 = 0 from rfl] at hx188_1); (try rw [Addr.add_zero'] at hx188_1); (try rw [show ((0 : Int)).toNat = 0 from rfl] at hx188_2); (try rw [show 0 * 3 = 0 from rfl] at hx188_2); (try rw [Addr.add_zero'] at hx188_2); have HR188_2 := Aside0.mk hi188_2; have HC188_2 := Aside0.mk hl188_2; clear hi188_2 hl188_2; replace p188 := eq_true p188; replace q188 := eq_true q188; have ea_ := Option.some.inj (hx184_2.symm.trans hx188_2); injection ea_ with ea_ en_ ec_; subst ea_; subst ec_; clear en_) | (go_at_call 43; (with_reducible refine (spec_l1In.calls (((rd_T80 ((rd_T25 l0 0).f2) x3_2).f1).length : Int) 1 ((rd_T25 l0 0).f0) false _ A15.out).mono ?_); rintro e w' ⟨rfl, ⟨nd, rfl⟩⟩; (try first | exact ⟨rfl, _, World.drewN_drewN _ _ _⟩ | exact ⟨rfl, _, Eq.trans (World.drewN_drewN _ _ _) (congrArg (World.drewN _) (Nat.add_assoc _ _ _))⟩)))
                          repeat (go_quiet (first | (go_at_call 43; (with_reducible refine (spec_l1In.calls ((rd_T80 ((rd_T25 l0 0).f2) x3_2).f0) 0 400 true _ A13.out).mono ?_); rintro e w' ⟨rfl, ⟨nd, rfl⟩⟩; (try first | exact ⟨rfl, _, World.drewN_drewN _ _ _⟩ | exact ⟨rfl, _, Eq.trans (World.drewN_drewN _ _ _) (congrArg (World.drewN _) (Nat.add_assoc _ _ _))⟩); have p188 : 0 ≤ (0 : Int) := (by omega); have q188 : 0 < (l0.length : Int) := of_decide_eq_true (by first | (with_reducible assumption) | assumption); obtain ⟨ad188, A188_2, c188_2, e188, hx188_0, hx188_1, hx188_2, hl188_2, hi188_2⟩ := at_T25 HR0.out 0 p188 q188; obtain rfl : ad183 = ad188 := (by injection e188); have qi188 : (0 < l0.length) = True := eq_true (by omega); (try rw [show ((0 : Int)).toNat = 0 from rfl] at hx188_0); (try rw [show 0 * 3 = 0 from rfl] at hx188_0); (try rw [Addr.add_zero'] at hx188_0); (try rw [show ((0 : Int)).toNat = 0 from rfl] at hx188_1); (try rw [show 0 * 3 = 0 from rfl] at hx188_1); (try rw [Addr.add_zero'] at hx188_1); (try rw [show ((0 : Int)).toNat = 0 from rfl] at hx188_2); (try rw [show 0 * 3 = 0 from rfl] at hx188_2); (try rw [Addr.add_zero'] at hx188_2); have HR188_2 := Aside0.mk hi188_2; have HC188_2 := Aside0.mk hl188_2; clear hi188_2 hl188_2; replace p188 := eq_true p188; replace q188 := eq_true q188; have ea_ := Option.some.inj (hx184_2.symm.trans hx188_2); injection ea_ with ea_ en_ ec_; subst ea_; subst ec_; clear en_) | (go_at_call 43; (with_reducible refine (spec_l1In.calls (((rd_T80 ((rd_T25 l0 0).f2) x3_2).f1).length : Int) 1 ((rd_T25 l0 0).f0) false _ A15.out).mono ?_); rintro e w' ⟨rfl, ⟨nd, rfl⟩⟩; (try first | exact ⟨rfl, _, World.drewN_drewN _ _ _⟩ | exact ⟨rfl, _, Eq.trans (World.drewN_drewN _ _ _) (congrArg (World.drewN _) (Nat.add_assoc _ _ _))⟩))); try go_wp2_with (first | (go_at_call 43; (with_reducible refine (spec_l1In.calls ((rd_T80 ((rd_T25 l0 0).f2) x3_2).f0) 0 400 true _ A13.out).mono ?_); rintro e w' ⟨rfl, ⟨nd, rfl⟩⟩; (try first | exact ⟨rfl, _, World.drewN_drewN _ _ _⟩ | exact ⟨rfl, _, Eq.trans (World.drewN_drewN _ _ _) (congrArg (World.drewN _) (Nat.add_assoc _ _ _))⟩); have p188 : 0 ≤ (0 : Int) := (by omega); have q188 : 0 < (l0.length : Int) := of_decide_eq_true (by first | (with_reducible assumption) | assumption); obtain ⟨ad188, A188_2, c188_2, e188, hx188_0, hx188_1, hx188_2, hl188_2, hi188_2⟩ := at_T25 HR0.out 0 p188 q188; obtain rfl : ad183 = ad188 := (by injection e188); have qi188 : (0 < l0.length) = True := eq_true (by omega); (try rw [show ((0 : Int)).toNat = 0 from rfl] at hx188_0); (try rw [show 0 * 3 = 0 from rfl] at hx188_0); (try rw [Addr.add_zero'] at hx188_0); (try rw [show ((0 : Int)).toNat = 0 from rfl] at hx188_1); (try rw [show 0 * 3 = 0 from rfl] at hx188_1); (try rw [Addr.add_zero'] at hx188_1); (try rw [show ((0 : Int)).toNat = 0 from rfl] at hx188_2); (try rw [show 0 * 3 = 0 from rfl] at hx188_2); (try rw [Addr.add_zero'] at hx188_2); have HR188_2 := Aside0.mk hi188_2; have HC188_2 := Aside0.mk hl188_2; clear hi188_2 hl188_2; replace p188 := eq_true p188; replace q188 := eq_true q188; have ea_ := Option.some.inj (hx184_2.symm.trans hx188_2); injection ea_ with ea_ en_ ec_; subst ea_; subst ec_; clear en_) | (go_at_call 43; (with_reducible refine (spec_l1In.calls (((rd_T80 ((rd_T25 l0 0).f2) x3_2).f1).length : Int) 1 ((rd_T25 l0 0).f0) false _ A15.out).mono ?_); rintro e w' ⟨rfl, ⟨nd, rfl⟩⟩; (try first | exact ⟨rfl, _, World.drewN_drewN _ _ _⟩ | exact ⟨rfl, _, Eq.trans (World.drewN_drewN _ _ _) (congrArg (World.drewN _) (Nat.add_assoc _ _ _))⟩))))
                          go_ret
                          exact ⟨by first | rfl | (simp; done) | (simp [*]; done), by repeat (first | exact Drawn0.refl _ | apply Drawn0.step)⟩
                      · replace c14 := Bool.eq_false_iff.mpr c14
                        subst c14
                        have H1 : (some 3) = some r := by rw [if_neg (show ¬ (false = true) by decide)] at H; exact H
                        clear H
                        have H := H1
                        clear H1
                        obtain rfl := Option.some.inj H
                        have p184 : 0 ≤ (0 : Int) := (by omega)
                        have q184 : 0 < (l0.length : Int) := of_decide_eq_true (by first | (with_reducible assumption) | assumption)
                        obtain ⟨ad184, A184_2, c184_2, e184, hx184_0, hx184_1, hx184_2, hl184_2, hi184_2⟩ := at_T25 HR0.out 0 p184 q184
                        obtain rfl : ad183 = ad184 := (by injection e184)
                        have qi184 : (0 < l0.length) = True := eq_true (by omega)
                        (try rw [show ((0 : Int)).toNat = 0 from rfl] at hx184_0)
                        (try rw [show 0 * 3 = 0 from rfl] at hx184_0)
                        (try rw [Addr.add_zero'] at hx184_0)
                        (try rw [show ((0 : Int)).toNat = 0 from rfl] at hx184_1)
                        (try rw [show 0 * 3 = 0 from rfl] at hx184_1)
                        (try rw [Addr.add_zero'] at hx184_1)
                        (try rw [show ((0 : Int)).toNat = 0 from rfl] at hx184_2)
                        (try rw [show 0 * 3 = 0 from rfl] at hx184_2)
                        (try rw [Addr.add_zero'] at hx184_2)
                        have HR184_2 := Aside0.mk hi184_2
                        have HC184_2 := Aside0.mk hl184_2
                        clear hi184_2 hl184_2
                        replace p184 := eq_true p184
                        replace q184 := eq_true q184
                        have p185 : 0 ≤ (0 : Int) := (by omega)
                        have q185 : 0 < (l0.length : Int) := of_decide_eq_true (by first | (with_reducible assumption) | assumption)
                        obtain ⟨ad185, A185_2, c185_2, e185, hx185_0, hx185_1, hx185_2, hl185_2, hi185_2⟩ := at_T25 HR0.out 0 p185 q185
                        obtain rfl : ad183 = ad185 := (by injection e185)
                        have qi185 : (0 < l0.length) = True := eq_true (by omega)
                        (try rw [show ((0 : Int)).toNat = 0 from rfl] at hx185_0)
                        (try rw [show 0 * 3 = 0 from rfl] at hx185_0)
                        (try rw [Addr.add_zero'] at hx185_0)
                        (try rw [show ((0 : Int)).toNat = 0 from rfl] at hx185_1)
                        (try rw [show 0 * 3 = 0 from rfl] at hx185_1)
                        (try rw [Addr.add_zero'] at hx185_1)
                        (try rw [show ((0 : Int)).toNat = 0 from rfl] at hx185_2)
                        (try rw [show 0 * 3 = 0 from rfl] at hx185_2)
                        (try rw [Addr.add_zero'] at hx185_2)
                        have HR185_2 := Aside0.mk hi185_2
                        have HC185_2 := Aside0.mk hl185_2
                        clear hi185_2 hl185_2
                        replace p185 := eq_true p185
                        replace q185 := eq_true q185
                        have ea_ := Option.some.inj (hx184_2.symm.trans hx185_2)
                        injection ea_ with ea_ en_ ec_
                        subst ea_
                        subst ec_
                        clear en_
                        have p186 : 0 ≤ (x3_2 : Int) := of_decide_eq_true (by first | (with_reducible assumption) | assumption)
                        have q186 : x3_2 < (((rd_T25 l0 0).f2).length : Int) := of_decide_eq_true (by first | (with_reducible assumption) | assumption)
                        obtain ⟨ad186, A186_1, c186_1, e186, hx186_0, hx186_1, hl186_1, hi186_1⟩ := at_T80 HR185_2.out x3_2 p186 q186
                        cases e186
                        have HR186_1 := Aside0.mk hi186_1
                        have HC186_1 := Aside0.mk hl186_1
                        clear hi186_1 hl186_1
                        replace p186 := eq_true p186
                        replace q186 := eq_true q186
                        go_wp2_with (first | (go_at_call 43; (with_reducible refine (spec_l1In.calls ((rd_T80 ((rd_T25 l0 0).f2) x3_2).f0) 0 400 false _ A13.out).mono ?_); rintro e w' ⟨rfl, ⟨nd, rfl⟩⟩; (try first | exact ⟨rfl, _, World.drewN_drewN _ _ _⟩ | exact ⟨rfl, _, Eq.trans (World.drewN_drewN _ _ _) (congrArg (World.drewN _) (Nat.add_assoc _ _ _))⟩)))
                        repeat (go_quiet (first | (go_at_call 43; (with_reducible refine (spec_l1In.calls ((rd_T80 ((rd_T25 l0 0).f2) x3_2).f0) 0 400 false _ A13.out).mono ?_); rintro e w' ⟨rfl, ⟨nd, rfl⟩⟩; (try first | exact ⟨rfl, _, World.drewN_drewN _ _ _⟩ | exact ⟨rfl, _, Eq.trans (World.drewN_drewN _ _ _) (congrArg (World.drewN _) (Nat.add_assoc _ _ _))⟩))); try go_wp2_with (first | (go_at_call 43; (with_reducible refine (spec_l1In.calls ((rd_T80 ((rd_T25 l0 0).f2) x3_2).f0) 0 400 false _ A13.out).mono ?_); rintro e w' ⟨rfl, ⟨nd, rfl⟩⟩; (try first | exact ⟨rfl, _, World.drewN_drewN _ _ _⟩ | exact ⟨rfl, _, Eq.trans (World.drewN_drewN _ _ _) (congrArg (World.drewN _) (Nat.add_assoc _ _ _))⟩))))
                        go_ret
                        exact ⟨by first | rfl | (simp; done) | (simp [*]; done), by repeat (first | exact Drawn0.refl _ | apply Drawn0.step)⟩
                    · rw [if_neg c12] at H
                      exact absurd H (by simp)
                  · rw [if_neg c11] at H
                    have c11b0 : decide (x3_2 < (((rd_T25 l0 0).f2).length : Int)) = false := decide_eq_false c11
                    clear c11
                    obtain rfl := Option.some.inj H
                    have p184 : 0 ≤ (0 : Int) := (by omega)
                    have q184 : 0 < (l0.length : Int) := of_decide_eq_true (by first | (with_reducible assumption) | assumption)
                    obtain ⟨ad184, A184_2, c184_2, e184, hx184_0, hx184_1, hx184_2, hl184_2, hi184_2⟩ := at_T25 HR0.out 0 p184 q184
                    obtain rfl : ad183 = ad184 := (by injection e184)
                    have qi184 : (0 < l0.length) = True := eq_true (by omega)
                    (try rw [show ((0 : Int)).toNat = 0 from rfl] at hx184_0)
                    (try rw [show 0 * 3 = 0 from rfl] at hx184_0)
                    (try rw [Addr.add_zero'] at hx184_0)
                    (try rw [show ((0 : Int)).toNat = 0 from rfl] at hx184_1)
                    (try rw [show 0 * 3 = 0 from rfl] at hx184_1)
                    (try rw [Addr.add_zero'] at hx184_1)
                    (try rw [show ((0 : Int)).toNat = 0 from rfl] at hx184_2)
                    (try rw [show 0 * 3 = 0 from rfl] at hx184_2)
                    (try rw [Addr.add_zero'] at hx184_2)
                    have HR184_2 := Aside0.mk hi184_2
                    have HC184_2 := Aside0.mk hl184_2
                    clear hi184_2 hl184_2
                    replace p184 := eq_true p184
                    replace q184 := eq_true q184
                    go_wp2
                    repeat (go_quiet (fail); try go_wp2)
                    go_ret
                    exact ⟨by first | rfl | (simp; done) | (simp [*]; done), by repeat (first | exact Drawn0.refl _ | apply Drawn0.step)⟩
                · rw [if_neg c10] at H
                  exact absurd H (by simp)
        · rw [if_neg c8] at H
          exact absurd H (by simp)

/-! ### spec_l2Fault: function 86 -/
def spec_l2Fault.f (l0 : List (S44)) : Option (Int) := if 0 < (l0.length : Int) then (if (((rd_T44 l0 0).f0).length : Int) > 400 then (some 2) else (some 0)) else (none)
set_option maxHeartbeats 8000000 in
set_option maxRecDepth 100000 in
theorem spec_l2Fault.calls (A0 : Option Addr) (c0 : Nat) (l0 : List (S44)) (r : Int) (w : World) (hr0 : Kd.C k44 w A0 l0.length l0) (hc0 : l0.length ≤ c0) (h : spec_l2Fault.f l0 = some r) :
    Calls Try.prog 86 #[.pointer A0] w fun e w' => e = .returned (.int .i64 r) ∧ Drawn0 w w' := by
  have HR0 := Aside0.mk hr0
  have HC0 := Aside0.mk hc0
  clear hr0 hc0
  have H : (if 0 < (l0.length : Int) then (if (((rd_T44 l0 0).f0).length : Int) > 400 then (some 2) else (some 0)) else (none)) = some r := h
  clear h
  by_cases c2 : 0 < (l0.length : Int)
  · rw [if_pos c2] at H
    have c2b0 : decide (0 < (l0.length : Int)) = true := decide_eq_true c2
    have c2b1 : decide (0 < l0.length) = true := decide_eq_true (by omega)
    clear c2
    by_cases c3 : (((rd_T44 l0 0).f0).length : Int) > 400
    · rw [if_pos c3] at H
      have c3b0 : decide (400 < (((rd_T44 l0 0).f0).length : Int)) = true := decide_eq_true c3
      have c3b1 : decide (400 < ((rd_T44 l0 0).f0).length) = true := decide_eq_true (by omega)
      clear c3
      obtain rfl := Option.some.inj H
      have p191 : 0 ≤ (0 : Int) := (by omega)
      have q191 : 0 < (l0.length : Int) := of_decide_eq_true (by first | (with_reducible assumption) | assumption)
      obtain ⟨ad191, A191_0, c191_0, e191, hx191_0, hl191_0, hi191_0⟩ := at_T44 HR0.out 0 p191 q191
      cases e191
      have qi191 : (0 < l0.length) = True := eq_true (by omega)
      (try rw [show ((0 : Int)).toNat = 0 from rfl] at hx191_0)
      (try rw [Addr.add_zero'] at hx191_0)
      have HR191_0 := Aside0.mk hi191_0
      have HC191_0 := Aside0.mk hl191_0
      clear hi191_0 hl191_0
      replace p191 := eq_true p191
      replace q191 := eq_true q191
      go_enter Try.func86, Try.ntmps86
      go_wp2
      go_ret
      exact ⟨by first | rfl | (simp; done) | (simp [*]; done), by repeat (first | exact Drawn0.refl _ | apply Drawn0.step)⟩
    · rw [if_neg c3] at H
      have c3b0 : decide (400 < (((rd_T44 l0 0).f0).length : Int)) = false := decide_eq_false c3
      have c3b1 : decide (400 < ((rd_T44 l0 0).f0).length) = false := decide_eq_false (by omega)
      clear c3
      obtain rfl := Option.some.inj H
      have p191 : 0 ≤ (0 : Int) := (by omega)
      have q191 : 0 < (l0.length : Int) := of_decide_eq_true (by first | (with_reducible assumption) | assumption)
      obtain ⟨ad191, A191_0, c191_0, e191, hx191_0, hl191_0, hi191_0⟩ := at_T44 HR0.out 0 p191 q191
      cases e191
      have qi191 : (0 < l0.length) = True := eq_true (by omega)
      (try rw [show ((0 : Int)).toNat = 0 from rfl] at hx191_0)
      (try rw [Addr.add_zero'] at hx191_0)
      have HR191_0 := Aside0.mk hi191_0
      have HC191_0 := Aside0.mk hl191_0
      clear hi191_0 hl191_0
      replace p191 := eq_true p191
      replace q191 := eq_true q191
      go_enter Try.func86, Try.ntmps86
      go_wp2
      go_ret
      exact ⟨by first | rfl | (simp; done) | (simp [*]; done), by repeat (first | exact Drawn0.refl _ | apply Drawn0.step)⟩
  · rw [if_neg c2] at H
    exact absurd H (by simp)

/-! ### spec_l3Asked: function 56 -/
def spec_l3Asked.f (k : Nat) (l0 : List (S25)) (l1 : List (S44)) : Option (Int) := (spec_l3Fault.f k l0).bind fun t192 => (if t192 = 0 then ((spec_l2Fault.f l1).bind fun t193 => (some t193)) else (some t192))
theorem spec_l3Asked.mono : ∀ a0 a1 k, LeO (spec_l3Asked.f k a0 a1) (spec_l3Asked.f (k + 1) a0 a1) := by
  intro a0 a1 k
  unfold spec_l3Asked.f
  repeat' first
      | (with_reducible exact spec_l3Fault.mono _ _)
      | (with_reducible exact LeO.refl _)
      | (with_reducible exact LeO.none _)
      | (with_reducible refine LeO.ite ?_ ?_)
      | (with_reducible refine LeO.bind ?_ (fun _ => ?_))
      | exact spec_l3Fault.mono _ _
      | exact LeO.none _
      | refine LeO.ite ?_ ?_
      | refine LeO.bind ?_ (fun _ => ?_)
set_option maxHeartbeats 8000000 in
set_option maxRecDepth 100000 in
theorem spec_l3Asked.calls (k : Nat) (A0 : Option Addr) (c0 : Nat) (l0 : List (S25)) (A1 : Option Addr) (c1 : Nat) (l1 : List (S44)) (r : Int) (w : World) (hr0 : Kd.C k25 w A0 l0.length l0) (hc0 : l0.length ≤ c0) (hr1 : Kd.C k44 w A1 l1.length l1) (hc1 : l1.length ≤ c1) (h : spec_l3Asked.f k l0 l1 = some r) :
    Calls Try.prog 56 #[.pointer A0, .pointer A1] w fun e w' => e = .returned (.int .i64 r) ∧ Drawn0 w w' := by
  have HR0 := Aside0.mk hr0
  have HC0 := Aside0.mk hc0
  clear hr0 hc0
  have HR1 := Aside0.mk hr1
  have HC1 := Aside0.mk hc1
  clear hr1 hc1
  have H : ((spec_l3Fault.f k l0).bind fun t192 => (if t192 = 0 then ((spec_l2Fault.f l1).bind fun t193 => (some t193)) else (some t192))) = some r := h
  clear h
  replace H := Option.bind_eq_some_iff.mp H
  obtain ⟨t192, A30, H⟩ := H
  try dsimp only at H
  have A3 := Aside0.mk A30
  clear A30
  by_cases c4 : t192 = 0
  · rw [if_pos c4] at H
    have c4b0 : (t192 == 0) = true := beq_iff_eq.mpr c4
    have c4b1 : (t192 != 0) = false := bne_eq_false_iff_eq.mpr c4
    clear c4
    replace H := Option.bind_eq_some_iff.mp H
    obtain ⟨t193, A50, H⟩ := H
    try dsimp only at H
    have A5 := Aside0.mk A50
    clear A50
    obtain rfl := Option.some.inj H
    go_enter Try.func56, Try.ntmps56
    go_wp2_with (first | ((with_reducible refine gate_callee (f := 50) rfl ?_); refine goesL_ (some 7) rfl rfl Try.func50 (by kernel_rfl) rfl #[.pointer A0] rfl (by (try simp only [List.map_toArray, List.map_cons, List.map_nil]); first | done | rfl | (simp only [List.length_drop, List.length_take]; rfl)) ?_; (with_reducible refine (spec_l3Fault.calls k _ (l0).length l0 t192 _ ?side1 ?side2 A3.out).mono ?_); (case side1 => repeat (first | exact HR0.out | (with_reducible refine Kd.C_alloc ?_ _) | (with_reducible refine Kd.C_drewN ?_ _) | (with_reducible refine Kd.C_drew ?_))); (case side2 => exact Nat.le_refl _); rintro e w' ⟨rfl, ⟨nd, rfl⟩⟩; refine ⟨_, rfl, ?_⟩) | ((with_reducible refine gate_callee (f := 86) rfl ?_); refine goesL_ (some 12) rfl rfl Try.func86 (by kernel_rfl) rfl #[.pointer A1] rfl (by (try simp only [List.map_toArray, List.map_cons, List.map_nil]); first | done | rfl | (simp only [List.length_drop, List.length_take]; rfl)) ?_; (with_reducible refine (spec_l2Fault.calls _ (l1).length l1 t193 _ ?side1 ?side2 A5.out).mono ?_); (case side1 => repeat (first | exact HR1.out | (with_reducible refine Kd.C_alloc ?_ _) | (with_reducible refine Kd.C_drewN ?_ _) | (with_reducible refine Kd.C_drew ?_))); (case side2 => exact Nat.le_refl _); rintro e w' ⟨rfl, ⟨nd, rfl⟩⟩; refine ⟨_, rfl, ?_⟩))
    go_ret
    exact ⟨by first | rfl | (simp; done) | (simp [*]; done), by repeat (first | exact Drawn0.refl _ | apply Drawn0.step)⟩
  · rw [if_neg c4] at H
    have c4b0 : (t192 == 0) = false := beq_eq_false_iff_ne.mpr c4
    have c4b1 : (t192 != 0) = true := bne_iff_ne.mpr c4
    obtain rfl := Option.some.inj H
    go_enter Try.func56, Try.ntmps56
    go_wp2_with (first | ((with_reducible refine gate_callee (f := 50) rfl ?_); refine goesL_ (some 7) rfl rfl Try.func50 (by kernel_rfl) rfl #[.pointer A0] rfl (by (try simp only [List.map_toArray, List.map_cons, List.map_nil]); first | done | rfl | (simp only [List.length_drop, List.length_take]; rfl)) ?_; (with_reducible refine (spec_l3Fault.calls k _ (l0).length l0 t192 _ ?side1 ?side2 A3.out).mono ?_); (case side1 => repeat (first | exact HR0.out | (with_reducible refine Kd.C_alloc ?_ _) | (with_reducible refine Kd.C_drewN ?_ _) | (with_reducible refine Kd.C_drew ?_))); (case side2 => exact Nat.le_refl _); rintro e w' ⟨rfl, ⟨nd, rfl⟩⟩; refine ⟨_, rfl, ?_⟩))
    go_ret
    exact ⟨by first | rfl | (simp; done) | (simp [*]; done), by repeat (first | exact Drawn0.refl _ | apply Drawn0.step)⟩

/-! ### spec_l1Copy: function 89 -/
def spec_l1Copy.f (l0 : List Int) : Option (List Int) := (some (([] : List Int) : List Int)).bind fun y194 => (if y194.length + l0.length < 140737488355328 then (some (y194 ++ l0)) else (none))
set_option maxHeartbeats 8000000 in
set_option maxRecDepth 100000 in
theorem spec_l1Copy.calls (A0 : Option Addr) (c0 : Nat) (l0 : List Int) (r : List Int) (w : World) (hr0 : Kd.C (Kd.int .u8) w A0 l0.length l0) (hc0 : l0.length ≤ c0) (h : spec_l1Copy.f l0 = some r) :
    Calls Try.prog 89 #[.slice A0 l0.length c0] w fun e w' => ∃ v0_ : Value, e = .returned (v0_) ∧ Kd.R (Kd.int .u8) 5 w' w.heap.size (fun _ => True) v0_ r ∧ Below w.heap.size w w' := by
  have HR0 := Aside0.mk hr0
  have HC0 := Aside0.mk hc0
  clear hr0 hc0
  have HB := Aside0.mk (Below.refl w.heap.size w)
  have H : ((some (([] : List Int) : List Int)).bind fun y194 => (if y194.length + l0.length < 140737488355328 then (some (y194 ++ l0)) else (none))) = some r := h
  clear h
  obtain ⟨y194, hy194⟩ : ∃ y_ : List Int, y_ = (([] : List Int)) := ⟨_, rfl⟩
  replace H : (if y194.length + l0.length < 140737488355328 then (some (y194 ++ l0)) else (none)) = some r := by first | (rw [hy194]; with_reducible exact H) | (have H2_ := (Option.bind_some _ _).symm.trans H; rw [hy194]; with_reducible exact H2_) | (have H2_ := (Option.bind_some _ _).symm.trans H; with_reducible exact H2_) | with_reducible exact H | (rw [hy194]; exact H) | exact H
  have Ny194 := Aside0.mk hy194
  clear hy194
  by_cases c2 : y194.length + l0.length < 140737488355328
  · rw [if_pos c2] at H
    have LMc2 := Aside0.mk c2
    clear c2
    obtain ⟨y197, hy197⟩ : ∃ y_ : List Int, y_ = (y194 ++ l0) := ⟨_, rfl⟩
    replace H : (some y197) = some r := by first | (rw [hy197]; with_reducible exact H) | (have H2_ := (Option.bind_some _ _).symm.trans H; rw [hy197]; with_reducible exact H2_) | (have H2_ := (Option.bind_some _ _).symm.trans H; with_reducible exact H2_) | with_reducible exact H | (rw [hy197]; exact H) | exact H
    have Ny197 := Aside0.mk hy197
    clear hy197
    obtain rfl := Option.some.inj H
    go_enter Try.func89, Try.ntmps89
    go_wp2_with (first | ((with_reducible refine gate_dst (N := 3) rfl ?_); refine Kd.R_lit (Kd.int .u8) _ 5 ?hg (N := 3) ?hd (xs := ([] : List Int)) (inner := []) (ok := fun _ => True) (okp := fun _ => True) ?hr ?hp (fun _ hk => hk) trivial (Below.refl _ _) (Nat.le_refl _) (by simp) ?_; (case hd => rfl); (case hg => rfl); (case hr => first | (go_simp; done) | (go_simp; rfl)); (case hp => exact (Reps.none _ _)); intro v195 w3 ho4 hb hg_ hnew_; clear hg_ hnew_; (first | rw [← Ny194.out] at ho4 | (simp only [Int.reduceToNat] at ho4; rw [← Ny194.out] at ho4)); have HO196 := Aside0.mk (Kd.R_lower ho4 (below_size (bz HB))); replace HB := Aside0.mk (below_step (bz HB) hb); clear hb ho4) | ((with_reducible refine gate_builtin (b := .append) (xs := #[.tmp 3, .tmp 4]) rfl ?_); at_builtin; refine Kd.R_append_rows (Kd.int .u8) (w0 := w) w.heap.size rfl (.tmp 3) (.tmp 4) 22 5 (.int .u8 0) 1 rfl Try.underlying22 info5 rfl (by decide) (by omega) v195 y194 l0 _ _ _ (fun _ => True) (fun _ => False) rfl rfl ?aO ?aR (fun _ _ h => h) (fun _ h => h.elim) ?aF ?aB ?aS ?aL ?_; (case aR => repeat (first | exact (Kd.C_below HR0.out HB.out) | (with_reducible refine Kd.C_alloc ?_ _) | (with_reducible refine Kd.C_drewN ?_ _) | (with_reducible refine Kd.C_drew ?_))); (case aB => exact (bz HB)); (case aF => exact (fun _ _ => trivial)); (case aO => exact (by (with_reducible repeat (first | apply Kd.R_alloc | apply Kd.R_drewN | apply Kd.R_drew)); exact HO196.out)); (case aS => exact (below_size (bz HB))); (case aL => have := LMc2.out; omega); intro v198 w5 ho hb hg hat; rw [← Ny197.out] at ho; have n0_ := Aside0.mk (hb); have n1_ := Aside0.mk (ho); clear HB; clear HO196; have HB := n0_; have HO199 := n1_; clear n0_ n1_; clear ho hb hg hat))
    go_ret
    exact ⟨_, by first | rfl | (simp [errW_none, errW_some] <;> rfl) | (simp [*, errW_none, errW_some] <;> rfl), by (with_reducible repeat (first | apply Kd.R_alloc | apply Kd.R_drewN | apply Kd.R_drew)); exact HO199.out, by repeat (first | (with_reducible first | exact HB.out | apply below_alloc | apply pw_below_drewN | apply below_drew1) | exact HB.out)⟩
  · rw [if_neg c2] at H
    exact absurd H (by simp)

end Go.Proofs.Ytkocconggohdgaa.PFnExactReadRange
