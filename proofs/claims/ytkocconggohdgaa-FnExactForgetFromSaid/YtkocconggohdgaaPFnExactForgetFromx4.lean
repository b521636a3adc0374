/- Functions of the given program as plain Lean functions, each with a proof that the Go code answers just so; made by a program of this session out of the translation. Conditions: those that each theorem names. -/
import Derived.Test.YtkocconggohdgaaPFnExactForgetFromx0
import Derived.Test.YtkocconggohdgaaPFnExactForgetFromx3
namespace Go.Proofs.Ytkocconggohdgaa.PFnExactForgetFrom
open Go.RowKit Go.Proofs.YtkocconggohdgaaW.PrintWords Go.Proofs.YtkocconggohdgaaW.PrintLast Go.Proofs.YtkocconggohdgaaW.PrintMore
attribute [local go_sem] max2_int min2_int max_two min_two max_three min_three max_four min_four   -- for this text's walks alone
set_option linter.unusedVariables false
set_option linter.unusedSimpArgs false

/-! ### spec_l3Fault: function 50 -/
mutual
def spec_l3Fault.j0 : Nat → List (S25) → Bool → Option (Int)
  | 0, _, _ => none
  | k + 1, x0, x18 => if x18 = true then (some 3) else (if 0 < (x0.length : Int) then (if (((rd_T25 x0 0).f2).length : Int) > ((rd_T25 x0 0).f1) then (some 2) else (spec_l3Fault.l0 k x0 0)) else (none))
def spec_l3Fault.l0 : Nat → List (S25) → Int → Option (Int)
  | 0, _, _ => none
  | k + 1, x0, x3 => if 0 < (x0.length : Int) then (if x3 < (((rd_T25 x0 0).f2).length : Int) then (if 0 ≤ x3 then ((spec_l1In.f ((rd_T80 ((rd_T25 x0 0).f2) x3).f0) 0 400).bind fun t173 => (if t173 = true then ((spec_l1In.f (((rd_T80 ((rd_T25 x0 0).f2) x3).f1).length : Int) 1 ((rd_T25 x0 0).f0)).bind fun t175 => (if t175 = true then ((spec_l3At.f k x0 ((rd_T80 ((rd_T25 x0 0).f2) x3).f0)).bind fun t176 => (if t176 = x3 then (spec_l3Fault.l0 k x0 (wrap64 (x3 + 1))) else (some 6))) else (some 1))) else (some 3))) else (none)) else (some 0)) else (none)
end
def spec_l3Fault.f (k : Nat) (l0 : List (S25)) : Option (Int) := if 0 < (l0.length : Int) then ((spec_l1In.f ((rd_T25 l0 0).f0) 1 64).bind fun t167 => (if t167 = true then ((spec_l1In.f ((rd_T25 l0 0).f1) 1 6).bind fun t168 => (spec_l3Fault.j0 k l0 (!t168))) else (spec_l3Fault.j0 k l0 true))) else (none)
theorem spec_l3Fault.mono_l : ∀ k, (∀ y0 y1, LeO (spec_l3Fault.j0 k y0 y1) (spec_l3Fault.j0 (k + 1) y0 y1)) ∧ (∀ y0 y1, LeO (spec_l3Fault.l0 k y0 y1) (spec_l3Fault.l0 (k + 1) y0 y1))
  | 0 => ⟨fun _ _ r h => by simp [spec_l3Fault.j0] at h, fun _ _ r h => by simp [spec_l3Fault.l0] at h⟩
  | k + 1 => by
    obtain ⟨ih0, ih1⟩ := spec_l3Fault.mono_l k
    refine ⟨?_, ?_⟩
    · intro y0 y1
      unfold spec_l3Fault.j0
      repeat' first
      | (with_reducible exact ih0 _ _)
      | (with_reducible exact ih1 _ _)
      | (with_reducible exact spec_l3At.mono _ _ _)
      | (with_reducible exact LeO.refl _)
      | (with_reducible exact LeO.none _)
      | (with_reducible refine LeO.ite ?_ ?_)
      | (with_reducible refine LeO.bind ?_ (fun _ => ?_))
      | exact ih0 _ _
      | exact ih1 _ _
      | exact spec_l3At.mono _ _ _
      | exact LeO.none _
      | refine LeO.ite ?_ ?_
      | refine LeO.bind ?_ (fun _ => ?_)
    · intro y0 y1
      unfold spec_l3Fault.l0
      repeat' first
      | (with_reducible exact ih0 _ _)
      | (with_reducible exact ih1 _ _)
      | (with_reducible exact spec_l3At.mono _ _ _)
      | (with_reducible exact LeO.refl _)
      | (with_reducible exact LeO.none _)
      | (with_reducible refine LeO.ite ?_ ?_)
      | (with_reducible refine LeO.bind ?_ (fun _ => ?_))
      | exact ih0 _ _
      | exact ih1 _ _
      | exact spec_l3At.mono _ _ _
      | exact LeO.none _
      | refine LeO.ite ?_ ?_
      | refine LeO.bind ?_ (fun _ => ?_)
theorem spec_l3Fault.mono : ∀ a0 k, LeO (spec_l3Fault.f k a0) (spec_l3Fault.f (k + 1) a0) := by
  intro a0 k
  obtain ⟨ih0, ih1⟩ := spec_l3Fault.mono_l k
  unfold spec_l3Fault.f
  repeat' first
      | (with_reducible exact ih0 _ _)
      | (with_reducible exact ih1 _ _)
      | (with_reducible exact spec_l3At.mono _ _ _)
      | (with_reducible exact LeO.refl _)
      | (with_reducible exact LeO.none _)
      | (with_reducible refine LeO.ite ?_ ?_)
      | (with_reducible refine LeO.bind ?_ (fun _ => ?_))
      | exact ih0 _ _
      | exact ih1 _ _
      | exact spec_l3At.mono _ _ _
      | exact LeO.none _
      | refine LeO.ite ?_ ?_
      | refine LeO.bind ?_ (fun _ => ?_)
set_option maxHeartbeats 8000000 in
set_option maxRecDepth 100000 in
theorem spec_l3Fault.calls (k : Nat) (A0 : Option Addr) (c0 : Nat) (l0 : List (S25)) (r : Int) (w : World) (hr0 : Kd.C k25 w A0 l0.length l0) (hc0 : l0.length ≤ c0) (h : spec_l3Fault.f k l0 = some r) :
    Calls Try.prog 50 #[.pointer A0] w fun e w' => e = .returned (.int .i64 r) ∧ Drawn0 w w' := by
  have HR0 := Aside0.mk hr0
  have HC0 := Aside0.mk hc0
  clear hr0 hc0
  have H : (if 0 < (l0.length : Int) then ((spec_l1In.f ((rd_T25 l0 0).f0) 1 64).bind fun t167 => (if t167 = true then ((spec_l1In.f ((rd_T25 l0 0).f1) 1 6).bind fun t168 => (spec_l3Fault.j0 k l0 (!t168))) else (spec_l3Fault.j0 k l0 true))) else (none)) = some r := h
  clear h
  have HC2 := Aside0.mk H
  clear H
  go_enter Try.func50, Try.ntmps50
  go_upto_region 1 with (fail)
  repeat (go_quiet (fail); go_upto_region 1 with (fail))
  go_cut [18] (fun v18 wc => ∃ (kq : Nat) (x18_1 : Bool), v18 = .bool x18_1 ∧ Aside0 (spec_l3Fault.j0 kq l0 x18_1 = some r) ∧ Aside0 (kq ≤ k) ∧ Drawn0 w wc)
  case first =>
    have H := HC2.out
    clear HC2
    by_cases c3 : 0 < (l0.length : Int)
    · rw [if_pos c3] at H
      have c3b0 : decide (0 < (l0.length : Int)) = true := decide_eq_true c3
      have c3b1 : decide (0 < l0.length) = true := decide_eq_true (by omega)
      clear c3
      (first | rw [c3b0] | (simp only [i64_w, i32_w]; rw [c3b0]) | skip)
      replace H := Option.bind_eq_some_iff.mp H
      obtain ⟨t167, A40, H⟩ := H
      replace H : (if t167 = true then ((spec_l1In.f ((rd_T25 l0 0).f1) 1 6).bind fun t168 => (spec_l3Fault.j0 k l0 (!t168))) else (spec_l3Fault.j0 k l0 true)) = some r := H
      have A4 := Aside0.mk A40
      clear A40
      by_cases c5 : t167 = true
      · subst c5
        have H1 : ((spec_l1In.f ((rd_T25 l0 0).f1) 1 6).bind fun t168 => (spec_l3Fault.j0 k l0 (!t168))) = some r := by rw [if_pos rfl] at H; exact H
        clear H
        have H := H1
        clear H1
        replace H := Option.bind_eq_some_iff.mp H
        obtain ⟨t168, A60, H⟩ := H
        replace H : (spec_l3Fault.j0 k l0 (!t168)) = some r := H
        have A6 := Aside0.mk A60
        clear A60
        have H' := Aside0.mk H
        clear H
        have p166 : 0 ≤ (0 : Int) := (by omega)
        have q166 : 0 < (l0.length : Int) := of_decide_eq_true (by first | (with_reducible assumption) | assumption)
        obtain ⟨ad166, A166_2, c166_2, e166, hx166_0, hx166_1, hx166_2, hl166_2, hi166_2⟩ := at_T25 HR0.out 0 p166 q166
        cases e166
        have qi166 : (0 < l0.length) = True := eq_true (by omega)
        (try rw [show ((0 : Int)).toNat = 0 from rfl] at hx166_0)
        (try rw [show 0 * 3 = 0 from rfl] at hx166_0)
        (try rw [Addr.add_zero'] at hx166_0)
        (try rw [show ((0 : Int)).toNat = 0 from rfl] at hx166_1)
        (try rw [show 0 * 3 = 0 from rfl] at hx166_1)
        (try rw [Addr.add_zero'] at hx166_1)
        (try rw [show ((0 : Int)).toNat = 0 from rfl] at hx166_2)
        (try rw [show 0 * 3 = 0 from rfl] at hx166_2)
        (try rw [Addr.add_zero'] at hx166_2)
        have HR166_2 := Aside0.mk hi166_2
        have HC166_2 := Aside0.mk hl166_2
        clear hi166_2 hl166_2
        replace p166 := eq_true p166
        replace q166 := eq_true q166
        go_wp2_with (first | (go_at_call 43; (with_reducible refine (spec_l1In.calls ((rd_T25 l0 0).f0) 1 64 true _ A4.out).mono ?_); rintro e w' ⟨rfl, ⟨nd, rfl⟩⟩; (try first | exact ⟨rfl, _, World.drewN_drewN _ _ _⟩ | exact ⟨rfl, _, Eq.trans (World.drewN_drewN _ _ _) (congrArg (World.drewN _) (Nat.add_assoc _ _ _))⟩)) | (go_at_call 43; (with_reducible refine (spec_l1In.calls ((rd_T25 l0 0).f1) 1 6 t168 _ A6.out).mono ?_); rintro e w' ⟨rfl, ⟨nd, rfl⟩⟩; (try first | exact ⟨rfl, _, World.drewN_drewN _ _ _⟩ | exact ⟨rfl, _, Eq.trans (World.drewN_drewN _ _ _) (congrArg (World.drewN _) (Nat.add_assoc _ _ _))⟩)))
        repeat (go_quiet (first | (go_at_call 43; (with_reducible refine (spec_l1In.calls ((rd_T25 l0 0).f0) 1 64 true _ A4.out).mono ?_); rintro e w' ⟨rfl, ⟨nd, rfl⟩⟩; (try first | exact ⟨rfl, _, World.drewN_drewN _ _ _⟩ | exact ⟨rfl, _, Eq.trans (World.drewN_drewN _ _ _) (congrArg (World.drewN _) (Nat.add_assoc _ _ _))⟩)) | (go_at_call 43; (with_reducible refine (spec_l1In.calls ((rd_T25 l0 0).f1) 1 6 t168 _ A6.out).mono ?_); rintro e w' ⟨rfl, ⟨nd, rfl⟩⟩; (try first | exact ⟨rfl, _, World.drewN_drewN _ _ _⟩ | exact ⟨rfl, _, Eq.trans (World.drewN_drewN _ _ _) (congrArg (World.drewN _) (Nat.add_assoc _ _ _))⟩))); try go_wp2_with (first | (go_at_call 43; (with_reducible refine (spec_l1In.calls ((rd_T25 l0 0).f0) 1 64 true _ A4.out).mono ?_); rintro e w' ⟨rfl, ⟨nd, rfl⟩⟩; (try first | exact ⟨rfl, _, World.drewN_drewN _ _ _⟩ | exact ⟨rfl, _, Eq.trans (World.drewN_drewN _ _ _) (congrArg (World.drewN _) (Nat.add_assoc _ _ _))⟩)) | (go_at_call 43; (with_reducible refine (spec_l1In.calls ((rd_T25 l0 0).f1) 1 6 t168 _ A6.out).mono ?_); rintro e w' ⟨rfl, ⟨nd, rfl⟩⟩; (try first | exact ⟨rfl, _, World.drewN_drewN _ _ _⟩ | exact ⟨rfl, _, Eq.trans (World.drewN_drewN _ _ _) (congrArg (World.drewN _) (Nat.add_assoc _ _ _))⟩))))
        go_meet
        case rel => exact ⟨_, (!t168), (by first | rfl | (simp; done) | (simp [*]; done)), H', ⟨by first | omega | exact Nat.le_refl _⟩, by repeat (first | exact Drawn0.refl _ | apply Drawn0.step)⟩
      · replace c5 := Bool.eq_false_iff.mpr c5
        subst c5
        have H1 : (spec_l3Fault.j0 k l0 true) = some r := by rw [if_neg (show ¬ (false = true) by decide)] at H; exact H
        clear H
        have H := H1
        clear H1
        have H' := Aside0.mk H
        clear H
        have p166 : 0 ≤ (0 : Int) := (by omega)
        have q166 : 0 < (l0.length : Int) := of_decide_eq_true (by first | (with_reducible assumption) | assumption)
        obtain ⟨ad166, A166_2, c166_2, e166, hx166_0, hx166_1, hx166_2, hl166_2, hi166_2⟩ := at_T25 HR0.out 0 p166 q166
        cases e166
        have qi166 : (0 < l0.length) = True := eq_true (by omega)
        (try rw [show ((0 : Int)).toNat = 0 from rfl] at hx166_0)
        (try rw [show 0 * 3 = 0 from rfl] at hx166_0)
        (try rw [Addr.add_zero'] at hx166_0)
        (try rw [show ((0 : Int)).toNat = 0 from rfl] at hx166_1)
        (try rw [show 0 * 3 = 0 from rfl] at hx166_1)
        (try rw [Addr.add_zero'] at hx166_1)
        (try rw [show ((0 : Int)).toNat = 0 from rfl] at hx166_2)
        (try rw [show 0 * 3 = 0 from rfl] at hx166_2)
        (try rw [Addr.add_zero'] at hx166_2)
        have HR166_2 := Aside0.mk hi166_2
        have HC166_2 := Aside0.mk hl166_2
        clear hi166_2 hl166_2
        replace p166 := eq_true p166
        replace q166 := eq_true q166
        go_wp2_with (first | (go_at_call 43; (with_reducible refine (spec_l1In.calls ((rd_T25 l0 0).f0) 1 64 false _ A4.out).mono ?_); rintro e w' ⟨rfl, ⟨nd, rfl⟩⟩; (try first | exact ⟨rfl, _, World.drewN_drewN _ _ _⟩ | exact ⟨rfl, _, Eq.trans (World.drewN_drewN _ _ _) (congrArg (World.drewN _) (Nat.add_assoc _ _ _))⟩)))
        repeat (go_quiet (first | (go_at_call 43; (with_reducible refine (spec_l1In.calls ((rd_T25 l0 0).f0) 1 64 false _ A4.out).mono ?_); rintro e w' ⟨rfl, ⟨nd, rfl⟩⟩; (try first | exact ⟨rfl, _, World.drewN_drewN _ _ _⟩ | exact ⟨rfl, _, Eq.trans (World.drewN_drewN _ _ _) (congrArg (World.drewN _) (Nat.add_assoc _ _ _))⟩))); try go_wp2_with (first | (go_at_call 43; (with_reducible refine (spec_l1In.calls ((rd_T25 l0 0).f0) 1 64 false _ A4.out).mono ?_); rintro e w' ⟨rfl, ⟨nd, rfl⟩⟩; (try first | exact ⟨rfl, _, World.drewN_drewN _ _ _⟩ | exact ⟨rfl, _, Eq.trans (World.drewN_drewN _ _ _) (congrArg (World.drewN _) (Nat.add_assoc _ _ _))⟩))))
        go_meet
        case rel => exact ⟨_, (true), (by first | rfl | (simp; done) | (simp [*]; done)), H', ⟨by first | omega | exact Nat.le_refl _⟩, by repeat (first | exact Drawn0.refl _ | apply Drawn0.step)⟩
    · rw [if_neg c3] at H
      exact absurd H (by simp)
  case rest =>
    clear HC2
    try clear c1
    try clear p1
    try clear q1
    try clear hx1
    try clear qi1
    try clear p2
    try clear c3
    try clear c3b0
    try clear c3b1
    try clear c5
    try clear hx166_0
    try clear hx166_1
    try clear hx166_2
    try clear p166
    try clear q166
    obtain ⟨kq, x18_1, rfl, HA, HJ1, ⟨mc1, rfl⟩⟩ := hcut
    cases kq with
    | zero => exact absurd HA.out (by simp [spec_l3Fault.j0])
    | succ kj1 =>
      have H := HA.out
      clear HA
      simp only [spec_l3Fault.j0] at H
      by_cases c7 : x18_1 = true
      · subst c7
        have H1 : (some 3) = some r := by rw [if_pos rfl] at H; exact H
        clear H
        have H := H1
        clear H1
        obtain rfl := Option.some.inj H
        go_wp2
        repeat (go_quiet (fail); try go_wp2)
        go_ret
        exact ⟨by first | rfl | (simp; done) | (simp [*]; done), by repeat (first | exact Drawn0.refl _ | apply Drawn0.step)⟩
      · replace c7 := Bool.eq_false_iff.mpr c7
        subst c7
        have H1 : (if 0 < (l0.length : Int) then (if (((rd_T25 l0 0).f2).length : Int) > ((rd_T25 l0 0).f1) then (some 2) else (spec_l3Fault.l0 kj1 l0 0)) else (none)) = some r := by rw [if_neg (show ¬ (false = true) by decide)] at H; exact H
        clear H
        have H := H1
        clear H1
        by_cases c8 : 0 < (l0.length : Int)
        · rw [if_pos c8] at H
          have c8b0 : decide (0 < (l0.length : Int)) = true := decide_eq_true c8
          have c8b1 : decide (0 < l0.length) = true := decide_eq_true (by omega)
          clear c8
          by_cases c9 : (((rd_T25 l0 0).f2).length : Int) > ((rd_T25 l0 0).f1)
          · rw [if_pos c9] at H
            have c9b0 : decide (((rd_T25 l0 0).f1) < (((rd_T25 l0 0).f2).length : Int)) = true := decide_eq_true c9
            clear c9
            obtain rfl := Option.some.inj H
            have p169 : 0 ≤ (0 : Int) := (by omega)
            have q169 : 0 < (l0.length : Int) := of_decide_eq_true (by first | (with_reducible assumption) | assumption)
            obtain ⟨ad169, A169_2, c169_2, e169, hx169_0, hx169_1, hx169_2, hl169_2, hi169_2⟩ := at_T25 HR0.out 0 p169 q169
            cases e169
            have qi169 : (0 < l0.length) = True := eq_true (by omega)
            (try rw [show ((0 : Int)).toNat = 0 from rfl] at hx169_0)
            (try rw [show 0 * 3 = 0 from rfl] at hx169_0)
            (try rw [Addr.add_zero'] at hx169_0)
            (try rw [show ((0 : Int)).toNat = 0 from rfl] at hx169_1)
            (try rw [show 0 * 3 = 0 from rfl] at hx169_1)
            (try rw [Addr.add_zero'] at hx169_1)
            (try rw [show ((0 : Int)).toNat = 0 from rfl] at hx169_2)
            (try rw [show 0 * 3 = 0 from rfl] at hx169_2)
            (try rw [Addr.add_zero'] at hx169_2)
            have HR169_2 := Aside0.mk hi169_2
            have HC169_2 := Aside0.mk hl169_2
            clear hi169_2 hl169_2
            replace p169 := eq_true p169
            replace q169 := eq_true q169
            go_wp2
            repeat (go_quiet (fail); try go_wp2)
            go_ret
            exact ⟨by first | rfl | (simp; done) | (simp [*]; done), by repeat (first | exact Drawn0.refl _ | apply Drawn0.step)⟩
          · rw [if_neg c9] at H
            have c9b0 : decide (((rd_T25 l0 0).f1) < (((rd_T25 l0 0).f2).length : Int)) = false := decide_eq_false c9
            clear c9
            have H' := Aside0.mk H
            clear H
            have p169 : 0 ≤ (0 : Int) := (by omega)
            have q169 : 0 < (l0.length : Int) := of_decide_eq_true (by first | (with_reducible assumption) | assumption)
            obtain ⟨ad169, A169_2, c169_2, e169, hx169_0, hx169_1, hx169_2, hl169_2, hi169_2⟩ := at_T25 HR0.out 0 p169 q169
            cases e169
            have qi169 : (0 < l0.length) = True := eq_true (by omega)
            (try rw [show ((0 : Int)).toNat = 0 from rfl] at hx169_0)
            (try rw [show 0 * 3 = 0 from rfl] at hx169_0)
            (try rw [Addr.add_zero'] at hx169_0)
            (try rw [show ((0 : Int)).toNat = 0 from rfl] at hx169_1)
            (try rw [show 0 * 3 = 0 from rfl] at hx169_1)
            (try rw [Addr.add_zero'] at hx169_1)
            (try rw [show ((0 : Int)).toNat = 0 from rfl] at hx169_2)
            (try rw [show 0 * 3 = 0 from rfl] at hx169_2)
            (try rw [Addr.add_zero'] at hx169_2)
            have HR169_2 := Aside0.mk hi169_2
            have HC169_2 := Aside0.mk hl169_2
            clear hi169_2 hl169_2
            replace p169 := eq_true p169
            replace q169 := eq_true q169
            go_wp2
            repeat (go_quiet (fail); try go_wp2)
            go_loopg [3] kj1 (fun kq v3 w' => ∃ (x3_2 : Int), v3 = .int .i64 x3_2 ∧ Aside0 (spec_l3Fault.l0 kq l0 x3_2 = some r) ∧ Aside0 (kq ≤ kj1) ∧ Drawn0 w w')
            case atStart => exact ⟨(0), (by first | rfl | (simp; done) | (simp [*]; done)), H', ⟨Nat.le_refl _⟩, by repeat (first | exact Drawn0.refl _ | apply Drawn0.step)⟩
            case round =>
              clear H'
              try clear c1
              try clear p1
              try clear q1
              try clear hx1
              try clear qi1
              try clear p2
              try clear c3
              try clear c3b0
              try clear c3b1
              try clear c5
              try clear c7
              try clear c8
              try clear c8b0
              try clear c8b1
              try clear c9
              try clear c9b0
              try clear hx166_0
              try clear hx166_1
              try clear hx166_2
              try clear hx169_0
              try clear hx169_1
              try clear hx169_2
              try clear p1
              try clear p166
              try clear p169
              try clear p2
              try clear q1
              try clear q166
              try clear q169
              obtain ⟨x3_2, rfl, HA, HK2, ⟨m2, rfl⟩⟩ := hrel
              cases gk with
              | zero => exact absurd HA.out (by simp [spec_l3Fault.l0])
              | succ k2 =>
                have H := HA.out
                clear HA
                simp only [spec_l3Fault.l0] at H
                by_cases c10 : 0 < (l0.length : Int)
                · rw [if_pos c10] at H
                  have c10b0 : decide (0 < (l0.length : Int)) = true := decide_eq_true c10
                  have c10b1 : decide (0 < l0.length) = true := decide_eq_true (by omega)
                  clear c10
                  by_cases c11 : x3_2 < (((rd_T25 l0 0).f2).length : Int)
                  · rw [if_pos c11] at H
                    have c11b0 : decide (x3_2 < (((rd_T25 l0 0).f2).length : Int)) = true := decide_eq_true c11
                    clear c11
                    by_cases c12 : 0 ≤ x3_2
                    · rw [if_pos c12] at H
                      have c12b0 : decide (0 ≤ x3_2) = true := decide_eq_true c12
                      clear c12
                      replace H := Option.bind_eq_some_iff.mp H
                      obtain ⟨t173, A130, H⟩ := H
                      replace H : (if t173 = true then ((spec_l1In.f (((rd_T80 ((rd_T25 l0 0).f2) x3_2).f1).length : Int) 1 ((rd_T25 l0 0).f0)).bind fun t175 => (if t175 = true then ((spec_l3At.f k2 l0 ((rd_T80 ((rd_T25 l0 0).f2) x3_2).f0)).bind fun t176 => (if t176 = x3_2 then (spec_l3Fault.l0 k2 l0 (wrap64 (x3_2 + 1))) else (some 6))) else (some 1))) else (some 3)) = some r := H
                      have A13 := Aside0.mk A130
                      clear A130
                      by_cases c14 : t173 = true
                      · subst c14
                        have H1 : ((spec_l1In.f (((rd_T80 ((rd_T25 l0 0).f2) x3_2).f1).length : Int) 1 ((rd_T25 l0 0).f0)).bind fun t175 => (if t175 = true then ((spec_l3At.f k2 l0 ((rd_T80 ((rd_T25 l0 0).f2) x3_2).f0)).bind fun t176 => (if t176 = x3_2 then (spec_l3Fault.l0 k2 l0 (wrap64 (x3_2 + 1))) else (some 6))) else (some 1))) = some r := by rw [if_pos rfl] at H; exact H
                        clear H
                        have H := H1
                        clear H1
                        replace H := Option.bind_eq_some_iff.mp H
                        obtain ⟨t175, A150, H⟩ := H
                        replace H : (if t175 = true then ((spec_l3At.f k2 l0 ((rd_T80 ((rd_T25 l0 0).f2) x3_2).f0)).bind fun t176 => (if t176 = x3_2 then (spec_l3Fault.l0 k2 l0 (wrap64 (x3_2 + 1))) else (some 6))) else (some 1)) = some r := H
                        have A15 := Aside0.mk A150
                        clear A150
                        by_cases c16 : t175 = true
                        · subst c16
                          have H1 : ((spec_l3At.f k2 l0 ((rd_T80 ((rd_T25 l0 0).f2) x3_2).f0)).bind fun t176 => (if t176 = x3_2 then (spec_l3Fault.l0 k2 l0 (wrap64 (x3_2 + 1))) else (some 6))) = some r := by rw [if_pos rfl] at H; exact H
                          clear H
                          have H := H1
                          clear H1
                          replace H := Option.bind_eq_some_iff.mp H
                          obtain ⟨t176, A170, H⟩ := H
                          replace H : (if t176 = x3_2 then (spec_l3Fault.l0 k2 l0 (wrap64 (x3_2 + 1))) else (some 6)) = some r := H
                          have A17 := Aside0.mk A170
                          clear A170
                          by_cases c18 : t176 = x3_2
                          · rw [if_pos c18] at H
                            have c18b0 : (t176 == x3_2) = true := beq_iff_eq.mpr c18
                            have c18b1 : (t176 != x3_2) = false := bne_eq_false_iff_eq.mpr c18
                            clear c18
                            have H' := Aside0.mk H
                            clear H
                            have p170 : 0 ≤ (0 : Int) := (by omega)
                            have q170 : 0 < (l0.length : Int) := of_decide_eq_true (by first | (with_reducible assumption) | assumption)
                            obtain ⟨ad170, A170_2, c170_2, e170, hx170_0, hx170_1, hx170_2, hl170_2, hi170_2⟩ := at_T25 HR0.out 0 p170 q170
                            obtain rfl : ad169 = ad170 := (by injection e170)
                            have qi170 : (0 < l0.length) = True := eq_true (by omega)
                            (try rw [show ((0 : Int)).toNat = 0 from rfl] at hx170_0)
                            (try rw [show 0 * 3 = 0 from rfl] at hx170_0)
                            (try rw [Addr.add_zero'] at hx170_0)
                            (try rw [show ((0 : Int)).toNat = 0 from rfl] at hx170_1)
                            (try rw [show 0 * 3 = 0 from rfl] at hx170_1)
                            (try rw [Addr.add_zero'] at hx170_1)
                            (try rw [show ((0 : Int)).toNat = 0 from rfl] at hx170_2)
                            (try rw [show 0 * 3 = 0 from rfl] at hx170_2)
                            (try rw [Addr.add_zero'] at hx170_2)
                            have HR170_2 := Aside0.mk hi170_2
                            have HC170_2 := Aside0.mk hl170_2
                            clear hi170_2 hl170_2
                            replace p170 := eq_true p170
                            replace q170 := eq_true q170
                            have p171 : 0 ≤ (0 : Int) := (by omega)
                            have q171 : 0 < (l0.length : Int) := of_decide_eq_true (by first | (with_reducible assumption) | assumption)
                            obtain ⟨ad171, A171_2, c171_2, e171, hx171_0, hx171_1, hx171_2, hl171_2, hi171_2⟩ := at_T25 HR0.out 0 p171 q171
                            obtain rfl : ad169 = ad171 := (by injection e171)
                            have qi171 : (0 < l0.length) = True := eq_true (by omega)
                            (try rw [show ((0 : Int)).toNat = 0 from rfl] at hx171_0)
                            (try rw [show 0 * 3 = 0 from rfl] at hx171_0)
                            (try rw [Addr.add_zero'] at hx171_0)
                            (try rw [show ((0 : Int)).toNat = 0 from rfl] at hx171_1)
                            (try rw [show 0 * 3 = 0 from rfl] at hx171_1)
                            (try rw [Addr.add_zero'] at hx171_1)
                            (try rw [show ((0 : Int)).toNat = 0 from rfl] at hx171_2)
                            (try rw [show 0 * 3 = 0 from rfl] at hx171_2)
                            (try rw [Addr.add_zero'] at hx171_2)
                            have HR171_2 := Aside0.mk hi171_2
                            have HC171_2 := Aside0.mk hl171_2
                            clear hi171_2 hl171_2
                            replace p171 := eq_true p171
                            replace q171 := eq_true q171
                            have ea_ := Option.some.inj (hx170_2.symm.trans hx171_2)
                            injection ea_ with ea_ en_ ec_
                            subst ea_
                            subst ec_
                            clear en_
                            have p172 : 0 ≤ (x3_2 : Int) := of_decide_eq_true (by first | (with_reducible assumption) | assumption)
                            have q172 : x3_2 < (((rd_T25 l0 0).f2).length : Int) := of_decide_eq_true (by first | (with_reducible assumption) | assumption)
                            obtain ⟨ad172, A172_1, c172_1, e172, hx172_0, hx172_1, hl172_1, hi172_1⟩ := at_T80 HR171_2.out x3_2 p172 q172
                            cases e172
                            have HR172_1 := Aside0.mk hi172_1
                            have HC172_1 := Aside0.mk hl172_1
                            clear hi172_1 hl172_1
                            replace p172 := eq_true p172
                            replace q172 := eq_true q172
                            go_wp2_with (first | (go_at_call 43; (with_reducible refine (spec_l1In.calls ((rd_T80 ((rd_T25 l0 0).f2) x3_2).f0) 0 400 true _ A13.out).mono ?_); rintro e w' ⟨rfl, ⟨nd, rfl⟩⟩; (try first | exact ⟨rfl, _, World.drewN_drewN _ _ _⟩ | exact ⟨rfl, _, Eq.trans (World.drewN_drewN _ _ _) (congrArg (World.drewN _) (Nat.add_assoc _ _ _))⟩); have p174 : 0 ≤ (0 : Int) := (by omega); have q174 : 0 < (l0.length : Int) := of_decide_eq_true (by first | (with_reducible assumption) | assumption); obtain ⟨ad174, A174_2, c174_2, e174, hx174_0, hx174_1, hx174_2, hl174_2, hi174_2⟩ := at_T25 HR0.out 0 p174 q174; obtain rfl : ad169 = ad174 := (by injection e174); have qi174 : (0 < l0.length) = True := eq_true (by omega); (try rw [show ((0 : Int)).toNat = 0 from rfl] at hx174_0); (try rw [show 0 * 3 = 0 from rfl] at hx174_0); (try rw [Addr.add_zero'] at hx174_0); (try rw [show ((0 : Int)).toNat = 0 from rfl] at hx174_1); (try rw [show 0 * 3 = 0 from rfl] at hx174_1); (try rw [Addr.add_zero'] at hx174_1); (try rw [show ((0 : Int)).toNat = 0 from rfl] at hx174_2); (try rw [show 0 * 3 = 0 from rfl] at hx174_2); (try rw [Addr.add_zero'] at hx174_2); have HR174_2 := Aside0.mk hi174_2; have HC174_2 := Aside0.mk hl174_2; clear hi174_2 hl174_2; replace p174 := eq_true p174; replace q174 := eq_true q174; have ea_ := Option.some.inj (hx170_2.symm.trans hx174_2); injection ea_ with ea_ en_ ec_; subst ea_; subst ec_; clear en_) | (go_at_call 43; (with_reducible refine (spec_l1In.calls (((rd_T80 ((rd_T25 l0 0).f2) x3_2).f1).length : Int) 1 ((rd_T25 l0 0).f0) true _ A15.out).mono ?_); rintro e w' ⟨rfl, ⟨nd, rfl⟩⟩; (try first | exact ⟨rfl, _, World.drewN_drewN _ _ _⟩ | exact ⟨rfl, _, Eq.trans (World.drewN_drewN _ _ _) (congrArg (World.drewN _) (Nat.add_assoc _ _ _))⟩)) | (go_at_call 81; (with_reducible refine (spec_l3At.calls k2 _ (l0).length l0 ((rd_T80 ((rd_T25 l0 0).f2) x3_2).f0) t176 _ ?side1 ?side2 A17.out).mono ?_); (case side1 => repeat (first | exact HR0.out | (with_reducible refine Kd.C_alloc ?_ _) | (with_reducible refine Kd.C_drewN ?_ _) | (with_reducible refine Kd.C_drew ?_))); (case side2 => exact Nat.le_refl _); rintro e w' ⟨rfl, ⟨nd, rfl⟩⟩; (try first | exact ⟨rfl, _, World.drewN_drewN _ _ _⟩ | exact ⟨rfl, _, Eq.trans (World.drewN_drewN _ _ _) (congrArg (World.drewN _) (Nat.add_assoc _ _ _))⟩)))
                            repeat (go_quiet (first | (go_at_call 43; (with_reducible refine (spec_l1In.calls ((rd_T80 ((rd_T25 l0 0).f2) x3_2).f0) 0 400 true _ A13.out).mono ?_); rintro e w' ⟨rfl, ⟨nd, rfl⟩⟩; (try first | exact ⟨rfl, _, World.drewN_drewN _ _ _⟩ | exact ⟨rfl, _, Eq.trans (World.drewN_drewN _ _ _) (congrArg (World.drewN _) (Nat.add_assoc _ _ _))⟩); have p174 : 0 ≤ (0 : Int) := (by omega); have q174 : 0 < (l0.length : Int) := of_decide_eq_true (by first | (with_reducible assumption) | assumption); obtain ⟨ad174, A174_2, c174_2, e174, hx174_0, hx174_1, hx174_2, hl174_2, hi174_2⟩ := at_T25 HR0.out 0 p174 q174; obtain rfl : ad169 = ad174 := (by injection e174); have qi174 : (0 < l0.length) = True := eq_true (by omega); (try rw [show ((0 : Int)).toNat = 0 from rfl] at hx174_0); (try rw [show 0 * 3 = 0 from rfl] at hx174_0); (try rw [Addr.add_zero'] at hx174_0); (try rw [show ((0 : Int)).toNat = 0 from rfl] at hx174_1); (try rw [show 0 * 3 = 0 from rfl] at hx174_1); (try rw [Addr.add_zero'] at hx174_1); (try rw [show ((0 : Int)).toNat = 0 from rfl] at hx174_2); (try rw [show 0 * 3 = 0 from rfl] at hx174_2); (try rw [Addr.add_zero'] at hx174_2); have HR174_2 := Aside0.mk hi174_2; have HC174_2 := Aside0.mk hl174_2; clear hi174_2 hl174_2; replace p174 := eq_true p174; replace q174 := eq_true q174; have ea_ := Option.some.inj (hx170_2.symm.trans hx174_2); injection ea_ with ea_ en_ ec_; subst ea_; subst ec_; clear en_) | (go_at_call 43; (with_reducible refine (spec_l1In.calls (((rd_T80 ((rd_T25 l0 0).f2) x3_2).f1).length : Int) 1 ((rd_T25 l0 0).f0) true _ A15.out).mono ?_); rintro e w' ⟨rfl, ⟨nd, rfl⟩⟩; (try first | exact ⟨rfl, _, World.drewN_drewN _ _ _⟩ | exact ⟨rfl, _, Eq.trans (World.drewN_drewN _ _ _) (congrArg (World.drewN _) (Nat.add_assoc _ _ _))⟩)) | (go_at_call 81; (with_reducible refine (spec_l3At.calls k2 _ (l0).length l0 ((rd_T80 ((rd_T25 l0 0).f2) x3_2).f0) t176 _ ?side1 ?side2 A17.out).mono ?_); (case side1 => repeat (first | exact HR0.out | (with_reducible refine Kd.C_alloc ?_ _) | (with_reducible refine Kd.C_drewN ?_ _) | (with_reducible refine Kd.C_drew ?_))); (case side2 => exact Nat.le_refl _); rintro e w' ⟨rfl, ⟨nd, rfl⟩⟩; (try first | exact ⟨rfl, _, World.drewN_drewN _ _ _⟩ | exact ⟨rfl, _, Eq.trans (World.drewN_drewN _ _ _) (congrArg (World.drewN _) (Nat.add_assoc _ _ _))⟩))); try go_wp2_with (first | (go_at_call 43; (with_reducible refine (spec_l1In.calls ((rd_T80 ((rd_T25 l0 0).f2) x3_2).f0) 0 400 true _ A13.out).mono ?_); rintro e w' ⟨rfl, ⟨nd, rfl⟩⟩; (try first | exact ⟨rfl, _, World.drewN_drewN _ _ _⟩ | exact ⟨rfl, _, Eq.trans (World.drewN_drewN _ _ _) (congrArg (World.drewN _) (Nat.add_assoc _ _ _))⟩); have p174 : 0 ≤ (0 : Int) := (by omega); have q174 : 0 < (l0.length : Int) := of_decide_eq_true (by first | (with_reducible assumption) | assumption); obtain ⟨ad174, A174_2, c174_2, e174, hx174_0, hx174_1, hx174_2, hl174_2, hi174_2⟩ := at_T25 HR0.out 0 p174 q174; obtain rfl : ad169 = ad174 := (by injection e174); have qi174 : (0 < l0.length) = True := eq_true (by omega); (try rw [show ((0 : Int)).toNat = 0 from rfl] at hx174_0); (try rw [show 0 * 3 = 0 from rfl] at hx174_0); (try rw [Addr.add_zero'] at hx174_0); (try rw [show ((0 : Int)).toNat = 0 from rfl] at hx174_1); (try rw [show 0 * 3 = 0 from rfl] at hx174_1); (try rw [Addr.add_zero'] at hx174_1); (try rw [show ((0 : Int)).toNat = 0 from rfl] at hx174_2); (try rw [show 0 * 3 = 0 from rfl] at hx174_2); (try rw [Addr.add_zero'] at hx174_2); have HR174_2 := Aside0.mk hi174_2; have HC174_2 := Aside0.mk hl174_2; clear hi174_2 hl174_2; replace p174 := eq_true p174; replace q174 := eq_true q174; have ea_ := Option.some.inj (hx170_2.symm.trans hx174_2); injection ea_ with ea_ en_ ec_; subst ea_; subst ec_; clear en_) | (go_at_call 43; (with_reducible refine (spec_l1In.calls (((rd_T80 ((rd_T25 l0 0).f2) x3_2).f1).length : Int) 1 ((rd_T25 l0 0).f0) true _ A15.out).mono ?_); rintro e w' ⟨rfl, ⟨nd, rfl⟩⟩; (try first | exact ⟨rfl, _, World.drewN_drewN _ _ _⟩ | exact ⟨rfl, _, Eq.trans (World.drewN_drewN _ _ _) (congrArg (World.drewN _) (Nat.add_assoc _ _ _))⟩)) | (go_at_call 81; (with_reducible refine (spec_l3At.calls k2 _ (l0).length l0 ((rd_T80 ((rd_T25 l0 0).f2) x3_2).f0) t176 _ ?side1 ?side2 A17.out).mono ?_); (case side1 => repeat (first | exact HR0.out | (with_reducible refine Kd.C_alloc ?_ _) | (with_reducible refine Kd.C_drewN ?_ _) | (with_reducible refine Kd.C_drew ?_))); (case side2 => exact Nat.le_refl _); rintro e w' ⟨rfl, ⟨nd, rfl⟩⟩; (try first | exact ⟨rfl, _, World.drewN_drewN _ _ _⟩ | exact ⟨rfl, _, Eq.trans (World.drewN_drewN _ _ _) (congrArg (World.drewN _) (Nat.add_assoc _ _ _))⟩))))
                            go_roundg k2
                            case measure => have := HJ1.out; have := HK2.out; omega
                            case rel => exact ⟨(wrap64 (x3_2 + 1)), (by first | rfl | (simp; done) | (simp [*]; done)), H', ⟨by have := HJ1.out; have := HK2.out; omega⟩, by repeat (first | exact Drawn0.refl _ | apply Drawn0.step)⟩
                          · rw [if_neg c18] at H
                            have c18b0 : (t176 == x3_2) = false := beq_eq_false_iff_ne.mpr c18
                            have c18b1 : (t176 != x3_2) = true := bne_iff_ne.mpr c18
                            obtain rfl := Option.some.inj H
                            have p170 : 0 ≤ (0 : Int) := (by omega)
                            have q170 : 0 < (l0.length : Int) := of_decide_eq_true (by first | (with_reducible assumption) | assumption)
                            obtain ⟨ad170, A170_2, c170_2, e170, hx170_0, hx170_1, hx170_2, hl170_2, hi170_2⟩ := at_T25 HR0.out 0 p170 q170
                            obtain rfl : ad169 = ad170 := (by injection e170)
                            have qi170 : (0 < l0.length) = True := eq_true (by omega)
                            (try rw [show ((0 : Int)).toNat = 0 from rfl] at hx170_0)
                            (try rw [show 0 * 3 = 0 from rfl] at hx170_0)
                            (try rw [Addr.add_zero'] at hx170_0)
                            (try rw [show ((0 : Int)).toNat = 0 from rfl] at hx170_1)
                            (try rw [show 0 * 3 = 0 from rfl] at hx170_1)
                            (try rw [Addr.add_zero'] at hx170_1)
                            (try rw [show ((0 : Int)).toNat = 0 from rfl] at hx170_2)
                            (try rw [show 0 * 3 = 0 from rfl] at hx170_2)
                            (try rw [Addr.add_zero'] at hx170_2)
                            have HR170_2 := Aside0.mk hi170_2
                            have HC170_2 := Aside0.mk hl170_2
                            clear hi170_2 hl170_2
                            replace p170 := eq_true p170
                            replace q170 := eq_true q170
                            have p171 : 0 ≤ (0 : Int) := (by omega)
                            have q171 : 0 < (l0.length : Int) := of_decide_eq_true (by first | (with_reducible assumption) | assumption)
                            obtain ⟨ad171, A171_2, c171_2, e171, hx171_0, hx171_1, hx171_2, hl171_2, hi171_2⟩ := at_T25 HR0.out 0 p171 q171
                            obtain rfl : ad169 = ad171 := (by injection e171)
                            have qi171 : (0 < l0.length) = True := eq_true (by omega)
                            (try rw [show ((0 : Int)).toNat = 0 from rfl] at hx171_0)
                            (try rw [show 0 * 3 = 0 from rfl] at hx171_0)
                            (try rw [Addr.add_zero'] at hx171_0)
                            (try rw [show ((0 : Int)).toNat = 0 from rfl] at hx171_1)
                            (try rw [show 0 * 3 = 0 from rfl] at hx171_1)
                            (try rw [Addr.add_zero'] at hx171_1)
                            (try rw [show ((0 : Int)).toNat = 0 from rfl] at hx171_2)
                            (try rw [show 0 * 3 = 0 from rfl] at hx171_2)
                            (try rw [Addr.add_zero'] at hx171_2)
                            have HR171_2 := Aside0.mk hi171_2
                            have HC171_2 := Aside0.mk hl171_2
                            clear hi171_2 hl171_2
                            replace p171 := eq_true p171
                            replace q171 := eq_true q171
                            have ea_ := Option.some.inj (hx170_2.symm.trans hx171_2)
                            injection ea_ with ea_ en_ ec_
                            subst ea_
                            subst ec_
                            clear en_
                            have p172 : 0 ≤ (x3_2 : Int) := of_decide_eq_true (by first | (with_reducible assumption) | assumption)
                            have q172 : x3_2 < (((rd_T25 l0 0).f2).length : Int) := of_decide_eq_true (by first | (with_reducible assumption) | assumption)
                            obtain ⟨ad172, A172_1, c172_1, e172, hx172_0, hx172_1, hl172_1, hi172_1⟩ := at_T80 HR171_2.out x3_2 p172 q172
                            cases e172
                            have HR172_1 := Aside0.mk hi172_1
                            have HC172_1 := Aside0.mk hl172_1
                            clear hi172_1 hl172_1
                            replace p172 := eq_true p172
                            replace q172 := eq_true q172
                            go_wp2_with (first | (go_at_call 43; (with_reducible refine (spec_l1In.calls ((rd_T80 ((rd_T25 l0 0).f2) x3_2).f0) 0 400 true _ A13.out).mono ?_); rintro e w' ⟨rfl, ⟨nd, rfl⟩⟩; (try first | exact ⟨rfl, _, World.drewN_drewN _ _ _⟩ | exact ⟨rfl, _, Eq.trans (World.drewN_drewN _ _ _) (congrArg (World.drewN _) (Nat.add_assoc _ _ _))⟩); have p174 : 0 ≤ (0 : Int) := (by omega); have q174 : 0 < (l0.length : Int) := of_decide_eq_true (by first | (with_reducible assumption) | assumption); obtain ⟨ad174, A174_2, c174_2, e174, hx174_0, hx174_1, hx174_2, hl174_2, hi174_2⟩ := at_T25 HR0.out 0 p174 q174; obtain rfl : ad169 = ad174 := (by injection e174); have qi174 : (0 < l0.length) = True := eq_true (by omega); (try rw [show ((0 : Int)).toNat = 0 from rfl] at hx174_0); (try rw [show 0 * 3 = 0 from rfl] at hx174_0); (try rw [Addr.add_zero'] at hx174_0); (try rw [show ((0 : Int)).toNat = 0 from rfl] at hx174_1); (try rw [show 0 * 3 = 0 from rfl] at hx174_1); (try rw [Addr.add_zero'] at hx174_1); (try rw [show ((0 : Int)).toNat = 0 from rfl] at hx174_2); (try rw [show 0 * 3 = 0 from rfl] at hx174_2); (try rw [Addr.add_zero'] at hx174_2); have HR174_2 := Aside0.mk hi174_2; have HC174_2 := Aside0.mk hl174_2; clear hi174_2 hl174_2; replace p174 := eq_true p174; replace q174 := eq_true q174; have ea_ := Option.some.inj (hx170_2.symm.trans hx174_2); injection ea_ with ea_ en_ ec_; subst ea_; subst ec_; clear en_) | (go_at_call 43; (with_reducible refine (spec_l1In.calls (((rd_T80 ((rd_T25 l0 0).f2) x3_2).f1).length : Int) 1 ((rd_T25 l0 0).f0) true _ A15.out).mono ?_); rintro e w' ⟨rfl, ⟨nd, rfl⟩⟩; (try first | exact ⟨rfl, _, World.drewN_drewN _ _ _⟩ | exact ⟨rfl, _, Eq.trans (World.drewN_drewN _ _ _) (congrArg (World.drewN _) (Nat.add_assoc _ _ _))⟩)) | (go_at_call 81; (with_reducible refine (spec_l3At.calls k2 _ (l0).length l0 ((rd_T80 ((rd_T25 l0 0).f2) x3_2).f0) t176 _ ?side1 ?side2 A17.out).mono ?_); (case side1 => repeat (first | exact HR0.out | (with_reducible refine Kd.C_alloc ?_ _) | (with_reducible refine Kd.C_drewN ?_ _) | (with_reducible refine Kd.C_drew ?_))); (case side2 => exact Nat.le_refl _); rintro e w' ⟨rfl, ⟨nd, rfl⟩⟩; (try first | exact ⟨rfl, _, World.drewN_drewN _ _ _⟩ | exact ⟨rfl, _, Eq.trans (World.drewN_drewN _ _ _) (congrArg (World.drewN _) (Nat.add_assoc _ _ _))⟩)))
                            repeat (go_quiet (first | (go_at_call 43; (with_reducible refine (spec_l1In.calls ((rd_T80 ((rd_T25 l0 0).f2) x3_2).f0) 0 400 true _ A13.out).mono ?_); rintro e w' ⟨rfl, ⟨nd, rfl⟩⟩; (try first | exact ⟨rfl, _, World.drewN_drewN _ _ _⟩ | exact ⟨rfl, _, Eq.trans (World.drewN_drewN _ _ _) (congrArg (World.drewN _) (Nat.add_assoc _ _ _))⟩); have p174 : 0 ≤ (0 : Int) := (by omega); have q174 : 0 < (l0.length : Int) := of_decide_eq_true (by first | (with_reducible assumption) | assumption); obtain ⟨ad174, A174_2, c174_2, e174, hx174_0, hx174_1, hx174_2, hl174_2, hi174_2⟩ := at_T25 HR0.out 0 p174 q174; obtain rfl : ad169 = ad174 := (by injection e174); have qi174 : (0 < l0.length) = True := eq_true (by omega); (try rw [show ((0 : Int)).toNat = 0 from rfl] at hx174_0); (try rw [show 0 * 3 = 0 from rfl] at hx174_0); (try rw [Addr.add_zero'] at hx174_0); (try rw [show ((0 : Int)).toNat = 0 from rfl] at hx174_1); (try rw [show 0 * 3 = 0 from rfl] at hx174_1); (try rw [Addr.add_zero'] at hx174_1); (try rw [show ((0 : Int)).toNat = 0 from rfl] at hx174_2); (try rw [show 0 * 3 = 0 from rfl] at hx174_2); (try rw [Addr.add_zero'] at hx174_2); have HR174_2 := Aside0.mk hi174_2; have HC174_2 := Aside0.mk hl174_2; clear hi174_2 hl174_2; replace p174 := eq_true p174; replace q174 := eq_true q174; have ea_ := Option.some.inj (hx170_2.symm.trans hx174_2); injection ea_ with ea_ en_ ec_; subst ea_; subst ec_; clear en_) | (go_at_call 43; (with_reducible refine (spec_l1In.calls (((rd_T80 ((rd_T25 l0 0).f2) x3_2).f1).length : Int) 1 ((rd_T25 l0 0).f0) true _ A15.out).mono ?_); rintro e w' ⟨rfl, ⟨nd, rfl⟩⟩; (try first | exact ⟨rfl, _, World.drewN_drewN _ _ _⟩ | exact ⟨rfl, _, Eq.trans (World.drewN_drewN _ _ _) (congrArg (World.drewN _) (Nat.add_assoc _ _ _))⟩)) | (go_at_call 81; (with_reducible refine (spec_l3At.calls k2 _ (l0).length l0 ((rd_T80 ((rd_T25 l0 0).f2) x3_2).f0) t176 _ ?side1 ?side2 A17.out).mono ?_); (case side1 => repeat (first | exact HR0.out | (with_reducible refine Kd.C_alloc ?_ _) | (with_reducible refine Kd.C_drewN ?_ _) | (with_reducible refine Kd.C_drew ?_))); (case side2 => exact Nat.le_refl _); rintro e w' ⟨rfl, ⟨nd, rfl⟩⟩; (try first | exact ⟨rfl, _, World.drewN_drewN _ _ _⟩ | exact ⟨rfl, _, Eq.trans (World.drewN_drewN _ _ _) (congrArg (World.drewN _) (Nat.add_assoc _ _ _))⟩))); try go_wp2_with (first | (go_at_call 43; (with_reducible refine (spec_l1In.calls ((rd_T80 ((rd_T25 l0 0).f2) x3_2).f0) 0 400 true _ A13.out).mono ?_); rintro e w' ⟨rfl, ⟨nd, rfl⟩⟩; (try first | exact ⟨rfl, _, World.drewN_drewN _ _ _⟩ | exact ⟨rfl, _, Eq.trans (World.drewN_drewN _ _ _) (congrArg (World.drewN _) (Nat.add_assoc _ _ _))⟩); have p174 : 0 ≤ (0 : Int) := (by omega); have q174 : 0 < (l0.length : Int) := of_decide_eq_true (by first | (with_reducible assumption) | assumption); obtain ⟨ad174, A174_2, c174_2, e174, hx174_0, hx174_1, hx174_2, hl174_2, hi174_2⟩ := at_T25 HR0.out 0 p174 q174; obtain rfl : ad169 = ad174 := (by injection e174); have qi174 : (0 < l0.length) = True := eq_true (by omega); (try rw [show ((0 : Int)).toNat = 0 from rfl] at hx174_0); (try rw [show 0 * 3 = 0 from rfl] at hx174_0); (try rw [Addr.add_zero'] at hx174_0); (try rw [show ((0 : Int)).toNat = 0 from rfl] at hx174_1); (try rw [show 0 * 3 = 0 from rfl] at hx174_1); (try rw [Addr.add_zero'] at hx174_1); (try rw [show ((0 : Int)).toNat = 0 from rfl] at hx174_2); (try rw [show 0 * 3 = 0 from rfl] at hx174_2); (try rw [Addr.add_zero'] at hx174_2); have HR174_2 := Aside0.mk hi174_2; have HC174_2 := Aside0.mk hl174_2; clear hi174_2 hl174_2; replace p174 := eq_true p174; replace q174 := eq_true q174; have ea_ := Option.some.inj (hx170_2.symm.trans hx174_2); injection ea_ with ea_ en_ ec_; subst ea_; subst ec_; clear en_) | (go_at_call 43; (with_reducible refine (spec_l1In.calls (((rd_T80 ((rd_T25 l0 0).f2) x3_2).f1).length : Int) 1 ((rd_T25 l0 0).f0) true _ A15.out).mono ?_); rintro e w' ⟨rfl, ⟨nd, rfl⟩⟩; (try first | exact ⟨rfl, _, World.drewN_drewN _ _ _⟩ | exact ⟨rfl, _, Eq.trans (World.drewN_drewN _ _ _) (congrArg (World.drewN _) (Nat.add_assoc _ _ _))⟩)) | (go_at_call 81; (with_reducible refine (spec_l3At.calls k2 _ (l0).length l0 ((rd_T80 ((rd_T25 l0 0).f2) x3_2).f0) t176 _ ?side1 ?side2 A17.out).mono ?_); (case side1 => repeat (first | exact HR0.out | (with_reducible refine Kd.C_alloc ?_ _) | (with_reducible refine Kd.C_drewN ?_ _) | (with_reducible refine Kd.C_drew ?_))); (case side2 => exact Nat.le_refl _); rintro e w' ⟨rfl, ⟨nd, rfl⟩⟩; (try first | exact ⟨rfl, _, World.drewN_drewN _ _ _⟩ | exact ⟨rfl, _, Eq.trans (World.drewN_drewN _ _ _) (congrArg (World.drewN _) (Nat.add_assoc _ _ _))⟩))))
                            go_ret
                            exact ⟨by first | rfl | (simp; done) | (simp [*]; done), by repeat (first | exact Drawn0.refl _ | apply Drawn0.step)⟩
                        · replace c16 := Bool.eq_false_iff.mpr c16
                          subst c16
                          have H1 : (some 1) = some r := by rw [if_neg (show ¬ (false = true) by decide)] at H; exact H
                          clear H
                          have H := H1
                          clear H1
                          obtain rfl := Option.some.inj H
                          have p170 : 0 ≤ (0 : Int) := (by omega)
                          have q170 : 0 < (l0.length : Int) := of_decide_eq_true (by first | (with_reducible assumption) | assumption)
                          obtain ⟨ad170, A170_2, c170_2, e170, hx170_0, hx170_1, hx170_2, hl170_2, hi170_2⟩ := at_T25 HR0.out 0 p170 q170
                          obtain rfl : ad169 = ad170 := (by injection e170)
                          have qi170 : (0 < l0.length) = True := eq_true (by omega)
                          (try rw [show ((0 : Int)).toNat = 0 from rfl] at hx170_0)
                          (try rw [show 0 * 3 = 0 from rfl] at hx170_0)
                          (try rw [Addr.add_zero'] at hx170_0)
                          (try rw [show ((0 : Int)).toNat = 0 from rfl] at hx170_1)
                          (try rw [show 0 * 3 = 0 from rfl] at hx170_1)
                          (try rw [Addr.add_zero'] at hx170_1)
                          (try rw [show ((0 : Int)).toNat = 0 from rfl] at hx170_2)
                          (try rw [show 0 * 3 = 0 from rfl] at hx170_2)
                          (try rw [Addr.add_zero'] at hx170_2)
                          have HR170_2 := Aside0.mk hi170_2
                          have HC170_2 := Aside0.mk hl170_2
                          clear hi170_2 hl170_2
                          replace p170 := eq_true p170
                          replace q170 := eq_true q170
                          have p171 : 0 ≤ (0 : Int) := (by omega)
                          have q171 : 0 < (l0.length : Int) := of_decide_eq_true (by first | (with_reducible assumption) | assumption)
                          obtain ⟨ad171, A171_2, c171_2, e171, hx171_0, hx171_1, hx171_2, hl171_2, hi171_2⟩ := at_T25 HR0.out 0 p171 q171
                          obtain rfl : ad169 = ad171 := (by injection e171)
                          have qi171 : (0 < l0.length) = True := eq_true (by omega)
                          (try rw [show ((0 : Int)).toNat = 0 from rfl] at hx171_0)
                          (try rw [show 0 * 3 = 0 from rfl] at hx171_0)
                          (try rw [Addr.add_zero'] at hx171_0)
                          (try rw [show ((0 : Int)).toNat = 0 from rfl] at hx171_1)
                          (try rw [show 0 * 3 = 0 from rfl] at hx171_1)
                          (try rw [Addr.add_zero'] at hx171_1)
                          (try rw [show ((0 : Int)).toNat = 0 from rfl] at hx171_2)
                          (try rw [show 0 * 3 = 0 from rfl] at hx171_2)
                          (try rw [Addr.add_zero'] at hx171_2)
                          have HR171_2 := Aside0.mk hi171_2
                          have HC171_2 := Aside0.mk hl171_2
                          clear hi171_2 hl171_2
                          replace p171 := eq_true p171
                          replace q171 := eq_true q171
                          have ea_ := Option.some.inj (hx170_2.symm.trans hx171_2)
                          injection ea_ with ea_ en_ ec_
                          subst ea_
                          subst ec_
                          clear en_
                          have p172 : 0 ≤ (x3_2 : Int) := of_decide_eq_true (by first | (with_reducible assumption) | assumption)
                          have q172 : x3_2 < (((rd_T25 l0 0).f2).length : Int) := of_decide_eq_true (by first | (with_reducible assumption) | assumption)
                          obtain ⟨ad172, A172_1, c172_1, e172, hx172_0, hx172_1, hl172_1, hi172_1⟩ := at_T80 HR171_2.out x3_2 p172 q172
                          cases e172
                          have HR172_1 := Aside0.mk hi172_1
                          have HC172_1 := Aside0.mk hl172_1
                          clear hi172_1 hl172_1
                          replace p172 := eq_true p172
                          replace q172 := eq_true q172
                          go_wp2_with (first | (go_at_call 43; (with_reducible refine (spec_l1In.calls ((rd_T80 ((rd_T25 l0 0).f2) x3_2).f0) 0 400 true _ A13.out).mono ?_); rintro e w' ⟨rfl, ⟨nd, rfl⟩⟩; (try first | exact ⟨rfl, _, World.drewN_drewN _ _ _⟩ | exact ⟨rfl, _, Eq.trans (World.drewN_drewN _ _ _) (congrArg (World.drewN _) (Nat.add_assoc _ _ _))⟩); have p174 : 0 ≤ (0 : Int) := (by omega); have q174 : 0 < (l0.length : Int) := of_decide_eq_true (by first | (with_reducible assumption) | assumption); obtain ⟨ad174, A174_2, c174_2, e174, hx174_0, hx174_1, hx174_2, hl174_2, hi174_2⟩ := at_T25 HR0.out 0 p174 q174; obtain rfl : ad169 = ad174 := (by injection e174); have qi174 : (0 < l0.length) = True := eq_true (by omega); (try rw [show ((0 : Int)).toNat = 0 from rfl] at hx174_0); (try rw [show 0 * 3 = 0 from rfl] at hx174_0); (try rw [Addr.add_zero'] at hx174_0); (try rw [show ((0 : Int)).toNat = 0 from rfl] at hx174_1); (try rw [show 0 * 3 = 0 from rfl] at hx174_1); (try rw [Addr.add_zero'] at hx174_1); (try rw [show ((0 : Int)).toNat = 0 from rfl] at hx174_2); (try rw [show 0 * 3 = 0 from rfl] at hx174_2); (try rw [Addr.add_zero'] at hx174_2); have HR174_2 := Aside0.mk hi174_2; have HC174_2 := Aside0.mk hl174_2; clear hi174_2 hl174_2; replace p174 := eq_true p174; replace q174 := eq_true q174; have ea_ := Option.some.inj (hx170_2.symm.trans hx174_2); injection ea_ with ea_ en_ ec_; subst ea_; subst ec_; clear en_) | (go_at_call 43; (with_reducible refine (spec_l1In.calls (((rd_T80 ((rd_T25 l0 0).f2) x3_2).f1).length : Int) 1 ((rd_T25 l0 0).f0) false _ A15.out).mono ?_); rintro e w' ⟨rfl, ⟨nd, rfl⟩⟩; (try first | exact ⟨rfl, _, World.drewN_drewN _ _ _⟩ | exact ⟨rfl, _, Eq.trans (World.drewN_drewN _ _ _) (congrArg (World.drewN _) (Nat.add_assoc _ _ _))⟩)))
                          repeat (go_quiet (first | (go_at_call 43; (with_reducible refine (spec_l1In.calls ((rd_T80 ((rd_T25 l0 0).f2) x3_2).f0) 0 400 true _ A13.out).mono ?_); rintro e w' ⟨rfl, ⟨nd, rfl⟩⟩; (try first | exact ⟨rfl, _, World.drewN_drewN _ _ _⟩ | exact ⟨rfl, _, Eq.trans (World.drewN_drewN _ _ _) (congrArg (World.drewN _) (Nat.add_assoc _ _ _))⟩); have p174 : 0 ≤ (0 : Int) := (by omega); have q174 : 0 < (l0.length : Int) := of_decide_eq_true (by first | (with_reducible assumption) | assumption); obtain ⟨ad174, A174_2, c174_2, e174, hx174_0, hx174_1, hx174_2, hl174_2, hi174_2⟩ := at_T25 HR0.out 0 p174 q174; obtain rfl : ad169 = ad174 := (by injection e174); have qi174 : (0 < l0.length) = True := eq_true (by omega); (try rw [show ((0 : Int)).toNat = 0 from rfl] at hx174_0); (try rw [show 0 * 3 = 0 from rfl] at hx174_0); (try rw [Addr.add_zero'] at hx174_0); (try rw [show ((0 : Int)).toNat = 0 from rfl] at hx174_1); (try rw [show 0 * 3 = 0 from rfl] at hx174_1); (try rw [Addr.add_zero'] at hx174_1); (try rw [show ((0 : Int)).toNat = 0 from rfl] at hx174_2); (try rw [show 0 * 3 = 0 from rfl] at hx174_2); (try rw [Addr.add_zero'] at hx174_2); have HR174_2 := Aside0.mk hi174_2; have HC174_2 := Aside0.mk hl174_2; clear hi174_2 hl174_2; replace p174 := eq_true p174; replace q174 := eq_true q174; have ea_ := Option.some.inj (hx170_2.symm.trans hx174_2); injection ea_ with ea_ en_ ec_; subst ea_; subst ec_; clear en_) | (go_at_call 43; (with_reducible refine (spec_l1In.calls (((rd_T80 ((rd_T25 l0 0).f2) x3_2).f1).length : Int) 1 ((rd_T25 l0 0).f0) false _ A15.out).mono ?_); rintro e w' ⟨rfl, ⟨nd, rfl⟩⟩; (try first | exact ⟨rfl, _, World.drewN_drewN _ _ _⟩ | exact ⟨rfl, _, Eq.trans (World.drewN_drewN _ _ _) (congrArg (World.drewN _) (Nat.add_assoc _ _ _))⟩))); try go_wp2_with (first | (go_at_call 43; (with_reducible refine (spec_l1In.calls ((rd_T80 ((rd_T25 l0 0).f2) x3_2).f0) 0 400 true _ A13.out).mono ?_); rintro e w' ⟨rfl, ⟨nd, rfl⟩⟩; (try first | exact ⟨rfl, _, World.drewN_drewN _ _ _⟩ | exact ⟨rfl, _, Eq.trans (World.drewN_drewN _ _ _) (congrArg (World.drewN _) (Nat.add_assoc _ _ _))⟩); have p174 : 0 ≤ (0 : Int) := (by omega); have q174 : 0 < (l0.length : Int) := of_decide_eq_true (by first | (with_reducible assumption) | assumption); obtain ⟨ad174, A174_2, c174_2, e174, hx174_0, hx174_1, hx174_2, hl174_2, hi174_2⟩ := at_T25 HR0.out 0 p174 q174; obtain rfl : ad169 = ad174 := (by injection e174); have qi174 : (0 < l0.length) = True := eq_true (by omega); (try rw [show ((0 : Int)).toNat = 0 from rfl] at hx174_0); (try rw [show 0 * 3 = 0 from rfl] at hx174_0); (try rw [Addr.add_zero'] at hx174_0); (try rw [show ((0 : Int)).toNat = 0 from rfl] at hx174_1); (try rw [show 0 * 3 = 0 from rfl] at hx174_1); (try rw [Addr.add_zero'] at hx174_1); (try rw [show ((0 : Int)).toNat = 0 from rfl] at hx174_2); (try rw [show 0 * 3 = 0 from rfl] at hx174_2); (try rw [Addr.add_zero'] at hx174_2); have HR174_2 := Aside0.mk hi174_2; have HC174_2 := Aside0.mk hl174_2; clear hi174_2 hl174_2; replace p174 := eq_true p174; replace q174 := eq_true q174; have ea_ := Option.some.inj (hx170_2.symm.trans hx174_2); injection ea_ with ea_ en_ ec_; subst ea_; subst ec_; clear en_) | (go_at_call 43; (with_reducible refine (spec_l1In.calls (((rd_T80 ((rd_T25 l0 0).f2) x3_2).f1).length : Int) 1 ((rd_T25 l0 0).f0) false _ A15.out).mono ?_); rintro e w' ⟨rfl, ⟨nd, rfl⟩⟩; (try first | exact ⟨rfl, _, World.drewN_drewN _ _ _⟩ | exact ⟨rfl, _, Eq.trans (World.drewN_drewN _ _ _) (congrArg (World.drewN _) (Nat.add_assoc _ _ _))⟩))))
                          go_ret
                          exact ⟨by first | rfl | (simp; done) | (simp [*]; done), by repeat (first | exact Drawn0.refl _ | apply Drawn0.step)⟩
                      · replace c14 := Bool.eq_false_iff.mpr c14
                        subst c14
                        have H1 : (some 3) = some r := by rw [if_neg (show ¬ (false = true) by decide)] at H; exact H
                        clear H
                        have H := H1
                        clear H1
                        obtain rfl := Option.some.inj H
                        have p170 : 0 ≤ (0 : Int) := (by omega)
                        have q170 : 0 < (l0.length : Int) := of_decide_eq_true (by first | (with_reducible assumption) | assumption)
                        obtain ⟨ad170, A170_2, c170_2, e170, hx170_0, hx170_1, hx170_2, hl170_2, hi170_2⟩ := at_T25 HR0.out 0 p170 q170
                        obtain rfl : ad169 = ad170 := (by injection e170)
                        have qi170 : (0 < l0.length) = True := eq_true (by omega)
                        (try rw [show ((0 : Int)).toNat = 0 from rfl] at hx170_0)
                        (try rw [show 0 * 3 = 0 from rfl] at hx170_0)
                        (try rw [Addr.add_zero'] at hx170_0)
                        (try rw [show ((0 : Int)).toNat = 0 from rfl] at hx170_1)
                        (try rw [show 0 * 3 = 0 from rfl] at hx170_1)
                        (try rw [Addr.add_zero'] at hx170_1)
                        (try rw [show ((0 : Int)).toNat = 0 from rfl] at hx170_2)
                        (try rw [show 0 * 3 = 0 from rfl] at hx170_2)
                        (try rw [Addr.add_zero'] at hx170_2)
                        have HR170_2 := Aside0.mk hi170_2
                        have HC170_2 := Aside0.mk hl170_2
                        clear hi170_2 hl170_2
                        replace p170 := eq_true p170
                        replace q170 := eq_true q170
                        have p171 : 0 ≤ (0 : Int) := (by omega)
                        have q171 : 0 < (l0.length : Int) := of_decide_eq_true (by first | (with_reducible assumption) | assumption)
                        obtain ⟨ad171, A171_2, c171_2, e171, hx171_0, hx171_1, hx171_2, hl171_2, hi171_2⟩ := at_T25 HR0.out 0 p171 q171
                        obtain rfl : ad169 = ad171 := (by injection e171)
                        have qi171 : (0 < l0.length) = True := eq_true (by omega)
                        (try rw [show ((0 : Int)).toNat = 0 from rfl] at hx171_0)
                        (try rw [show 0 * 3 = 0 from rfl] at hx171_0)
                        (try rw [Addr.add_zero'] at hx171_0)
                        (try rw [show ((0 : Int)).toNat = 0 from rfl] at hx171_1)
                        (try rw [show 0 * 3 = 0 from rfl] at hx171_1)
                        (try rw [Addr.add_zero'] at hx171_1)
                        (try rw [show ((0 : Int)).toNat = 0 from rfl] at hx171_2)
                        (try rw [show 0 * 3 = 0 from rfl] at hx171_2)
                        (try rw [Addr.add_zero'] at hx171_2)
                        have HR171_2 := Aside0.mk hi171_2
                        have HC171_2 := Aside0.mk hl171_2
                        clear hi171_2 hl171_2
                        replace p171 := eq_true p171
                        replace q171 := eq_true q171
                        have ea_ := Option.some.inj (hx170_2.symm.trans hx171_2)
                        injection ea_ with ea_ en_ ec_
                        subst ea_
                        subst ec_
                        clear en_
                        have p172 : 0 ≤ (x3_2 : Int) := of_decide_eq_true (by first | (with_reducible assumption) | assumption)
                        have q172 : x3_2 < (((rd_T25 l0 0).f2).length : Int) := of_decide_eq_true (by first | (with_reducible assumption) | assumption)
                        obtain ⟨ad172, A172_1, c172_1, e172, hx172_0, hx172_1, hl172_1, hi172_1⟩ := at_T80 HR171_2.out x3_2 p172 q172
                        cases e172
                        have HR172_1 := Aside0.mk hi172_1
                        have HC172_1 := Aside0.mk hl172_1
                        clear hi172_1 hl172_1
                        replace p172 := eq_true p172
                        replace q172 := eq_true q172
                        go_wp2_with (first | (go_at_call 43; (with_reducible refine (spec_l1In.calls ((rd_T80 ((rd_T25 l0 0).f2) x3_2).f0) 0 400 false _ A13.out).mono ?_); rintro e w' ⟨rfl, ⟨nd, rfl⟩⟩; (try first | exact ⟨rfl, _, World.drewN_drewN _ _ _⟩ | exact ⟨rfl, _, Eq.trans (World.drewN_drewN _ _ _) (congrArg (World.drewN _) (Nat.add_assoc _ _ _))⟩)))
                        repeat (go_quiet (first | (go_at_call 43; (with_reducible refine (spec_l1In.calls ((rd_T80 ((rd_T25 l0 0).f2) x3_2).f0) 0 400 false _ A13.out).mono ?_); rintro e w' ⟨rfl, ⟨nd, rfl⟩⟩; (try first | exact ⟨rfl, _, World.drewN_drewN _ _ _⟩ | exact ⟨rfl, _, Eq.trans (World.drewN_drewN _ _ _) (congrArg (World.drewN _) (Nat.add_assoc _ _ _))⟩))); try go_wp2_with (first | (go_at_call 43; (with_reducible refine (spec_l1In.calls ((rd_T80 ((rd_T25 l0 0).f2) x3_2).f0) 0 400 false _ A13.out).mono ?_); rintro e w' ⟨rfl, ⟨nd, rfl⟩⟩; (try first | exact ⟨rfl, _, World.drewN_drewN _ _ _⟩ | exact ⟨rfl, _, Eq.trans (World.drewN_drewN _ _ _) (congrArg (World.drewN _) (Nat.add_assoc _ _ _))⟩))))
                        go_ret
                        exact ⟨by first | rfl | (simp; done) | (simp [*]; done), by repeat (first | exact Drawn0.refl _ | apply Drawn0.step)⟩
                    · rw [if_neg c12] at H
                      exact absurd H (by simp)
                  · rw [if_neg c11] at H
                    have c11b0 : decide (x3_2 < (((rd_T25 l0 0).f2).length : Int)) = false := decide_eq_false c11
                    clear c11
                    obtain rfl := Option.some.inj H
                    have p170 : 0 ≤ (0 : Int) := (by omega)
                    have q170 : 0 < (l0.length : Int) := of_decide_eq_true (by first | (with_reducible assumption) | assumption)
                    obtain ⟨ad170, A170_2, c170_2, e170, hx170_0, hx170_1, hx170_2, hl170_2, hi170_2⟩ := at_T25 HR0.out 0 p170 q170
                    obtain rfl : ad169 = ad170 := (by injection e170)
                    have qi170 : (0 < l0.length) = True := eq_true (by omega)
                    (try rw [show ((0 : Int)).toNat = 0 from rfl] at hx170_0)
                    (try rw [show 0 * 3 = 0 from rfl] at hx170_0)
                    (try rw [Addr.add_zero'] at hx170_0)
                    (try rw [show ((0 : Int)).toNat = 0 from rfl] at hx170_1)
                    (try rw [show 0 * 3 = 0 from rfl] at hx170_1)
                    (try rw [Addr.add_zero'] at hx170_1)
                    (try rw [show ((0 : Int)).toNat = 0 from rfl] at hx170_2)
                    (try rw [show 0 * 3 = 0 from rfl] at hx170_2)
                    (try rw [Addr.add_zero'] at hx170_2)
                    have HR170_2 := Aside0.mk hi170_2
                    have HC170_2 := Aside0.mk hl170_2
                    clear hi170_2 hl170_2
                    replace p170 := eq_true p170
                    replace q170 := eq_true q170
                    go_wp2
                    repeat (go_quiet (fail); try go_wp2)
                    go_ret
                    exact ⟨by first | rfl | (simp; done) | (simp [*]; done), by repeat (first | exact Drawn0.refl _ | apply Drawn0.step)⟩
                · rw [if_neg c10] at H
                  exact absurd H (by simp)
        · rw [if_neg c8] at H
          exact absurd H (by simp)

/-! ### spec_l1Copy: function 89 -/
def spec_l1Copy.f (l0 : List Int) : Option (List Int) := (some (([] : List Int) : List Int)).bind fun y177 => (if y177.length + l0.length < 140737488355328 then (some (y177 ++ l0)) else (none))
set_option maxHeartbeats 8000000 in
set_option maxRecDepth 100000 in
theorem spec_l1Copy.calls (A0 : Option Addr) (c0 : Nat) (l0 : List Int) (r : List Int) (w : World) (hr0 : Kd.C (Kd.int .u8) w A0 l0.length l0) (hc0 : l0.length ≤ c0) (h : spec_l1Copy.f l0 = some r) :
    Calls Try.prog 89 #[.slice A0 l0.length c0] w fun e w' => ∃ v0_ : Value, e = .returned (v0_) ∧ Kd.R (Kd.int .u8) 5 w' w.heap.size (fun _ => True) v0_ r ∧ Below w.heap.size w w' := by
  have HR0 := Aside0.mk hr0
  have HC0 := Aside0.mk hc0
  clear hr0 hc0
  have HB := Aside0.mk (Below.refl w.heap.size w)
  have H : ((some (([] : List Int) : List Int)).bind fun y177 => (if y177.length + l0.length < 140737488355328 then (some (y177 ++ l0)) else (none))) = some r := h
  clear h
  obtain ⟨y177, hy177⟩ : ∃ y_ : List Int, y_ = (([] : List Int)) := ⟨_, rfl⟩
  replace H : (if y177.length + l0.length < 140737488355328 then (some (y177 ++ l0)) else (none)) = some r := by first | (rw [hy177]; with_reducible exact H) | (have H2_ := (Option.bind_some _ _).symm.trans H; rw [hy177]; with_reducible exact H2_) | (have H2_ := (Option.bind_some _ _).symm.trans H; with_reducible exact H2_) | with_reducible exact H | (rw [hy177]; exact H) | exact H
  have Ny177 := Aside0.mk hy177
  clear hy177
  by_cases c2 : y177.length + l0.length < 140737488355328
  · rw [if_pos c2] at H
    have LMc2 := Aside0.mk c2
    clear c2
    obtain ⟨y180, hy180⟩ : ∃ y_ : List Int, y_ = (y177 ++ l0) := ⟨_, rfl⟩
    replace H : (some y180) = some r := by first | (rw [hy180]; with_reducible exact H) | (have H2_ := (Option.bind_some _ _).symm.trans H; rw [hy180]; with_reducible exact H2_) | (have H2_ := (Option.bind_some _ _).symm.trans H; with_reducible exact H2_) | with_reducible exact H | (rw [hy180]; exact H) | exact H
    have Ny180 := Aside0.mk hy180
    clear hy180
    obtain rfl := Option.some.inj H
    go_enter Try.func89, Try.ntmps89
    go_wp2_with (first | ((with_reducible refine gate_dst (N := 3) rfl ?_); refine Kd.R_lit (Kd.int .u8) _ 5 ?hg (N := 3) ?hd (xs := ([] : List Int)) (inner := []) (ok := fun _ => True) (okp := fun _ => True) ?hr ?hp (fun _ hk => hk) trivial (Below.refl _ _) (Nat.le_refl _) (by simp) ?_; (case hd => rfl); (case hg => rfl); (case hr => first | (go_simp; done) | (go_simp; rfl)); (case hp => exact (Reps.none _ _)); intro v178 w3 ho4 hb hg_ hnew_; clear hg_ hnew_; (first | rw [← Ny177.out] at ho4 | (simp only [Int.reduceToNat] at ho4; rw [← Ny177.out] at ho4)); have n0_ := Aside0.mk (Kd.R_lower ho4 (below_size (by repeat (first | (with_reducible first | exact HB.out | apply below_alloc | apply pw_below_drewN | apply below_drew1) | exact HB.out)))); have n1_ := Aside0.mk (below_step (by repeat (first | (with_reducible first | exact HB.out | apply below_alloc | apply pw_below_drewN | apply below_drew1) | exact HB.out)) hb); clear HB; have HO179 := n0_; have HB := n1_; clear n0_ n1_; clear hb ho4) | ((with_reducible refine gate_builtin (b := .append) (xs := #[.tmp 3, .tmp 4]) rfl ?_); at_builtin; refine Kd.R_append_rows (Kd.int .u8) (w0 := w) w.heap.size rfl (.tmp 3) (.tmp 4) 22 5 (.int .u8 0) 1 rfl Try.underlying22 info5 rfl (by decide) (by omega) v178 y177 l0 _ _ _ (fun _ => True) (fun _ => False) rfl rfl ?aO ?aR (fun _ _ h => h) (fun _ h => h.elim) ?aF ?aB ?aS ?aL ?_; (case aR => repeat (first | exact (Kd.C_below HR0.out HB.out) | (with_reducible refine Kd.C_alloc ?_ _) | (with_reducible refine Kd.C_drewN ?_ _) | (with_reducible refine Kd.C_drew ?_))); (case aB => exact (by repeat (first | (with_reducible first | exact HB.out | apply below_alloc | apply pw_below_drewN | apply below_drew1) | exact HB.out))); (case aF => exact (fun _ _ => trivial)); (case aO => exact (by (with_reducible repeat (first | apply Kd.R_alloc | apply Kd.R_drewN | apply Kd.R_drew)); exact HO179.out)); (case aS => exact (below_size (by repeat (first | (with_reducible first | exact HB.out | apply below_alloc | apply pw_below_drewN | apply below_drew1) | exact HB.out)))); (case aL => have := LMc2.out; omega); intro v181 w5 ho hb hg hat; rw [← Ny180.out] at ho; have n0_ := Aside0.mk (hb); have n1_ := Aside0.mk (ho); clear HB; clear HO179; have HB := n0_; have HO182 := n1_; clear n0_ n1_; clear ho hb hg hat))
    go_ret
    exact ⟨_, by first | rfl | (simp [errW_none, errW_some] <;> rfl) | (simp [*, errW_none, errW_some] <;> rfl), by (with_reducible repeat (first | apply Kd.R_alloc | apply Kd.R_drewN | apply Kd.R_drew)); exact HO182.out, by repeat (first | (with_reducible first | exact HB.out | apply below_alloc | apply pw_below_drewN | apply below_drew1) | exact HB.out)⟩
  · rw [if_neg c2] at H
    exact absurd H (by simp)

end Go.Proofs.Ytkocconggohdgaa.PFnExactForgetFrom
