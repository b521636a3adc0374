/- Functions of the given program as plain Lean functions, each with a proof that the Go code answers just so; made by a program of this session out of the translation. Conditions: those that each theorem names. -/
import Derived.Test.YtkocconggohdgaaPFnExactCacheTruex0
import Derived.Test.YtkocconggohdgaaPFnExactCacheTruex2
namespace Go.Proofs.Ytkocconggohdgaa.PFnExactCacheTrue
open Go.RowKit Go.Proofs.YtkocconggohdgaaW.PrintWords Go.Proofs.YtkocconggohdgaaW.PrintLast Go.Proofs.YtkocconggohdgaaW.PrintMore
attribute [local go_sem] max2_int min2_int max_two min_two max_three min_three max_four min_four   -- for this text's walks alone
set_option linter.unusedVariables false
set_option linter.unusedSimpArgs false

/-! ### spec_l3Fault: function 50 -/
mutual
def spec_l3Fault.j0 : Nat → List (S25) → Bool → Option (Int)
  | 0, _, _ => none
  | k + 1, x0, x18 => if x18 = true then (some 3) else (if 0 < (x0.length : Int) then (if (((rd_T25 x0 0).f2).length : Int) > ((rd_T25 x0 0).f1) then (some 2) else (spec_l3Fault.l0 k x0 0)) else (none))
def spec_l3Fault.l0 : Nat → List (S25) → Int → Option (Int)
  | 0, _, _ => none
  | k + 1, x0, x3 => if 0 < (x0.length : Int) then (if x3 < (((rd_T25 x0 0).f2).length : Int) then (if 0 ≤ x3 then ((spec_l1In.f ((rd_T80 ((rd_T25 x0 0).f2) x3).f0) 0 400).bind fun t156 => (if t156 = true then ((spec_l1In.f (((rd_T80 ((rd_T25 x0 0).f2) x3).f1).length : Int) 1 ((rd_T25 x0 0).f0)).bind fun t158 => (if t158 = true then ((spec_l3At.f k x0 ((rd_T80 ((rd_T25 x0 0).f2) x3).f0)).bind fun t159 => (if t159 = x3 then (spec_l3Fault.l0 k x0 (wrap64 (x3 + 1))) else (some 6))) else (some 1))) else (some 3))) else (none)) else (some 0)) else (none)
end
def spec_l3Fault.f (k : Nat) (l0 : List (S25)) : Option (Int) := if 0 < (l0.length : Int) then ((spec_l1In.f ((rd_T25 l0 0).f0) 1 64).bind fun t150 => (if t150 = true then ((spec_l1In.f ((rd_T25 l0 0).f1) 1 6).bind fun t151 => (spec_l3Fault.j0 k l0 (!t151))) else (spec_l3Fault.j0 k l0 true))) else (none)
theorem spec_l3Fault.mono_l : ∀ k, (∀ y0 y1, LeO (spec_l3Fault.j0 k y0 y1) (spec_l3Fault.j0 (k + 1) y0 y1)) ∧ (∀ y0 y1, LeO (spec_l3Fault.l0 k y0 y1) (spec_l3Fault.l0 (k + 1) y0 y1))
  | 0 => ⟨fun _ _ r h => by simp [spec_l3Fault.j0] at h, fun _ _ r h => by simp [spec_l3Fault.l0] at h⟩
  | k + 1 => by
    obtain ⟨ih0, ih1⟩ := spec_l3Fault.mono_l k
    refine ⟨?_, ?_⟩
    · intro y0 y1
      unfold spec_l3Fault.j0
      repeat' first
      | (with_reducible exact ih0 _ _)
      | (with_reducible exact ih1 _ _)
      | (with_reducible exact spec_l3At.mono _ _ _)
      | (with_reducible exact LeO.refl _)
      | (with_reducible exact LeO.none _)
      | (with_reducible refine LeO.ite ?_ ?_)
      | (with_reducible refine LeO.bind ?_ (fun _ => ?_))
      | exact ih0 _ _
      | exact ih1 _ _
      | exact spec_l3At.mono _ _ _
      | exact LeO.none _
      | refine LeO.ite ?_ ?_
      | refine LeO.bind ?_ (fun _ => ?_)
    · intro y0 y1
      unfold spec_l3Fault.l0
      repeat' first
      | (with_reducible exact ih0 _ _)
      | (with_reducible exact ih1 _ _)
      | (with_reducible exact spec_l3At.mono _ _ _)
      | (with_reducible exact LeO.refl _)
      | (with_reducible exact LeO.none _)
      | (with_reducible refine LeO.ite ?_ ?_)
      | (with_reducible refine LeO.bind ?_ (fun _ => ?_))
      | exact ih0 _ _
      | exact ih1 _ _
      | exact spec_l3At.mono _ _ _
      | exact LeO.none _
      | refine LeO.ite ?_ ?_
      | refine LeO.bind ?_ (fun _ => ?_)
theorem spec_l3Fault.mono : ∀ a0 k, LeO (spec_l3Fault.f k a0) (spec_l3Fault.f (k + 1) a0) := by
  intro a0 k
  obtain ⟨ih0, ih1⟩ := spec_l3Fault.mono_l k
  unfold spec_l3Fault.f
  repeat' first
      | (with_reducible exact ih0 _ _)
      | (with_reducible exact ih1 _ _)
      | (with_reducible exact spec_l3At.mono _ _ _)
      | (with_reducible exact LeO.refl _)
      | (with_reducible exact LeO.none _)
      | (with_reducible refine LeO.ite ?_ ?_)
      | (with_reducible refine LeO.bind ?_ (fun _ => ?_))
      | exact ih0 _ _
      | exact ih1 _ _
      | exact spec_l3At.mono _ _ _
      | exact LeO.none _
      | refine LeO.ite ?_ ?_
      | refine LeO.bind ?_ (fun _ => ?_)
set_option maxHeartbeats 8000000 in
set_option maxRecDepth 100000 in
theorem spec_l3Fault.calls (k : Nat) (A0 : Option Addr) (c0 : Nat) (l0 : List (S25)) (r : Int) (w : World) (hr0 : Kd.C k25 w A0 l0.length l0) (hc0 : l0.length ≤ c0) (h : spec_l3Fault.f k l0 = some r) :
    Calls Try.prog 50 #[.pointer A0] w fun e w' => e = .returned (.int .i64 r) ∧ Drawn0 w w' := by
  have HR0 := Aside0.mk hr0
  have HC0 := Aside0.mk hc0
  clear hr0 hc0
  have H : (if 0 < (l0.length : Int) then ((spec_l1In.f ((rd_T25 l0 0).f0) 1 64).bind fun t150 => (if t150 = true then ((spec_l1In.f ((rd_T25 l0 0).f1) 1 6).bind fun t151 => (spec_l3Fault.j0 k l0 (!t151))) else (spec_l3Fault.j0 k l0 true))) else (none)) = some r := h
  clear h
  have HC2 := Aside0.mk H
  clear H
  go_enter Try.func50, Try.ntmps50
  go_upto_region 1 with (fail)
  repeat (go_quiet (fail); go_upto_region 1 with (fail))
  go_cut [18] (fun v18 wc => ∃ (kq : Nat) (x18_1 : Bool), v18 = .bool x18_1 ∧ Aside0 (spec_l3Fault.j0 kq l0 x18_1 = some r) ∧ Aside0 (kq ≤ k) ∧ Drawn0 w wc)
  case first =>
    have H := HC2.out
    clear HC2
    by_cases c3 : 0 < (l0.length : Int)
    · rw [if_pos c3] at H
      have c3b0 : decide (0 < (l0.length : Int)) = true := decide_eq_true c3
      have c3b1 : decide (0 < l0.length) = true := decide_eq_true (by omega)
      clear c3
      (first | rw [c3b0] | (simp only [i64_w, i32_w]; rw [c3b0]) | skip)
      replace H := Option.bind_eq_some_iff.mp H
      obtain ⟨t150, A40, H⟩ := H
      replace H : (if t150 = true then ((spec_l1In.f ((rd_T25 l0 0).f1) 1 6).bind fun t151 => (spec_l3Fault.j0 k l0 (!t151))) else (spec_l3Fault.j0 k l0 true)) = some r := H
      have A4 := Aside0.mk A40
      clear A40
      by_cases c5 : t150 = true
      · subst c5
        have H1 : ((spec_l1In.f ((rd_T25 l0 0).f1) 1 6).bind fun t151 => (spec_l3Fault.j0 k l0 (!t151))) = some r := by rw [if_pos rfl] at H; exact H
        clear H
        have H := H1
        clear H1
        replace H := Option.bind_eq_some_iff.mp H
        obtain ⟨t151, A60, H⟩ := H
        replace H : (spec_l3Fault.j0 k l0 (!t151)) = some r := H
        have A6 := Aside0.mk A60
        clear A60
        have H' := Aside0.mk H
        clear H
        have p149 : 0 ≤ (0 : Int) := (by omega)
        have q149 : 0 < (l0.length : Int) := of_decide_eq_true (by first | (with_reducible assumption) | assumption)
        obtain ⟨ad149, A149_2, c149_2, e149, hx149_0, hx149_1, hx149_2, hl149_2, hi149_2⟩ := at_T25 HR0.out 0 p149 q149
        cases e149
        have qi149 : (0 < l0.length) = True := eq_true (by omega)
        (try rw [show ((0 : Int)).toNat = 0 from rfl] at hx149_0)
        (try rw [show 0 * 3 = 0 from rfl] at hx149_0)
        (try rw [Addr.add_zero'] at hx149_0)
        (try rw [show ((0 : Int)).toNat = 0 from rfl] at hx149_1)
        (try rw [show 0 * 3 = 0 from rfl] at hx149_1)
        (try rw [Addr.add_zero'] at hx149_1)
        (try rw [show ((0 : Int)).toNat = 0 from rfl] at hx149_2)
        (try rw [show 0 * 3 = 0 from rfl] at hx149_2)
        (try rw [Addr.add_zero'] at hx149_2)
        have HR149_2 := Aside0.mk hi149_2
        have HC149_2 := Aside0.mk hl149_2
        clear hi149_2 hl149_2
        replace p149 := eq_true p149
        replace q149 := eq_true q149
        go_wp2_with (first | (go_at_call 43; (with_reducible refine (spec_l1In.calls ((rd_T25 l0 0).f0) 1 64 true _ A4.out).mono ?_); rintro e w' ⟨rfl, ⟨nd, rfl⟩⟩; (try first | exact ⟨rfl, _, World.drewN_drewN _ _ _⟩ | exact ⟨rfl, _, Eq.trans (World.drewN_drewN _ _ _) (congrArg (World.drewN _) (Nat.add_assoc _ _ _))⟩)) | (go_at_call 43; (with_reducible refine (spec_l1In.calls ((rd_T25 l0 0).f1) 1 6 t151 _ A6.out).mono ?_); rintro e w' ⟨rfl, ⟨nd, rfl⟩⟩; (try first | exact ⟨rfl, _, World.drewN_drewN _ _ _⟩ | exact ⟨rfl, _, Eq.trans (World.drewN_drewN _ _ _) (congrArg (World.drewN _) (Nat.add_assoc _ _ _))⟩)))
        repeat (go_quiet (first | (go_at_call 43; (with_reducible refine (spec_l1In.calls ((rd_T25 l0 0).f0) 1 64 true _ A4.out).mono ?_); rintro e w' ⟨rfl, ⟨nd, rfl⟩⟩; (try first | exact ⟨rfl, _, World.drewN_drewN _ _ _⟩ | exact ⟨rfl, _, Eq.trans (World.drewN_drewN _ _ _) (congrArg (World.drewN _) (Nat.add_assoc _ _ _))⟩)) | (go_at_call 43; (with_reducible refine (spec_l1In.calls ((rd_T25 l0 0).f1) 1 6 t151 _ A6.out).mono ?_); rintro e w' ⟨rfl, ⟨nd, rfl⟩⟩; (try first | exact ⟨rfl, _, World.drewN_drewN _ _ _⟩ | exact ⟨rfl, _, Eq.trans (World.drewN_drewN _ _ _) (congrArg (World.drewN _) (Nat.add_assoc _ _ _))⟩))); try go_wp2_with (first | (go_at_call 43; (with_reducible refine (spec_l1In.calls ((rd_T25 l0 0).f0) 1 64 true _ A4.out).mono ?_); rintro e w' ⟨rfl, ⟨nd, rfl⟩⟩; (try first | exact ⟨rfl, _, World.drewN_drewN _ _ _⟩ | exact ⟨rfl, _, Eq.trans (World.drewN_drewN _ _ _) (congrArg (World.drewN _) (Nat.add_assoc _ _ _))⟩)) | (go_at_call 43; (with_reducible refine (spec_l1In.calls ((rd_T25 l0 0).f1) 1 6 t151 _ A6.out).mono ?_); rintro e w' ⟨rfl, ⟨nd, rfl⟩⟩; (try first | exact ⟨rfl, _, World.drewN_drewN _ _ _⟩ | exact ⟨rfl, _, Eq.trans (World.drewN_drewN _ _ _) (congrArg (World.drewN _) (Nat.add_assoc _ _ _))⟩))))
        go_meet
        case rel => exact ⟨_, (!t151), (by first | rfl | (simp; done) | (simp [*]; done)), H', ⟨by first | omega | exact Nat.le_refl _⟩, by repeat (first | exact Drawn0.refl _ | apply Drawn0.step)⟩
      · replace c5 := Bool.eq_false_iff.mpr c5
        subst c5
        have H1 : (spec_l3Fault.j0 k l0 true) = some r := by rw [if_neg (show ¬ (false = true) by decide)] at H; exact H
        clear H
        have H := H1
        clear H1
        have H' := Aside0.mk H
        clear H
        have p149 : 0 ≤ (0 : Int) := (by omega)
        have q149 : 0 < (l0.length : Int) := of_decide_eq_true (by first | (with_reducible assumption) | assumption)
        obtain ⟨ad149, A149_2, c149_2, e149, hx149_0, hx149_1, hx149_2, hl149_2, hi149_2⟩ := at_T25 HR0.out 0 p149 q149
        cases e149
        have qi149 : (0 < l0.length) = True := eq_true (by omega)
        (try rw [show ((0 : Int)).toNat = 0 from rfl] at hx149_0)
        (try rw [show 0 * 3 = 0 from rfl] at hx149_0)
        (try rw [Addr.add_zero'] at hx149_0)
        (try rw [show ((0 : Int)).toNat = 0 from rfl] at hx149_1)
        (try rw [show 0 * 3 = 0 from rfl] at hx149_1)
        (try rw [Addr.add_zero'] at hx149_1)
        (try rw [show ((0 : Int)).toNat = 0 from rfl] at hx149_2)
        (try rw [show 0 * 3 = 0 from rfl] at hx149_2)
        (try rw [Addr.add_zero'] at hx149_2)
        have HR149_2 := Aside0.mk hi149_2
        have HC149_2 := Aside0.mk hl149_2
        clear hi149_2 hl149_2
        replace p149 := eq_true p149
        replace q149 := eq_true q149
        go_wp2_with (first | (go_at_call 43; (with_reducible refine (spec_l1In.calls ((rd_T25 l0 0).f0) 1 64 false _ A4.out).mono ?_); rintro e w' ⟨rfl, ⟨nd, rfl⟩⟩; (try first | exact ⟨rfl, _, World.drewN_drewN _ _ _⟩ | exact ⟨rfl, _, Eq.trans (World.drewN_drewN _ _ _) (congrArg (World.drewN _) (Nat.add_assoc _ _ _))⟩)))
        repeat (go_quiet (first | (go_at_call 43; (with_reducible refine (spec_l1In.calls ((rd_T25 l0 0).f0) 1 64 false _ A4.out).mono ?_); rintro e w' ⟨rfl, ⟨nd, rfl⟩⟩; (try first | exact ⟨rfl, _, World.drewN_drewN _ _ _⟩ | exact ⟨rfl, _, Eq.trans (World.drewN_drewN _ _ _) (congrArg (World.drewN _) (Nat.add_assoc _ _ _))⟩))); try go_wp2_with (first | (go_at_call 43; (with_reducible refine (spec_l1In.calls ((rd_T25 l0 0).f0) 1 64 false _ A4.out).mono ?_); rintro e w' ⟨rfl, ⟨nd, rfl⟩⟩; (try first | exact ⟨rfl, _, World.drewN_drewN _ _ _⟩ | exact ⟨rfl, _, Eq.trans (World.drewN_drewN _ _ _) (congrArg (World.drewN _) (Nat.add_assoc _ _ _))⟩))))
        go_meet
        case rel => exact ⟨_, (true), (by first | rfl | (simp; done) | (simp [*]; done)), H', ⟨by first | omega | exact Nat.le_refl _⟩, by repeat (first | exact Drawn0.refl _ | apply Drawn0.step)⟩
    · rw [if_neg c3] at H
      exact absurd H (by simp)
  case rest =>
    clear HC2
    try clear c1
    try clear p1
    try clear q1
    try clear hx1
    try clear qi1
    try clear p2
    try clear c3
    try clear c3b0
    try clear c3b1
    try clear c5
    try clear hx149_0
    try clear hx149_1
    try clear hx149_2
    try clear p149
    try clear q149
    obtain ⟨kq, x18_1, rfl, HA, HJ1, ⟨mc1, rfl⟩⟩ := hcut
    cases kq with
    | zero => exact absurd HA.out (by simp [spec_l3Fault.j0])
    | succ kj1 =>
      have H := HA.out
      clear HA
      simp only [spec_l3Fault.j0] at H
      by_cases c7 : x18_1 = true
      · subst c7
        have H1 : (some 3) = some r := by rw [if_pos rfl] at H; exact H
        clear H
        have H := H1
        clear H1
        obtain rfl := Option.some.inj H
        go_wp2
        repeat (go_quiet (fail); try go_wp2)
        go_ret
        exact ⟨by first | rfl | (simp; done) | (simp [*]; done), by repeat (first | exact Drawn0.refl _ | apply Drawn0.step)⟩
      · replace c7 := Bool.eq_false_iff.mpr c7
        subst c7
        have H1 : (if 0 < (l0.length : Int) then (if (((rd_T25 l0 0).f2).length : Int) > ((rd_T25 l0 0).f1) then (some 2) else (spec_l3Fault.l0 kj1 l0 0)) else (none)) = some r := by rw [if_neg (show ¬ (false = true) by decide)] at H; exact H
        clear H
        have H := H1
        clear H1
        by_cases c8 : 0 < (l0.length : Int)
        · rw [if_pos c8] at H
          have c8b0 : decide (0 < (l0.length : Int)) = true := decide_eq_true c8
          have c8b1 : decide (0 < l0.length) = true := decide_eq_true (by omega)
          clear c8
          by_cases c9 : (((rd_T25 l0 0).f2).length : Int) > ((rd_T25 l0 0).f1)
          · rw [if_pos c9] at H
            have c9b0 : decide (((rd_T25 l0 0).f1) < (((rd_T25 l0 0).f2).length : Int)) = true := decide_eq_true c9
            clear c9
            obtain rfl := Option.some.inj H
            have p152 : 0 ≤ (0 : Int) := (by omega)
            have q152 : 0 < (l0.length : Int) := of_decide_eq_true (by first | (with_reducible assumption) | assumption)
            obtain ⟨ad152, A152_2, c152_2, e152, hx152_0, hx152_1, hx152_2, hl152_2, hi152_2⟩ := at_T25 HR0.out 0 p152 q152
            cases e152
            have qi152 : (0 < l0.length) = True := eq_true (by omega)
            (try rw [show ((0 : Int)).toNat = 0 from rfl] at hx152_0)
            (try rw [show 0 * 3 = 0 from rfl] at hx152_0)
            (try rw [Addr.add_zero'] at hx152_0)
            (try rw [show ((0 : Int)).toNat = 0 from rfl] at hx152_1)
            (try rw [show 0 * 3 = 0 from rfl] at hx152_1)
            (try rw [Addr.add_zero'] at hx152_1)
            (try rw [show ((0 : Int)).toNat = 0 from rfl] at hx152_2)
            (try rw [show 0 * 3 = 0 from rfl] at hx152_2)
            (try rw [Addr.add_zero'] at hx152_2)
            have HR152_2 := Aside0.mk hi152_2
            have HC152_2 := Aside0.mk hl152_2
            clear hi152_2 hl152_2
            replace p152 := eq_true p152
            replace q152 := eq_true q152
            go_wp2
            repeat (go_quiet (fail); try go_wp2)
            go_ret
            exact ⟨by first | rfl | (simp; done) | (simp [*]; done), by repeat (first | exact Drawn0.refl _ | apply Drawn0.step)⟩
          · rw [if_neg c9] at H
            have c9b0 : decide (((rd_T25 l0 0).f1) < (((rd_T25 l0 0).f2).length : Int)) = false := decide_eq_false c9
            clear c9
            have H' := Aside0.mk H
            clear H
            have p152 : 0 ≤ (0 : Int) := (by omega)
            have q152 : 0 < (l0.length : Int) := of_decide_eq_true (by first | (with_reducible assumption) | assumption)
            obtain ⟨ad152, A152_2, c152_2, e152, hx152_0, hx152_1, hx152_2, hl152_2, hi152_2⟩ := at_T25 HR0.out 0 p152 q152
            cases e152
            have qi152 : (0 < l0.length) = True := eq_true (by omega)
            (try rw [show ((0 : Int)).toNat = 0 from rfl] at hx152_0)
            (try rw [show 0 * 3 = 0 from rfl] at hx152_0)
            (try rw [Addr.add_zero'] at hx152_0)
            (try rw [show ((0 : Int)).toNat = 0 from rfl] at hx152_1)
            (try rw [show 0 * 3 = 0 from rfl] at hx152_1)
            (try rw [Addr.add_zero'] at hx152_1)
            (try rw [show ((0 : Int)).toNat = 0 from rfl] at hx152_2)
            (try rw [show 0 * 3 = 0 from rfl] at hx152_2)
            (try rw [Addr.add_zero'] at hx152_2)
            have HR152_2 := Aside0.mk hi152_2
            have HC152_2 := Aside0.mk hl152_2
            clear hi152_2 hl152_2
            replace p152 := eq_true p152
            replace q152 := eq_true q152
            go_wp2
            repeat (go_quiet (fail); try go_wp2)
            go_loopg [3] kj1 (fun kq v3 w' => ∃ (x3_2 : Int), v3 = .int .i64 x3_2 ∧ Aside0 (spec_l3Fault.l0 kq l0 x3_2 = some r) ∧ Aside0 (kq ≤ kj1) ∧ Drawn0 w w')
            case atStart => exact ⟨(0), (by first | rfl | (simp; done) | (simp [*]; done)), H', ⟨Nat.le_refl _⟩, by repeat (first | exact Drawn0.refl _ | apply Drawn0.step)⟩
            case round =>
              clear H'
              try clear c1
              try clear p1
              try clear q1
              try clear hx1
              try clear qi1
              try clear p2
              try clear c3
              try clear c3b0
              try clear c3b1
              try clear c5
              try clear c7
              try clear c8
              try clear c8b0
              try clear c8b1
              try clear c9
              try clear c9b0
              try clear hx149_0
              try clear hx149_1
              try clear hx149_2
              try clear hx152_0
              try clear hx152_1
              try clear hx152_2
              try clear p1
              try clear p149
              try clear p152
              try clear p2
              try clear q1
              try clear q149
              try clear q152
              obtain ⟨x3_2, rfl, HA, HK2, ⟨m2, rfl⟩⟩ := hrel
              cases gk with
              | zero => exact absurd HA.out (by simp [spec_l3Fault.l0])
              | succ k2 =>
                have H := HA.out
                clear HA
                simp only [spec_l3Fault.l0] at H
                by_cases c10 : 0 < (l0.length : Int)
                · rw [if_pos c10] at H
                  have c10b0 : decide (0 < (l0.length : Int)) = true := decide_eq_true c10
                  have c10b1 : decide (0 < l0.length) = true := decide_eq_true (by omega)
                  clear c10
                  by_cases c11 : x3_2 < (((rd_T25 l0 0).f2).length : Int)
                  · rw [if_pos c11] at H
                    have c11b0 : decide (x3_2 < (((rd_T25 l0 0).f2).length : Int)) = true := decide_eq_true c11
                    clear c11
                    by_cases c12 : 0 ≤ x3_2
                    · rw [if_pos c12] at H
                      have c12b0 : decide (0 ≤ x3_2) = true := decide_eq_true c12
                      clear c12
                      replace H := Option.bind_eq_some_iff.mp H
                      obtain ⟨t156, A130, H⟩ := H
                      replace H : (if t156 = true then ((spec_l1In.f (((rd_T80 ((rd_T25 l0 0).f2) x3_2).f1).length : Int) 1 ((rd_T25 l0 0).f0)).bind fun t158 => (if t158 = true then ((spec_l3At.f k2 l0 ((rd_T80 ((rd_T25 l0 0).f2) x3_2).f0)).bind fun t159 => (if t159 = x3_2 then (spec_l3Fault.l0 k2 l0 (wrap64 (x3_2 + 1))) else (some 6))) else (some 1))) else (some 3)) = some r := H
                      have A13 := Aside0.mk A130
                      clear A130
                      by_cases c14 : t156 = true
                      · subst c14
                        have H1 : ((spec_l1In.f (((rd_T80 ((rd_T25 l0 0).f2) x3_2).f1).length : Int) 1 ((rd_T25 l0 0).f0)).bind fun t158 => (if t158 = true then ((spec_l3At.f k2 l0 ((rd_T80 ((rd_T25 l0 0).f2) x3_2).f0)).bind fun t159 => (if t159 = x3_2 then (spec_l3Fault.l0 k2 l0 (wrap64 (x3_2 + 1))) else (some 6))) else (some 1))) = some r := by rw [if_pos rfl] at H; exact H
                        clear H
                        have H := H1
                        clear H1
                        replace H := Option.bind_eq_some_iff.mp H
                        obtain ⟨t158, A150, H⟩ := H
                        replace H : (if t158 = true then ((spec_l3At.f k2 l0 ((rd_T80 ((rd_T25 l0 0).f2) x3_2).f0)).bind fun t159 => (if t159 = x3_2 then (spec_l3Fault.l0 k2 l0 (wrap64 (x3_2 + 1))) else (some 6))) else (some 1)) = some r := H
                        have A15 := Aside0.mk A150
                        clear A150
                        by_cases c16 : t158 = true
                        · subst c16
                          have H1 : ((spec_l3At.f k2 l0 ((rd_T80 ((rd_T25 l0 0).f2) x3_2).f0)).bind fun t159 => (if t159 = x3_2 then (spec_l3Fault.l0 k2 l0 (wrap64 (x3_2 + 1))) else (some 6))) = some r := by rw [if_pos rfl] at H; exact H
                          clear H
                          have H := H1
                          clear H1
                          replace H := Option.bind_eq_some_iff.mp H
                          obtain ⟨t159, A170, H⟩ := H
                          replace H : (if t159 = x3_2 then (spec_l3Fault.l0 k2 l0 (wrap64 (x3_2 + 1))) else (some 6)) = some r := H
                          have A17 := Aside0.mk A170
                          clear A170
                          by_cases c18 : t159 = x3_2
                          · rw [if_pos c18] at H
                            have c18b0 : (t159 == x3_2) = true := beq_iff_eq.mpr c18
                            have c18b1 : (t159 != x3_2) = false := bne_eq_false_iff_eq.mpr c18
                            clear c18
                            have H' := Aside0.mk H
                            clear H
                            have p153 : 0 ≤ (0 : Int) := (by omega)
                            have q153 : 0 < (l0.length : Int) := of_decide_eq_true (by first | (with_reducible assumption) | assumption)
                            obtain ⟨ad153, A153_2, c153_2, e153, hx153_0, hx153_1, hx153_2, hl153_2, hi153_2⟩ := at_T25 HR0.out 0 p153 q153
                            obtain rfl : ad152 = ad153 := (by injection e153)
                            have qi153 : (0 < l0.length) = True := eq_true (by omega)
                            (try rw [show ((0 : Int)).toNat = 0 from rfl] at hx153_0)
                            (try rw [show 0 * 3 = 0 from rfl] at hx153_0)
                            (try rw [Addr.add_zero'] at hx153_0)
                            (try rw [show ((0 : Int)).toNat = 0 from rfl] at hx153_1)
                            (try rw [show 0 * 3 = 0 from rfl] at hx153_1)
                            (try rw [Addr.add_zero'] at hx153_1)
                            (try rw [show ((0 : Int)).toNat = 0 from rfl] at hx153_2)
                            (try rw [show 0 * 3 = 0 from rfl] at hx153_2)
                            (try rw [Addr.add_zero'] at hx153_2)
                            have HR153_2 := Aside0.mk hi153_2
                            have HC153_2 := Aside0.mk hl153_2
                            clear hi153_2 hl153_2
                            replace p153 := eq_true p153
                            replace q153 := eq_true q153
                            have p154 : 0 ≤ (0 : Int) := (by omega)
                            have q154 : 0 < (l0.length : Int) := of_decide_eq_true (by first | (with_reducible assumption) | assumption)
                            obtain ⟨ad154, A154_2, c154_2, e154, hx154_0, hx154_1, hx154_2, hl154_2, hi154_2⟩ := at_T25 HR0.out 0 p154 q154
                            obtain rfl : ad152 = ad154 := (by injection e154)
                            have qi154 : (0 < l0.length) = True := eq_true (by omega)
                            (try rw [show ((0 : Int)).toNat = 0 from rfl] at hx154_0)
                            (try rw [show 0 * 3 = 0 from rfl] at hx154_0)
                            (try rw [Addr.add_zero'] at hx154_0)
                            (try rw [show ((0 : Int)).toNat = 0 from rfl] at hx154_1)
                            (try rw [show 0 * 3 = 0 from rfl] at hx154_1)
                            (try rw [Addr.add_zero'] at hx154_1)
                            (try rw [show ((0 : Int)).toNat = 0 from rfl] at hx154_2)
                            (try rw [show 0 * 3 = 0 from rfl] at hx154_2)
                            (try rw [Addr.add_zero'] at hx154_2)
                            have HR154_2 := Aside0.mk hi154_2
                            have HC154_2 := Aside0.mk hl154_2
                            clear hi154_2 hl154_2
                            replace p154 := eq_true p154
                            replace q154 := eq_true q154
                            have ea_ := Option.some.inj (hx153_2.symm.trans hx154_2)
                            injection ea_ with ea_ en_ ec_
                            subst ea_
                            subst ec_
                            clear en_
                            have p155 : 0 ≤ (x3_2 : Int) := of_decide_eq_true (by first | (with_reducible assumption) | assumption)
                            have q155 : x3_2 < (((rd_T25 l0 0).f2).length : Int) := of_decide_eq_true (by first | (with_reducible assumption) | assumption)
                            obtain ⟨ad155, A155_1, c155_1, e155, hx155_0, hx155_1, hl155_1, hi155_1⟩ := at_T80 HR154_2.out x3_2 p155 q155
                            cases e155
                            have HR155_1 := Aside0.mk hi155_1
                            have HC155_1 := Aside0.mk hl155_1
                            clear hi155_1 hl155_1
                            replace p155 := eq_true p155
                            replace q155 := eq_true q155
                            go_wp2_with (first | (go_at_call 43; (with_reducible refine (spec_l1In.calls ((rd_T80 ((rd_T25 l0 0).f2) x3_2).f0) 0 400 true _ A13.out).mono ?_); rintro e w' ⟨rfl, ⟨nd, rfl⟩⟩; (try first | exact ⟨rfl, _, World.drewN_drewN _ _ _⟩ | exact ⟨rfl, _, Eq.trans (World.drewN_drewN _ _ _) (congrArg (World.drewN _) (Nat.add_assoc _ _ _))⟩); have p157 : 0 ≤ (0 : Int) := (by omega); have q157 : 0 < (l0.length : Int) := of_decide_eq_true (by first | (with_reducible assumption) | assumption); obtain ⟨ad157, A157_2, c157_2, e157, hx157_0, hx157_1, hx157_2, hl157_2, hi157_2⟩ := at_T25 HR0.out 0 p157 q157; obtain rfl : ad152 = ad157 := (by injection e157); have qi157 : (0 < l0.length) = True := eq_true (by omega); (try rw [show ((0 : Int)).toNat = 0 from rfl] at hx157_0); (try rw [show 0 * 3 = 0 from rfl] at hx157_0); (try rw [Addr.add_zero'] at hx157_0); (try rw [show ((0 : Int)).toNat = 0 from rfl] at hx157_1); (try rw [show 0 * 3 = 0 from rfl] at hx157_1); (try rw [Addr.add_zero'] at hx157_1); (try rw [show ((0 : Int)).toNat = 0 from rfl] at hx157_2); (try rw [show 0 * 3 = 0 from rfl] at hx157_2); (try rw [Addr.add_zero'] at hx157_2); have HR157_2 := Aside0.mk hi157_2; have HC157_2 := Aside0.mk hl157_2; clear hi157_2 hl157_2; replace p157 := eq_true p157; replace q157 := eq_true q157; have ea_ := Option.some.inj (hx153_2.symm.trans hx157_2); injection ea_ with ea_ en_ ec_; subst ea_; subst ec_; clear en_) | (go_at_call 43; (with_reducible refine (spec_l1In.calls (((rd_T80 ((rd_T25 l0 0).f2) x3_2).f1).length : Int) 1 ((rd_T25 l0 0).f0) true _ A15.out).mono ?_); rintro e w' ⟨rfl, ⟨nd, rfl⟩⟩; (try first | exact ⟨rfl, _, World.drewN_drewN _ _ _⟩ | exact ⟨rfl, _, Eq.trans (World.drewN_drewN _ _ _) (congrArg (World.drewN _) (Nat.add_assoc _ _ _))⟩)) | (go_at_call 81; (with_reducible refine (spec_l3At.calls k2 _ (l0).length l0 ((rd_T80 ((rd_T25 l0 0).f2) x3_2).f0) t159 _ ?side1 ?side2 A17.out).mono ?_); (case side1 => repeat (first | exact HR0.out | (with_reducible refine Kd.C_alloc ?_ _) | (with_reducible refine Kd.C_drewN ?_ _) | (with_reducible refine Kd.C_drew ?_))); (case side2 => exact Nat.le_refl _); rintro e w' ⟨rfl, ⟨nd, rfl⟩⟩; (try first | exact ⟨rfl, _, World.drewN_drewN _ _ _⟩ | exact ⟨rfl, _, Eq.trans (World.drewN_drewN _ _ _) (congrArg (World.drewN _) (Nat.add_assoc _ _ _))⟩)))
                            repeat (go_quiet (first | (go_at_call 43; (with_reducible refine (spec_l1In.calls ((rd_T80 ((rd_T25 l0 0).f2) x3_2).f0) 0 400 true _ A13.out).mono ?_); rintro e w' ⟨rfl, ⟨nd, rfl⟩⟩; (try first | exact ⟨rfl, _, World.drewN_drewN _ _ _⟩ | exact ⟨rfl, _, Eq.trans (World.drewN_drewN _ _ _) (congrArg (World.drewN _) (Nat.add_assoc _ _ _))⟩); have p157 : 0 ≤ (0 : Int) := (by omega); have q157 : 0 < (l0.length : Int) := of_decide_eq_true (by first | (with_reducible assumption) | assumption); obtain ⟨ad157, A157_2, c157_2, e157, hx157_0, hx157_1, hx157_2, hl157_2, hi157_2⟩ := at_T25 HR0.out 0 p157 q157; obtain rfl : ad152 = ad157 := (by injection e157); have qi157 : (0 < l0.length) = True := eq_true (by omega); (try rw [show ((0 : Int)).toNat = 0 from rfl] at hx157_0); (try rw [show 0 * 3 = 0 from rfl] at hx157_0); (try rw [Addr.add_zero'] at hx157_0); (try rw [show ((0 : Int)).toNat = 0 from rfl] at hx157_1); (try rw [show 0 * 3 = 0 from rfl] at hx157_1); (try rw [Addr.add_zero'] at hx157_1); (try rw [show ((0 : Int)).toNat = 0 from rfl] at hx157_2); (try rw [show 0 * 3 = 0 from rfl] at hx157_2); (try rw [Addr.add_zero'] at hx157_2); have HR157_2 := Aside0.mk hi157_2; have HC157_2 := Aside0.mk hl157_2; clear hi157_2 hl157_2; replace p157 := eq_true p157; replace q157 := eq_true q157; have ea_ := Option.some.inj (hx153_2.symm.trans hx157_2); injection ea_ with ea_ en_ ec_; subst ea_; subst ec_; clear en_) | (go_at_call 43; (with_reducible refine (spec_l1In.calls (((rd_T80 ((rd_T25 l0 0).f2) x3_2).f1).length : Int) 1 ((rd_T25 l0 0).f0) true _ A15.out).mono ?_); rintro e w' ⟨rfl, ⟨nd, rfl⟩⟩; (try first | exact ⟨rfl, _, World.drewN_drewN _ _ _⟩ | exact ⟨rfl, _, Eq.trans (World.drewN_drewN _ _ _) (congrArg (World.drewN _) (Nat.add_assoc _ _ _))⟩)) | (go_at_call 81; (with_reducible refine (spec_l3At.calls k2 _ (l0).length l0 ((rd_T80 ((rd_T25 l0 0).f2) x3_2).f0) t159 _ ?side1 ?side2 A17.out).mono ?_); (case side1 => repeat (first | exact HR0.out | (with_reducible refine Kd.C_alloc ?_ _) | (with_reducible refine Kd.C_drewN ?_ _) | (with_reducible refine Kd.C_drew ?_))); (case side2 => exact Nat.le_refl _); rintro e w' ⟨rfl, ⟨nd, rfl⟩⟩; (try first | exact ⟨rfl, _, World.drewN_drewN _ _ _⟩ | exact ⟨rfl, _, Eq.trans (World.drewN_drewN _ _ _) (congrArg (World.drewN _) (Nat.add_assoc _ _ _))⟩))); try go_wp2_with (first | (go_at_call 43; (with_reducible refine (spec_l1In.calls ((rd_T80 ((rd_T25 l0 0).f2) x3_2).f0) 0 400 true _ A13.out).mono ?_); rintro e w' ⟨rfl, ⟨nd, rfl⟩⟩; (try first | exact ⟨rfl, _, World.drewN_drewN _ _ _⟩ | exact ⟨rfl, _, Eq.trans (World.drewN_drewN _ _ _) (congrArg (World.drewN _) (Nat.add_assoc _ _ _))⟩); have p157 : 0 ≤ (0 : Int) := (by omega); have q157 : 0 < (l0.length : Int) := of_decide_eq_true (by first | (with_reducible assumption) | assumption); obtain ⟨ad157, A157_2, c157_2, e157, hx157_0, hx157_1, hx157_2, hl157_2, hi157_2⟩ := at_T25 HR0.out 0 p157 q157; obtain rfl : ad152 = ad157 := (by injection e157); have qi157 : (0 < l0.length) = True := eq_true (by omega); (try rw [show ((0 : Int)).toNat = 0 from rfl] at hx157_0); (try rw [show 0 * 3 = 0 from rfl] at hx157_0); (try rw [Addr.add_zero'] at hx157_0); (try rw [show ((0 : Int)).toNat = 0 from rfl] at hx157_1); (try rw [show 0 * 3 = 0 from rfl] at hx157_1); (try rw [Addr.add_zero'] at hx157_1); (try rw [show ((0 : Int)).toNat = 0 from rfl] at hx157_2); (try rw [show 0 * 3 = 0 from rfl] at hx157_2); (try rw [Addr.add_zero'] at hx157_2); have HR157_2 := Aside0.mk hi157_2; have HC157_2 := Aside0.mk hl157_2; clear hi157_2 hl157_2; replace p157 := eq_true p157; replace q157 := eq_true q157; have ea_ := Option.some.inj (hx153_2.symm.trans hx157_2); injection ea_ with ea_ en_ ec_; subst ea_; subst ec_; clear en_) | (go_at_call 43; (with_reducible refine (spec_l1In.calls (((rd_T80 ((rd_T25 l0 0).f2) x3_2).f1).length : Int) 1 ((rd_T25 l0 0).f0) true _ A15.out).mono ?_); rintro e w' ⟨rfl, ⟨nd, rfl⟩⟩; (try first | exact ⟨rfl, _, World.drewN_drewN _ _ _⟩ | exact ⟨rfl, _, Eq.trans (World.drewN_drewN _ _ _) (congrArg (World.drewN _) (Nat.add_assoc _ _ _))⟩)) | (go_at_call 81; (with_reducible refine (spec_l3At.calls k2 _ (l0).length l0 ((rd_T80 ((rd_T25 l0 0).f2) x3_2).f0) t159 _ ?side1 ?side2 A17.out).mono ?_); (case side1 => repeat (first | exact HR0.out | (with_reducible refine Kd.C_alloc ?_ _) | (with_reducible refine Kd.C_drewN ?_ _) | (with_reducible refine Kd.C_drew ?_))); (case side2 => exact Nat.le_refl _); rintro e w' ⟨rfl, ⟨nd, rfl⟩⟩; (try first | exact ⟨rfl, _, World.drewN_drewN _ _ _⟩ | exact ⟨rfl, _, Eq.trans (World.drewN_drewN _ _ _) (congrArg (World.drewN _) (Nat.add_assoc _ _ _))⟩))))
                            go_roundg k2
                            case measure => have := HJ1.out; have := HK2.out; omega
                            case rel => exact ⟨(wrap64 (x3_2 + 1)), (by first | rfl | (simp; done) | (simp [*]; done)), H', ⟨by have := HJ1.out; have := HK2.out; omega⟩, by repeat (first | exact Drawn0.refl _ | apply Drawn0.step)⟩
                          · rw [if_neg c18] at H
                            have c18b0 : (t159 == x3_2) = false := beq_eq_false_iff_ne.mpr c18
                            have c18b1 : (t159 != x3_2) = true := bne_iff_ne.mpr c18
                            obtain rfl := Option.some.inj H
                            have p153 : 0 ≤ (0 : Int) := (by omega)
                            have q153 : 0 < (l0.length : Int) := of_decide_eq_true (by first | (with_reducible assumption) | assumption)
                            obtain ⟨ad153, A153_2, c153_2, e153, hx153_0, hx153_1, hx153_2, hl153_2, hi153_2⟩ := at_T25 HR0.out 0 p153 q153
                            obtain rfl : ad152 = ad153 := (by injection e153)
                            have qi153 : (0 < l0.length) = True := eq_true (by omega)
                            (try rw [show ((0 : Int)).toNat = 0 from rfl] at hx153_0)
                            (try rw [show 0 * 3 = 0 from rfl] at hx153_0)
                            (try rw [Addr.add_zero'] at hx153_0)
                            (try rw [show ((0 : Int)).toNat = 0 from rfl] at hx153_1)
                            (try rw [show 0 * 3 = 0 from rfl] at hx153_1)
                            (try rw [Addr.add_zero'] at hx153_1)
                            (try rw [show ((0 : Int)).toNat = 0 from rfl] at hx153_2)
                            (try rw [show 0 * 3 = 0 from rfl] at hx153_2)
                            (try rw [Addr.add_zero'] at hx153_2)
                            have HR153_2 := Aside0.mk hi153_2
                            have HC153_2 := Aside0.mk hl153_2
                            clear hi153_2 hl153_2
                            replace p153 := eq_true p153
                            replace q153 := eq_true q153
                            have p154 : 0 ≤ (0 : Int) := (by omega)
                            have q154 : 0 < (l0.length : Int) := of_decide_eq_true (by first | (with_reducible assumption) | assumption)
                            obtain ⟨ad154, A154_2, c154_2, e154, hx154_0, hx154_1, hx154_2, hl154_2, hi154_2⟩ := at_T25 HR0.out 0 p154 q154
                            obtain rfl : ad152 = ad154 := (by injection e154)
                            have qi154 : (0 < l0.length) = True := eq_true (by omega)
                            (try rw [show ((0 : Int)).toNat = 0 from rfl] at hx154_0)
                            (try rw [show 0 * 3 = 0 from rfl] at hx154_0)
                            (try rw [Addr.add_zero'] at hx154_0)
                            (try rw [show ((0 : Int)).toNat = 0 from rfl] at hx154_1)
                            (try rw [show 0 * 3 = 0 from rfl] at hx154_1)
                            (try rw [Addr.add_zero'] at hx154_1)
                            (try rw [show ((0 : Int)).toNat = 0 from rfl] at hx154_2)
                            (try rw [show 0 * 3 = 0 from rfl] at hx154_2)
                            (try rw [Addr.add_zero'] at hx154_2)
                            have HR154_2 := Aside0.mk hi154_2
                            have HC154_2 := Aside0.mk hl154_2
                            clear hi154_2 hl154_2
                            replace p154 := eq_true p154
                            replace q154 := eq_true q154
                            have ea_ := Option.some.inj (hx153_2.symm.trans hx154_2)
                            injection ea_ with ea_ en_ ec_
                            subst ea_
                            subst ec_
                            clear en_
                            have p155 : 0 ≤ (x3_2 : Int) := of_decide_eq_true (by first | (with_reducible assumption) | assumption)
                            have q155 : x3_2 < (((rd_T25 l0 0).f2).length : Int) := of_decide_eq_true (by first | (with_reducible assumption) | assumption)
                            obtain ⟨ad155, A155_1, c155_1, e155, hx155_0, hx155_1, hl155_1, hi155_1⟩ := at_T80 HR154_2.out x3_2 p155 q155
                            cases e155
                            have HR155_1 := Aside0.mk hi155_1
                            have HC155_1 := Aside0.mk hl155_1
                            clear hi155_1 hl155_1
                            replace p155 := eq_true p155
                            replace q155 := eq_true q155
                            go_wp2_with (first | (go_at_call 43; (with_reducible refine (spec_l1In.calls ((rd_T80 ((rd_T25 l0 0).f2) x3_2).f0) 0 400 true _ A13.out).mono ?_); rintro e w' ⟨rfl, ⟨nd, rfl⟩⟩; (try first | exact ⟨rfl, _, World.drewN_drewN _ _ _⟩ | exact ⟨rfl, _, Eq.trans (World.drewN_drewN _ _ _) (congrArg (World.drewN _) (Nat.add_assoc _ _ _))⟩); have p157 : 0 ≤ (0 : Int) := (by omega); have q157 : 0 < (l0.length : Int) := of_decide_eq_true (by first | (with_reducible assumption) | assumption); obtain ⟨ad157, A157_2, c157_2, e157, hx157_0, hx157_1, hx157_2, hl157_2, hi157_2⟩ := at_T25 HR0.out 0 p157 q157; obtain rfl : ad152 = ad157 := (by injection e157); have qi157 : (0 < l0.length) = True := eq_true (by omega); (try rw [show ((0 : Int)).toNat = 0 from rfl] at hx157_0); (try rw [show 0 * 3 = 0 from rfl] at hx157_0); (try rw [Addr.add_zero'] at hx157_0); (try rw [show ((0 : Int)).toNat = 0 from rfl] at hx157_1); (try rw [show 0 * 3 = 0 from rfl] at hx157_1); (try rw [Addr.add_zero'] at hx157_1); (try rw [show ((0 : Int)).toNat = 0 from rfl] at hx157_2); (try rw [show 0 * 3 = 0 from rfl] at hx157_2); (try rw [Addr.add_zero'] at hx157_2); have HR157_2 := Aside0.mk hi157_2; have HC157_2 := Aside0.mk hl157_2; clear hi157_2 hl157_2; replace p157 := eq_true p157; replace q157 := eq_true q157; have ea_ := Option.some.inj (hx153_2.symm.trans hx157_2); injection ea_ with ea_ en_ ec_; subst ea_; subst ec_; clear en_) | (go_at_call 43; (with_reducible refine (spec_l1In.calls (((rd_T80 ((rd_T25 l0 0).f2) x3_2).f1).length : Int) 1 ((rd_T25 l0 0).f0) true _ A15.out).mono ?_); rintro e w' ⟨rfl, ⟨nd, rfl⟩⟩; (try first | exact ⟨rfl, _, World.drewN_drewN _ _ _⟩ | exact ⟨rfl, _, Eq.trans (World.drewN_drewN _ _ _) (congrArg (World.drewN _) (Nat.add_assoc _ _ _))⟩)) | (go_at_call 81; (with_reducible refine (spec_l3At.calls k2 _ (l0).length l0 ((rd_T80 ((rd_T25 l0 0).f2) x3_2).f0) t159 _ ?side1 ?side2 A17.out).mono ?_); (case side1 => repeat (first | exact HR0.out | (with_reducible refine Kd.C_alloc ?_ _) | (with_reducible refine Kd.C_drewN ?_ _) | (with_reducible refine Kd.C_drew ?_))); (case side2 => exact Nat.le_refl _); rintro e w' ⟨rfl, ⟨nd, rfl⟩⟩; (try first | exact ⟨rfl, _, World.drewN_drewN _ _ _⟩ | exact ⟨rfl, _, Eq.trans (World.drewN_drewN _ _ _) (congrArg (World.drewN _) (Nat.add_assoc _ _ _))⟩)))
                            repeat (go_quiet (first | (go_at_call 43; (with_reducible refine (spec_l1In.calls ((rd_T80 ((rd_T25 l0 0).f2) x3_2).f0) 0 400 true _ A13.out).mono ?_); rintro e w' ⟨rfl, ⟨nd, rfl⟩⟩; (try first | exact ⟨rfl, _, World.drewN_drewN _ _ _⟩ | exact ⟨rfl, _, Eq.trans (World.drewN_drewN _ _ _) (congrArg (World.drewN _) (Nat.add_assoc _ _ _))⟩); have p157 : 0 ≤ (0 : Int) := (by omega); have q157 : 0 < (l0.length : Int) := of_decide_eq_true (by first | (with_reducible assumption) | assumption); obtain ⟨ad157, A157_2, c157_2, e157, hx157_0, hx157_1, hx157_2, hl157_2, hi157_2⟩ := at_T25 HR0.out 0 p157 q157; obtain rfl : ad152 = ad157 := (by injection e157); have qi157 : (0 < l0.length) = True := eq_true (by omega); (try rw [show ((0 : Int)).toNat = 0 from rfl] at hx157_0); (try rw [show 0 * 3 = 0 from rfl] at hx157_0); (try rw [Addr.add_zero'] at hx157_0); (try rw [show ((0 : Int)).toNat = 0 from rfl] at hx157_1); (try rw [show 0 * 3 = 0 from rfl] at hx157_1); (try rw [Addr.add_zero'] at hx157_1); (try rw [show ((0 : Int)).toNat = 0 from rfl] at hx157_2); (try rw [show 0 * 3 = 0 from rfl] at hx157_2); (try rw [Addr.add_zero'] at hx157_2); have HR157_2 := Aside0.mk hi157_2; have HC157_2 := Aside0.mk hl157_2; clear hi157_2 hl157_2; replace p157 := eq_true p157; replace q157 := eq_true q157; have ea_ := Option.some.inj (hx153_2.symm.trans hx157_2); injection ea_ with ea_ en_ ec_; subst ea_; subst ec_; clear en_) | (go_at_call 43; (with_reducible refine (spec_l1In.calls (((rd_T80 ((rd_T25 l0 0).f2) x3_2).f1).length : Int) 1 ((rd_T25 l0 0).f0) true _ A15.out).mono ?_); rintro e w' ⟨rfl, ⟨nd, rfl⟩⟩; (try first | exact ⟨rfl, _, World.drewN_drewN _ _ _⟩ | exact ⟨rfl, _, Eq.trans (World.drewN_drewN _ _ _) (congrArg (World.drewN _) (Nat.add_assoc _ _ _))⟩)) | (go_at_call 81; (with_reducible refine (spec_l3At.calls k2 _ (l0).length l0 ((rd_T80 ((rd_T25 l0 0).f2) x3_2).f0) t159 _ ?side1 ?side2 A17.out).mono ?_); (case side1 => repeat (first | exact HR0.out | (with_reducible refine Kd.C_alloc ?_ _) | (with_reducible refine Kd.C_drewN ?_ _) | (with_reducible refine Kd.C_drew ?_))); (case side2 => exact Nat.le_refl _); rintro e w' ⟨rfl, ⟨nd, rfl⟩⟩; (try first | exact ⟨rfl, _, World.drewN_drewN _ _ _⟩ | exact ⟨rfl, _, Eq.trans (World.drewN_drewN _ _ _) (congrArg (World.drewN _) (Nat.add_assoc _ _ _))⟩))); try go_wp2_with (first | (go_at_call 43; (with_reducible refine (spec_l1In.calls ((rd_T80 ((rd_T25 l0 0).f2) x3_2).f0) 0 400 true _ A13.out).mono ?_); rintro e w' ⟨rfl, ⟨nd, rfl⟩⟩; (try first | exact ⟨rfl, _, World.drewN_drewN _ _ _⟩ | exact ⟨rfl, _, Eq.trans (World.drewN_drewN _ _ _) (congrArg (World.drewN _) (Nat.add_assoc _ _ _))⟩); have p157 : 0 ≤ (0 : Int) := (by omega); have q157 : 0 < (l0.length : Int) := of_decide_eq_true (by first | (with_reducible assumption) | assumption); obtain ⟨ad157, A157_2, c157_2, e157, hx157_0, hx157_1, hx157_2, hl157_2, hi157_2⟩ := at_T25 HR0.out 0 p157 q157; obtain rfl : ad152 = ad157 := (by injection e157); have qi157 : (0 < l0.length) = True := eq_true (by omega); (try rw [show ((0 : Int)).toNat = 0 from rfl] at hx157_0); (try rw [show 0 * 3 = 0 from rfl] at hx157_0); (try rw [Addr.add_zero'] at hx157_0); (try rw [show ((0 : Int)).toNat = 0 from rfl] at hx157_1); (try rw [show 0 * 3 = 0 from rfl] at hx157_1); (try rw [Addr.add_zero'] at hx157_1); (try rw [show ((0 : Int)).toNat = 0 from rfl] at hx157_2); (try rw [show 0 * 3 = 0 from rfl] at hx157_2); (try rw [Addr.add_zero'] at hx157_2); have HR157_2 := Aside0.mk hi157_2; have HC157_2 := Aside0.mk hl157_2; clear hi157_2 hl157_2; replace p157 := eq_true p157; replace q157 := eq_true q157; have ea_ := Option.some.inj (hx153_2.symm.trans hx157_2); injection ea_ with ea_ en_ ec_; subst ea_; subst ec_; clear en_) | (go_at_call 43; (with_reducible refine (spec_l1In.calls (((rd_T80 ((rd_T25 l0 0).f2) x3_2).f1).length : Int) 1 ((rd_T25 l0 0).f0) true _ A15.out).mono ?_); rintro e w' ⟨rfl, ⟨nd, rfl⟩⟩; (try first | exact ⟨rfl, _, World.drewN_drewN _ _ _⟩ | exact ⟨rfl, _, Eq.trans (World.drewN_drewN _ _ _) (congrArg (World.drewN _) (Nat.add_assoc _ _ _))⟩)) | (go_at_call 81; (with_reducible refine (spec_l3At.calls k2 _ (l0).length l0 ((rd_T80 ((rd_T25 l0 0).f2) x3_2).f0) t159 _ ?side1 ?side2 A17.out).mono ?_); (case side1 => repeat (first | exact HR0.out | (with_reducible refine Kd.C_alloc ?_ _) | (with_reducible refine Kd.C_drewN ?_ _) | (with_reducible refine Kd.C_drew ?_))); (case side2 => exact Nat.le_refl _); rintro e w' ⟨rfl, ⟨nd, rfl⟩⟩; (try first | exact ⟨rfl, _, World.drewN_drewN _ _ _⟩ | exact ⟨rfl, _, Eq.trans (World.drewN_drewN _ _ _) (congrArg (World.drewN _) (Nat.add_assoc _ _ _))⟩))))
                            go_ret
                            exact ⟨by first | rfl | (simp; done) | (simp [*]; done), by repeat (first | exact Drawn0.refl _ | apply Drawn0.step)⟩
                        · replace c16 := Bool.eq_false_iff.mpr c16
                          subst c16
                          have H1 : (some 1) = some r := by rw [if_neg (show ¬ (false = true) by decide)] at H; exact H
                          clear H
                          have H := H1
                          clear H1
                          obtain rfl := Option.some.inj H
                          have p153 : 0 ≤ (0 : Int) := (by omega)
                          have q153 : 0 < (l0.length : Int) := of_decide_eq_true (by first | (with_reducible assumption) | assumption)
                          obtain ⟨ad153, A153_2, c153_2, e153, hx153_0, hx153_1, hx153_2, hl153_2, hi153_2⟩ := at_T25 HR0.out 0 p153 q153
                          obtain rfl : ad152 = ad153 := (by injection e153)
                          have qi153 : (0 < l0.length) = True := eq_true (by omega)
                          (try rw [show ((0 : Int)).toNat = 0 from rfl] at hx153_0)
                          (try rw [show 0 * 3 = 0 from rfl] at hx153_0)
                          (try rw [Addr.add_zero'] at hx153_0)
                          (try rw [show ((0 : Int)).toNat = 0 from rfl] at hx153_1)
                          (try rw [show 0 * 3 = 0 from rfl] at hx153_1)
                          (try rw [Addr.add_zero'] at hx153_1)
                          (try rw [show ((0 : Int)).toNat = 0 from rfl] at hx153_2)
                          (try rw [show 0 * 3 = 0 from rfl] at hx153_2)
                          (try rw [Addr.add_zero'] at hx153_2)
                          have HR153_2 := Aside0.mk hi153_2
                          have HC153_2 := Aside0.mk hl153_2
                          clear hi153_2 hl153_2
                          replace p153 := eq_true p153
                          replace q153 := eq_true q153
                          have p154 : 0 ≤ (0 : Int) := (by omega)
                          have q154 : 0 < (l0.length : Int) := of_decide_eq_true (by first | (with_reducible assumption) | assumption)
                          obtain ⟨ad154, A154_2, c154_2, e154, hx154_0, hx154_1, hx154_2, hl154_2, hi154_2⟩ := at_T25 HR0.out 0 p154 q154
                          obtain rfl : ad152 = ad154 := (by injection e154)
                          have qi154 : (0 < l0.length) = True := eq_true (by omega)
                          (try rw [show ((0 : Int)).toNat = 0 from rfl] at hx154_0)
                          (try rw [show 0 * 3 = 0 from rfl] at hx154_0)
                          (try rw [Addr.add_zero'] at hx154_0)
                          (try rw [show ((0 : Int)).toNat = 0 from rfl] at hx154_1)
                          (try rw [show 0 * 3 = 0 from rfl] at hx154_1)
                          (try rw [Addr.add_zero'] at hx154_1)
                          (try rw [show ((0 : Int)).toNat = 0 from rfl] at hx154_2)
                          (try rw [show 0 * 3 = 0 from rfl] at hx154_2)
                          (try rw [Addr.add_zero'] at hx154_2)
                          have HR154_2 := Aside0.mk hi154_2
                          have HC154_2 := Aside0.mk hl154_2
                          clear hi154_2 hl154_2
                          replace p154 := eq_true p154
                          replace q154 := eq_true q154
                          have ea_ := Option.some.inj (hx153_2.symm.trans hx154_2)
                          injection ea_ with ea_ en_ ec_
                          subst ea_
                          subst ec_
                          clear en_
                          have p155 : 0 ≤ (x3_2 : Int) := of_decide_eq_true (by first | (with_reducible assumption) | assumption)
                          have q155 : x3_2 < (((rd_T25 l0 0).f2).length : Int) := of_decide_eq_true (by first | (with_reducible assumption) | assumption)
                          obtain ⟨ad155, A155_1, c155_1, e155, hx155_0, hx155_1, hl155_1, hi155_1⟩ := at_T80 HR154_2.out x3_2 p155 q155
                          cases e155
                          have HR155_1 := Aside0.mk hi155_1
                          have HC155_1 := Aside0.mk hl155_1
                          clear hi155_1 hl155_1
                          replace p155 := eq_true p155
                          replace q155 := eq_true q155
                          go_wp2_with (first | (go_at_call 43; (with_reducible refine (spec_l1In.calls ((rd_T80 ((rd_T25 l0 0).f2) x3_2).f0) 0 400 true _ A13.out).mono ?_); rintro e w' ⟨rfl, ⟨nd, rfl⟩⟩; (try first | exact ⟨rfl, _, World.drewN_drewN _ _ _⟩ | exact ⟨rfl, _, Eq.trans (World.drewN_drewN _ _ _) (congrArg (World.drewN _) (Nat.add_assoc _ _ _))⟩); have p157 : 0 ≤ (0 : Int) := (by omega); have q157 : 0 < (l0.length : Int) := of_decide_eq_true (by first | (with_reducible assumption) | assumption); obtain ⟨ad157, A157_2, c157_2, e157, hx157_0, hx157_1, hx157_2, hl157_2, hi157_2⟩ := at_T25 HR0.out 0 p157 q157; obtain rfl : ad152 = ad157 := (by injection e157); have qi157 : (0 < l0.length) = True := eq_true (by omega); (try rw [show ((0 : Int)).toNat = 0 from rfl] at hx157_0); (try rw [show 0 * 3 = 0 from rfl] at hx157_0); (try rw [Addr.add_zero'] at hx157_0); (try rw [show ((0 : Int)).toNat = 0 from rfl] at hx157_1); (try rw [show 0 * 3 = 0 from rfl] at hx157_1); (try rw [Addr.add_zero'] at hx157_1); (try rw [show ((0 : Int)).toNat = 0 from rfl] at hx157_2); (try rw [show 0 * 3 = 0 from rfl] at hx157_2); (try rw [Addr.add_zero'] at hx157_2); have HR157_2 := Aside0.mk hi157_2; have HC157_2 := Aside0.mk hl157_2; clear hi157_2 hl157_2; replace p157 := eq_true p157; replace q157 := eq_true q157; have ea_ := Option.some.inj (hx153_2.symm.trans hx157_2); injection ea_ with ea_ en_ ec_; subst ea_; subst ec_; clear en_) | (go_at_call 43; (with_reducible refine (spec_l1In.calls (((rd_T80 ((rd_T25 l0 0).f2) x3_2).f1).length : Int) 1 ((rd_T25 l0 0).f0) false _ A15.out).mono ?_); rintro e w' ⟨rfl, ⟨nd, rfl⟩⟩; (try first | exact ⟨rfl, _, World.drewN_drewN _ _ _⟩ | exact ⟨rfl, _, Eq.trans (World.drewN_drewN _ _ _) (congrArg (World.drewN _) (Nat.add_assoc _ _ _))⟩)))
                          repeat (go_quiet (first | (go_at_call 43; (with_reducible refine (spec_l1In.calls ((rd_T80 ((rd_T25 l0 0).f2) x3_2).f0) 0 400 true _ A13.out).mono ?_); rintro e w' ⟨rfl, ⟨nd, rfl⟩⟩; (try first | exact ⟨rfl, _, World.drewN_drewN _ _ _⟩ | exact ⟨rfl, _, Eq.trans (World.drewN_drewN _ _ _) (congrArg (World.drewN _) (Nat.add_assoc _ _ _))⟩); have p157 : 0 ≤ (0 : Int) := (by omega); have q157 : 0 < (l0.length : Int) := of_decide_eq_true (by first | (with_reducible assumption) | assumption); obtain ⟨ad157, A157_2, c157_2, e157, hx157_0, hx157_1, hx157_2, hl157_2, hi157_2⟩ := at_T25 HR0.out 0 p157 q157; obtain rfl : ad152 = ad157 := (by injection e157); have qi157 : (0 < l0.length) = True := eq_true (by omega); (try rw [show ((0 : Int)).toNat = 0 from rfl] at hx157_0); (try rw [show 0 * 3 = 0 from rfl] at hx157_0); (try rw [Addr.add_zero'] at hx157_0); (try rw [show ((0 : Int)).toNat = 0 from rfl] at hx157_1); (try rw [show 0 * 3 = 0 from rfl] at hx157_1); (try rw [Addr.add_zero'] at hx157_1); (try rw [show ((0 : Int)).toNat = 0 from rfl] at hx157_2); (try rw [show 0 * 3 = 0 from rfl] at hx157_2); (try rw [Addr.add_zero'] at hx157_2); have HR157_2 := Aside0.mk hi157_2; have HC157_2 := Aside0.mk hl157_2; clear hi157_2 hl157_2; replace p157 := eq_true p157; replace q157 := eq_true q157; have ea_ := Option.some.inj (hx153_2.symm.trans hx157_2); injection ea_ with ea_ en_ ec_; subst ea_; subst ec_; clear en_) | (go_at_call 43; (with_reducible refine (spec_l1In.calls (((rd_T80 ((rd_T25 l0 0).f2) x3_2).f1).length : Int) 1 ((rd_T25 l0 0).f0) false _ A15.out).mono ?_); rintro e w' ⟨rfl, ⟨nd, rfl⟩⟩; (try first | exact ⟨rfl, _, World.drewN_drewN _ _ _⟩ | exact ⟨rfl, _, Eq.trans (World.drewN_drewN _ _ _) (congrArg (World.drewN _) (Nat.add_assoc _ _ _))⟩))); try go_wp2_with (first | (go_at_call 43; (with_reducible refine (spec_l1In.calls ((rd_T80 ((rd_T25 l0 0).f2) x3_2).f0) 0 400 true _ A13.out).mono ?_); rintro e w' ⟨rfl, ⟨nd, rfl⟩⟩; (try first | exact ⟨rfl, _, World.drewN_drewN _ _ _⟩ | exact ⟨rfl, _, Eq.trans (World.drewN_drewN _ _ _) (congrArg (World.drewN _) (Nat.add_assoc _ _ _))⟩); have p157 : 0 ≤ (0 : Int) := (by omega); have q157 : 0 < (l0.length : Int) := of_decide_eq_true (by first | (with_reducible assumption) | assumption); obtain ⟨ad157, A157_2, c157_2, e157, hx157_0, hx157_1, hx157_2, hl157_2, hi157_2⟩ := at_T25 HR0.out 0 p157 q157; obtain rfl : ad152 = ad157 := (by injection e157); have qi157 : (0 < l0.length) = True := eq_true (by omega); (try rw [show ((0 : Int)).toNat = 0 from rfl] at hx157_0); (try rw [show 0 * 3 = 0 from rfl] at hx157_0); (try rw [Addr.add_zero'] at hx157_0); (try rw [show ((0 : Int)).toNat = 0 from rfl] at hx157_1); (try rw [show 0 * 3 = 0 from rfl] at hx157_1); (try rw [Addr.add_zero'] at hx157_1); (try rw [show ((0 : Int)).toNat = 0 from rfl] at hx157_2); (try rw [show 0 * 3 = 0 from rfl] at hx157_2); (try rw [Addr.add_zero'] at hx157_2); have HR157_2 := Aside0.mk hi157_2; have HC157_2 := Aside0.mk hl157_2; clear hi157_2 hl157_2; replace p157 := eq_true p157; replace q157 := eq_true q157; have ea_ := Option.some.inj (hx153_2.symm.trans hx157_2); injection ea_ with ea_ en_ ec_; subst ea_; subst ec_; clear en_) | (go_at_call 43; (with_reducible refine (spec_l1In.calls (((rd_T80 ((rd_T25 l0 0).f2) x3_2).f1).length : Int) 1 ((rd_T25 l0 0).f0) false _ A15.out).mono ?_); rintro e w' ⟨rfl, ⟨nd, rfl⟩⟩; (try first | exact ⟨rfl, _, World.drewN_drewN _ _ _⟩ | exact ⟨rfl, _, Eq.trans (World.drewN_drewN _ _ _) (congrArg (World.drewN _) (Nat.add_assoc _ _ _))⟩))))
                          go_ret
                          exact ⟨by first | rfl | (simp; done) | (simp [*]; done), by repeat (first | exact Drawn0.refl _ | apply Drawn0.step)⟩
                      · replace c14 := Bool.eq_false_iff.mpr c14
                        subst c14
                        have H1 : (some 3) = some r := by rw [if_neg (show ¬ (false = true) by decide)] at H; exact H
                        clear H
                        have H := H1
                        clear H1
                        obtain rfl := Option.some.inj H
                        have p153 : 0 ≤ (0 : Int) := (by omega)
                        have q153 : 0 < (l0.length : Int) := of_decide_eq_true (by first | (with_reducible assumption) | assumption)
                        obtain ⟨ad153, A153_2, c153_2, e153, hx153_0, hx153_1, hx153_2, hl153_2, hi153_2⟩ := at_T25 HR0.out 0 p153 q153
                        obtain rfl : ad152 = ad153 := (by injection e153)
                        have qi153 : (0 < l0.length) = True := eq_true (by omega)
                        (try rw [show ((0 : Int)).toNat = 0 from rfl] at hx153_0)
                        (try rw [show 0 * 3 = 0 from rfl] at hx153_0)
                        (try rw [Addr.add_zero'] at hx153_0)
                        (try rw [show ((0 : Int)).toNat = 0 from rfl] at hx153_1)
                        (try rw [show 0 * 3 = 0 from rfl] at hx153_1)
                        (try rw [Addr.add_zero'] at hx153_1)
                        (try rw [show ((0 : Int)).toNat = 0 from rfl] at hx153_2)
                        (try rw [show 0 * 3 = 0 from rfl] at hx153_2)
                        (try rw [Addr.add_zero'] at hx153_2)
                        have HR153_2 := Aside0.mk hi153_2
                        have HC153_2 := Aside0.mk hl153_2
                        clear hi153_2 hl153_2
                        replace p153 := eq_true p153
                        replace q153 := eq_true q153
                        have p154 : 0 ≤ (0 : Int) := (by omega)
                        have q154 : 0 < (l0.length : Int) := of_decide_eq_true (by first | (with_reducible assumption) | assumption)
                        obtain ⟨ad154, A154_2, c154_2, e154, hx154_0, hx154_1, hx154_2, hl154_2, hi154_2⟩ := at_T25 HR0.out 0 p154 q154
                        obtain rfl : ad152 = ad154 := (by injection e154)
                        have qi154 : (0 < l0.length) = True := eq_true (by omega)
                        (try rw [show ((0 : Int)).toNat = 0 from rfl] at hx154_0)
                        (try rw [show 0 * 3 = 0 from rfl] at hx154_0)
                        (try rw [Addr.add_zero'] at hx154_0)
                        (try rw [show ((0 : Int)).toNat = 0 from rfl] at hx154_1)
                        (try rw [show 0 * 3 = 0 from rfl] at hx154_1)
                        (try rw [Addr.add_zero'] at hx154_1)
                        (try rw [show ((0 : Int)).toNat = 0 from rfl] at hx154_2)
                        (try rw [show 0 * 3 = 0 from rfl] at hx154_2)
                        (try rw [Addr.add_zero'] at hx154_2)
                        have HR154_2 := Aside0.mk hi154_2
                        have HC154_2 := Aside0.mk hl154_2
                        clear hi154_2 hl154_2
                        replace p154 := eq_true p154
                        replace q154 := eq_true q154
                        have ea_ := Option.some.inj (hx153_2.symm.trans hx154_2)
                        injection ea_ with ea_ en_ ec_
                        subst ea_
                        subst ec_
                        clear en_
                        have p155 : 0 ≤ (x3_2 : Int) := of_decide_eq_true (by first | (with_reducible assumption) | assumption)
                        have q155 : x3_2 < (((rd_T25 l0 0).f2).length : Int) := of_decide_eq_true (by first | (with_reducible assumption) | assumption)
                        obtain ⟨ad155, A155_1, c155_1, e155, hx155_0, hx155_1, hl155_1, hi155_1⟩ := at_T80 HR154_2.out x3_2 p155 q155
                        cases e155
                        have HR155_1 := Aside0.mk hi155_1
                        have HC155_1 := Aside0.mk hl155_1
                        clear hi155_1 hl155_1
                        replace p155 := eq_true p155
                        replace q155 := eq_true q155
                        go_wp2_with (first | (go_at_call 43; (with_reducible refine (spec_l1In.calls ((rd_T80 ((rd_T25 l0 0).f2) x3_2).f0) 0 400 false _ A13.out).mono ?_); rintro e w' ⟨rfl, ⟨nd, rfl⟩⟩; (try first | exact ⟨rfl, _, World.drewN_drewN _ _ _⟩ | exact ⟨rfl, _, Eq.trans (World.drewN_drewN _ _ _) (congrArg (World.drewN _) (Nat.add_assoc _ _ _))⟩)))
                        repeat (go_quiet (first | (go_at_call 43; (with_reducible refine (spec_l1In.calls ((rd_T80 ((rd_T25 l0 0).f2) x3_2).f0) 0 400 false _ A13.out).mono ?_); rintro e w' ⟨rfl, ⟨nd, rfl⟩⟩; (try first | exact ⟨rfl, _, World.drewN_drewN _ _ _⟩ | exact ⟨rfl, _, Eq.trans (World.drewN_drewN _ _ _) (congrArg (World.drewN _) (Nat.add_assoc _ _ _))⟩))); try go_wp2_with (first | (go_at_call 43; (with_reducible refine (spec_l1In.calls ((rd_T80 ((rd_T25 l0 0).f2) x3_2).f0) 0 400 false _ A13.out).mono ?_); rintro e w' ⟨rfl, ⟨nd, rfl⟩⟩; (try first | exact ⟨rfl, _, World.drewN_drewN _ _ _⟩ | exact ⟨rfl, _, Eq.trans (World.drewN_drewN _ _ _) (congrArg (World.drewN _) (Nat.add_assoc _ _ _))⟩))))
                        go_ret
                        exact ⟨by first | rfl | (simp; done) | (simp [*]; done), by repeat (first | exact Drawn0.refl _ | apply Drawn0.step)⟩
                    · rw [if_neg c12] at H
                      exact absurd H (by simp)
                  · rw [if_neg c11] at H
                    have c11b0 : decide (x3_2 < (((rd_T25 l0 0).f2).length : Int)) = false := decide_eq_false c11
                    clear c11
                    obtain rfl := Option.some.inj H
                    have p153 : 0 ≤ (0 : Int) := (by omega)
                    have q153 : 0 < (l0.length : Int) := of_decide_eq_true (by first | (with_reducible assumption) | assumption)
                    obtain ⟨ad153, A153_2, c153_2, e153, hx153_0, hx153_1, hx153_2, hl153_2, hi153_2⟩ := at_T25 HR0.out 0 p153 q153
                    obtain rfl : ad152 = ad153 := (by injection e153)
                    have qi153 : (0 < l0.length) = True := eq_true (by omega)
                    (try rw [show ((0 : Int)).toNat = 0 from rfl] at hx153_0)
                    (try rw [show 0 * 3 = 0 from rfl] at hx153_0)
                    (try rw [Addr.add_zero'] at hx153_0)
                    (try rw [show ((0 : Int)).toNat = 0 from rfl] at hx153_1)
                    (try rw [show 0 * 3 = 0 from rfl] at hx153_1)
                    (try rw [Addr.add_zero'] at hx153_1)
                    (try rw [show ((0 : Int)).toNat = 0 from rfl] at hx153_2)
                    (try rw [show 0 * 3 = 0 from rfl] at hx153_2)
                    (try rw [Addr.add_zero'] at hx153_2)
                    have HR153_2 := Aside0.mk hi153_2
                    have HC153_2 := Aside0.mk hl153_2
                    clear hi153_2 hl153_2
                    replace p153 := eq_true p153
                    replace q153 := eq_true q153
                    go_wp2
                    repeat (go_quiet (fail); try go_wp2)
                    go_ret
                    exact ⟨by first | rfl | (simp; done) | (simp [*]; done), by repeat (first | exact Drawn0.refl _ | apply Drawn0.step)⟩
                · rw [if_neg c10] at H
                  exact absurd H (by simp)
        · rw [if_neg c8] at H
          exact absurd H (by simp)

/-! ### spec_l2Fault: function 86 -/
def spec_l2Fault.f (l0 : List (S44)) : Option (Int) := if 0 < (l0.length : Int) then (if (((rd_T44 l0 0).f0).length : Int) > 400 then (some 2) else (some 0)) else (none)
set_option maxHeartbeats 8000000 in
set_option maxRecDepth 100000 in
theorem spec_l2Fault.calls (A0 : Option Addr) (c0 : Nat) (l0 : List (S44)) (r : Int) (w : World) (hr0 : Kd.C k44 w A0 l0.length l0) (hc0 : l0.length ≤ c0) (h : spec_l2Fault.f l0 = some r) :
    Calls Try.prog 86 #[.pointer A0] w fun e w' => e = .returned (.int .i64 r) ∧ Drawn0 w w' := by
  have HR0 := Aside0.mk hr0
  have HC0 := Aside0.mk hc0
  clear hr0 hc0
  have H : (if 0 < (l0.length : Int) then (if (((rd_T44 l0 0).f0).length : Int) > 400 then (some 2) else (some 0)) else (none)) = some r := h
  clear h
  by_cases c2 : 0 < (l0.length : Int)
  · rw [if_pos c2] at H
    have c2b0 : decide (0 < (l0.length : Int)) = true := decide_eq_true c2
    have c2b1 : decide (0 < l0.length) = true := decide_eq_true (by omega)
    clear c2
    by_cases c3 : (((rd_T44 l0 0).f0).length : Int) > 400
    · rw [if_pos c3] at H
      have c3b0 : decide (400 < (((rd_T44 l0 0).f0).length : Int)) = true := decide_eq_true c3
      have c3b1 : decide (400 < ((rd_T44 l0 0).f0).length) = true := decide_eq_true (by omega)
      clear c3
      obtain rfl := Option.some.inj H
      have p160 : 0 ≤ (0 : Int) := (by omega)
      have q160 : 0 < (l0.length : Int) := of_decide_eq_true (by first | (with_reducible assumption) | assumption)
      obtain ⟨ad160, A160_0, c160_0, e160, hx160_0, hl160_0, hi160_0⟩ := at_T44 HR0.out 0 p160 q160
      cases e160
      have qi160 : (0 < l0.length) = True := eq_true (by omega)
      (try rw [show ((0 : Int)).toNat = 0 from rfl] at hx160_0)
      (try rw [Addr.add_zero'] at hx160_0)
      have HR160_0 := Aside0.mk hi160_0
      have HC160_0 := Aside0.mk hl160_0
      clear hi160_0 hl160_0
      replace p160 := eq_true p160
      replace q160 := eq_true q160
      go_enter Try.func86, Try.ntmps86
      go_wp2
      go_ret
      exact ⟨by first | rfl | (simp; done) | (simp [*]; done), by repeat (first | exact Drawn0.refl _ | apply Drawn0.step)⟩
    · rw [if_neg c3] at H
      have c3b0 : decide (400 < (((rd_T44 l0 0).f0).length : Int)) = false := decide_eq_false c3
      have c3b1 : decide (400 < ((rd_T44 l0 0).f0).length) = false := decide_eq_false (by omega)
      clear c3
      obtain rfl := Option.some.inj H
      have p160 : 0 ≤ (0 : Int) := (by omega)
      have q160 : 0 < (l0.length : Int) := of_decide_eq_true (by first | (with_reducible assumption) | assumption)
      obtain ⟨ad160, A160_0, c160_0, e160, hx160_0, hl160_0, hi160_0⟩ := at_T44 HR0.out 0 p160 q160
      cases e160
      have qi160 : (0 < l0.length) = True := eq_true (by omega)
      (try rw [show ((0 : Int)).toNat = 0 from rfl] at hx160_0)
      (try rw [Addr.add_zero'] at hx160_0)
      have HR160_0 := Aside0.mk hi160_0
      have HC160_0 := Aside0.mk hl160_0
      clear hi160_0 hl160_0
      replace p160 := eq_true p160
      replace q160 := eq_true q160
      go_enter Try.func86, Try.ntmps86
      go_wp2
      go_ret
      exact ⟨by first | rfl | (simp; done) | (simp [*]; done), by repeat (first | exact Drawn0.refl _ | apply Drawn0.step)⟩
  · rw [if_neg c2] at H
    exact absurd H (by simp)

/-! ### spec_l3Asked: function 56 -/
def spec_l3Asked.f (k : Nat) (l0 : List (S25)) (l1 : List (S44)) : Option (Int) := (spec_l3Fault.f k l0).bind fun t161 => (if t161 = 0 then ((spec_l2Fault.f l1).bind fun t162 => (some t162)) else (some t161))
theorem spec_l3Asked.mono : ∀ a0 a1 k, LeO (spec_l3Asked.f k a0 a1) (spec_l3Asked.f (k + 1) a0 a1) := by
  intro a0 a1 k
  unfold spec_l3Asked.f
  repeat' first
      | (with_reducible exact spec_l3Fault.mono _ _)
      | (with_reducible exact LeO.refl _)
      | (with_reducible exact LeO.none _)
      | (with_reducible refine LeO.ite ?_ ?_)
      | (with_reducible refine LeO.bind ?_ (fun _ => ?_))
      | exact spec_l3Fault.mono _ _
      | exact LeO.none _
      | refine LeO.ite ?_ ?_
      | refine LeO.bind ?_ (fun _ => ?_)
set_option maxHeartbeats 8000000 in
set_option maxRecDepth 100000 in
theorem spec_l3Asked.calls (k : Nat) (A0 : Option Addr) (c0 : Nat) (l0 : List (S25)) (A1 : Option Addr) (c1 : Nat) (l1 : List (S44)) (r : Int) (w : World) (hr0 : Kd.C k25 w A0 l0.length l0) (hc0 : l0.length ≤ c0) (hr1 : Kd.C k44 w A1 l1.length l1) (hc1 : l1.length ≤ c1) (h : spec_l3Asked.f k l0 l1 = some r) :
    Calls Try.prog 56 #[.pointer A0, .pointer A1] w fun e w' => e = .returned (.int .i64 r) ∧ Drawn0 w w' := by
  have HR0 := Aside0.mk hr0
  have HC0 := Aside0.mk hc0
  clear hr0 hc0
  have HR1 := Aside0.mk hr1
  have HC1 := Aside0.mk hc1
  clear hr1 hc1
  have H : ((spec_l3Fault.f k l0).bind fun t161 => (if t161 = 0 then ((spec_l2Fault.f l1).bind fun t162 => (some t162)) else (some t161))) = some r := h
  clear h
  replace H := Option.bind_eq_some_iff.mp H
  obtain ⟨t161, A30, H⟩ := H
  replace H : (if t161 = 0 then ((spec_l2Fault.f l1).bind fun t162 => (some t162)) else (some t161)) = some r := H
  have A3 := Aside0.mk A30
  clear A30
  by_cases c4 : t161 = 0
  · rw [if_pos c4] at H
    have c4b0 : (t161 == 0) = true := beq_iff_eq.mpr c4
    have c4b1 : (t161 != 0) = false := bne_eq_false_iff_eq.mpr c4
    clear c4
    replace H := Option.bind_eq_some_iff.mp H
    obtain ⟨t162, A50, H⟩ := H
    replace H : (some t162) = some r := H
    have A5 := Aside0.mk A50
    clear A50
    obtain rfl := Option.some.inj H
    go_enter Try.func56, Try.ntmps56
    go_wp2_with (first | ((with_reducible refine gate_callee (f := 50) rfl ?_); refine goesL_ (some 7) rfl rfl Try.func50 (by kernel_rfl) rfl #[.pointer A0] rfl (by (try simp only [List.map_toArray, List.map_cons, List.map_nil]); first | done | rfl | (simp only [List.length_drop, List.length_take]; rfl)) ?_; (with_reducible refine (spec_l3Fault.calls k _ (l0).length l0 t161 _ ?side1 ?side2 A3.out).mono ?_); (case side1 => repeat (first | exact HR0.out | (with_reducible refine Kd.C_alloc ?_ _) | (with_reducible refine Kd.C_drewN ?_ _) | (with_reducible refine Kd.C_drew ?_))); (case side2 => exact Nat.le_refl _); rintro e w' ⟨rfl, ⟨nd, rfl⟩⟩; refine ⟨_, rfl, ?_⟩) | ((with_reducible refine gate_callee (f := 86) rfl ?_); refine goesL_ (some 12) rfl rfl Try.func86 (by kernel_rfl) rfl #[.pointer A1] rfl (by (try simp only [List.map_toArray, List.map_cons, List.map_nil]); first | done | rfl | (simp only [List.length_drop, List.length_take]; rfl)) ?_; (with_reducible refine (spec_l2Fault.calls _ (l1).length l1 t162 _ ?side1 ?side2 A5.out).mono ?_); (case side1 => repeat (first | exact HR1.out | (with_reducible refine Kd.C_alloc ?_ _) | (with_reducible refine Kd.C_drewN ?_ _) | (with_reducible refine Kd.C_drew ?_))); (case side2 => exact Nat.le_refl _); rintro e w' ⟨rfl, ⟨nd, rfl⟩⟩; refine ⟨_, rfl, ?_⟩))
    go_ret
    exact ⟨by first | rfl | (simp; done) | (simp [*]; done), by repeat (first | exact Drawn0.refl _ | apply Drawn0.step)⟩
  · rw [if_neg c4] at H
    have c4b0 : (t161 == 0) = false := beq_eq_false_iff_ne.mpr c4
    have c4b1 : (t161 != 0) = true := bne_iff_ne.mpr c4
    obtain rfl := Option.some.inj H
    go_enter Try.func56, Try.ntmps56
    go_wp2_with (first | ((with_reducible refine gate_callee (f := 50) rfl ?_); refine goesL_ (some 7) rfl rfl Try.func50 (by kernel_rfl) rfl #[.pointer A0] rfl (by (try simp only [List.map_toArray, List.map_cons, List.map_nil]); first | done | rfl | (simp only [List.length_drop, List.length_take]; rfl)) ?_; (with_reducible refine (spec_l3Fault.calls k _ (l0).length l0 t161 _ ?side1 ?side2 A3.out).mono ?_); (case side1 => repeat (first | exact HR0.out | (with_reducible refine Kd.C_alloc ?_ _) | (with_reducible refine Kd.C_drewN ?_ _) | (with_reducible refine Kd.C_drew ?_))); (case side2 => exact Nat.le_refl _); rintro e w' ⟨rfl, ⟨nd, rfl⟩⟩; refine ⟨_, rfl, ?_⟩))
    go_ret
    exact ⟨by first | rfl | (simp; done) | (simp [*]; done), by repeat (first | exact Drawn0.refl _ | apply Drawn0.step)⟩

/-! ### spec_l1Copy: function 89 -/
def spec_l1Copy.f (l0 : List Int) : Option (List Int) := (some (([] : List Int) : List Int)).bind fun y163 => (if y163.length + l0.length < 140737488355328 then (some (y163 ++ l0)) else (none))
set_option maxHeartbeats 8000000 in
set_option maxRecDepth 100000 in
theorem spec_l1Copy.calls (A0 : Option Addr) (c0 : Nat) (l0 : List Int) (r : List Int) (w : World) (hr0 : Kd.C (Kd.int .u8) w A0 l0.length l0) (hc0 : l0.length ≤ c0) (h : spec_l1Copy.f l0 = some r) :
    Calls Try.prog 89 #[.slice A0 l0.length c0] w fun e w' => ∃ v0_ : Value, e = .returned (v0_) ∧ Kd.R (Kd.int .u8) 5 w' w.heap.size (fun _ => True) v0_ r ∧ Below w.heap.size w w' := by
  have HR0 := Aside0.mk hr0
  have HC0 := Aside0.mk hc0
  clear hr0 hc0
  have HB := Aside0.mk (Below.refl w.heap.size w)
  have H : ((some (([] : List Int) : List Int)).bind fun y163 => (if y163.length + l0.length < 140737488355328 then (some (y163 ++ l0)) else (none))) = some r := h
  clear h
  obtain ⟨y163, hy163⟩ : ∃ y_ : List Int, y_ = (([] : List Int)) := ⟨_, rfl⟩
  replace H : (if y163.length + l0.length < 140737488355328 then (some (y163 ++ l0)) else (none)) = some r := by first | (rw [hy163]; with_reducible exact H) | (have H2_ := (Option.bind_some _ _).symm.trans H; rw [hy163]; with_reducible exact H2_) | (have H2_ := (Option.bind_some _ _).symm.trans H; with_reducible exact H2_) | with_reducible exact H | (rw [hy163]; exact H) | exact H
  have Ny163 := Aside0.mk hy163
  clear hy163
  by_cases c2 : y163.length + l0.length < 140737488355328
  · rw [if_pos c2] at H
    have LMc2 := Aside0.mk c2
    clear c2
    obtain ⟨y166, hy166⟩ : ∃ y_ : List Int, y_ = (y163 ++ l0) := ⟨_, rfl⟩
    replace H : (some y166) = some r := by first | (rw [hy166]; with_reducible exact H) | (have H2_ := (Option.bind_some _ _).symm.trans H; rw [hy166]; with_reducible exact H2_) | (have H2_ := (Option.bind_some _ _).symm.trans H; with_reducible exact H2_) | with_reducible exact H | (rw [hy166]; exact H) | exact H
    have Ny166 := Aside0.mk hy166
    clear hy166
    obtain rfl := Option.some.inj H
    go_enter Try.func89, Try.ntmps89
    go_wp2_with (first | ((with_reducible refine gate_dst (N := 3) rfl ?_); refine Kd.R_lit (Kd.int .u8) _ 5 ?hg (N := 3) ?hd (xs := ([] : List Int)) (inner := []) (ok := fun _ => True) (okp := fun _ => True) ?hr ?hp (fun _ hk => hk) trivial (Below.refl _ _) (Nat.le_refl _) (by simp) ?_; (case hd => rfl); (case hg => rfl); (case hr => first | (go_simp; done) | (go_simp; rfl)); (case hp => exact (Reps.none _ _)); intro v164 w3 ho4 hb hg_ hnew_; clear hg_ hnew_; (first | rw [← Ny163.out] at ho4 | (simp only [Int.reduceToNat] at ho4; rw [← Ny163.out] at ho4)); have n0_ := Aside0.mk (Kd.R_lower ho4 (below_size (by repeat (first | (with_reducible first | exact HB.out | apply below_alloc | apply pw_below_drewN | apply below_drew1) | exact HB.out)))); have n1_ := Aside0.mk (below_step (by repeat (first | (with_reducible first | exact HB.out | apply below_alloc | apply pw_below_drewN | apply below_drew1) | exact HB.out)) hb); clear HB; have HO165 := n0_; have HB := n1_; clear n0_ n1_; clear hb ho4) | ((with_reducible refine gate_builtin (b := .append) (xs := #[.tmp 3, .tmp 4]) rfl ?_); at_builtin; refine Kd.R_append_rows (Kd.int .u8) (w0 := w) w.heap.size rfl (.tmp 3) (.tmp 4) 22 5 (.int .u8 0) 1 rfl Try.underlying22 info5 rfl (by decide) (by omega) v164 y163 l0 _ _ _ (fun _ => True) (fun _ => False) rfl rfl ?aO ?aR (fun _ _ h => h) (fun _ h => h.elim) ?aF ?aB ?aS ?aL ?_; (case aR => repeat (first | exact (Kd.C_below HR0.out HB.out) | (with_reducible refine Kd.C_alloc ?_ _) | (with_reducible refine Kd.C_drewN ?_ _) | (with_reducible refine Kd.C_drew ?_))); (case aB => exact (by repeat (first | (with_reducible first | exact HB.out | apply below_alloc | apply pw_below_drewN | apply below_drew1) | exact HB.out))); (case aF => exact (fun _ _ => trivial)); (case aO => exact (by (with_reducible repeat (first | apply Kd.R_alloc | apply Kd.R_drewN | apply Kd.R_drew)); exact HO165.out)); (case aS => exact (below_size (by repeat (first | (with_reducible first | exact HB.out | apply below_alloc | apply pw_below_drewN | apply below_drew1) | exact HB.out)))); (case aL => have := LMc2.out; omega); intro v167 w5 ho hb hg hat; rw [← Ny166.out] at ho; have n0_ := Aside0.mk (hb); have n1_ := Aside0.mk (ho); clear HB; clear HO165; have HB := n0_; have HO168 := n1_; clear n0_ n1_; clear ho hb hg hat))
    go_ret
    exact ⟨_, by first | rfl | (simp [errW_none, errW_some] <;> rfl) | (simp [*, errW_none, errW_some] <;> rfl), by (with_reducible repeat (first | apply Kd.R_alloc | apply Kd.R_drewN | apply Kd.R_drew)); exact HO168.out, by repeat (first | (with_reducible first | exact HB.out | apply below_alloc | apply pw_below_drewN | apply below_drew1) | exact HB.out)⟩
  · rw [if_neg c2] at H
    exact absurd H (by simp)

/-! ### spec_l1Min: function 94 -/
def spec_l1Min.f (a0 : Int) (a1 : Int) : Option (Int) := if a0 < a1 then (some a0) else (some a1)
set_option maxHeartbeats 8000000 in
set_option maxRecDepth 100000 in
theorem spec_l1Min.calls (a0 : Int) (a1 : Int) (r : Int) (w : World) (h : spec_l1Min.f a0 a1 = some r) :
    Calls Try.prog 94 #[.int .i64 a0, .int .i64 a1] w fun e w' => e = .returned (.int .i64 r) ∧ Drawn0 w w' := by
  have H : (if a0 < a1 then (some a0) else (some a1)) = some r := h
  clear h
  by_cases c3 : a0 < a1
  · rw [if_pos c3] at H
    have c3b0 : decide (a0 < a1) = true := decide_eq_true c3
    clear c3
    obtain rfl := Option.some.inj H
    go_enter Try.func94, Try.ntmps94
    go_wp2
    go_ret
    exact ⟨by first | rfl | (simp; done) | (simp [*]; done), by repeat (first | exact Drawn0.refl _ | apply Drawn0.step)⟩
  · rw [if_neg c3] at H
    have c3b0 : decide (a0 < a1) = false := decide_eq_false c3
    clear c3
    obtain rfl := Option.some.inj H
    go_enter Try.func94, Try.ntmps94
    go_wp2
    go_ret
    exact ⟨by first | rfl | (simp; done) | (simp [*]; done), by repeat (first | exact Drawn0.refl _ | apply Drawn0.step)⟩

/-! ### spec_l2Part: function 87 -/
def spec_l2Part.f (l0 : List (S44)) (a1 : Int) (a2 : Int) (a3 : Int) : Option (List Int) := if 0 < (l0.length : Int) then (if a1 ≥ (((rd_T44 l0 0).f0).length : Int) then (some (([] : List Int))) else ((spec_l1Min.f a2 a3).bind fun t173 => ((spec_l1Min.f t173 (wrap64 ((((rd_T44 l0 0).f0).length : Int) - a1))).bind fun t174 => (if 0 ≤ a1 then (if a1 ≤ (wrap64 (a1 + t174)) then (if (wrap64 (a1 + t174)) ≤ (((rd_T44 l0 0).f0).length : Int) then ((spec_l1Copy.f ((((rd_T44 l0 0).f0).take ((wrap64 (a1 + t174)) : Int).toNat).drop (a1 : Int).toNat)).bind fun t177 => (some t177)) else (none)) else (none)) else (none))))) else (none)
set_option maxHeartbeats 8000000 in
set_option maxRecDepth 100000 in
theorem spec_l2Part.calls (A0 : Option Addr) (c0 : Nat) (l0 : List (S44)) (a1 : Int) (a2 : Int) (a3 : Int) (r : List Int) (w : World) (hr0 : Kd.C k44 w A0 l0.length l0) (hc0 : l0.length ≤ c0) (h : spec_l2Part.f l0 a1 a2 a3 = some r) :
    Calls Try.prog 87 #[.pointer A0, .int .i64 a1, .int .i64 a2, .int .i64 a3] w fun e w' => ∃ v0_ : Value, e = .returned (v0_) ∧ Kd.R (Kd.int .u8) 5 w' w.heap.size (fun _ => True) v0_ r ∧ Below w.heap.size w w' := by
  have HR0 := Aside0.mk hr0
  have HC0 := Aside0.mk hc0
  clear hr0 hc0
  have HB := Aside0.mk (Below.refl w.heap.size w)
  have H : (if 0 < (l0.length : Int) then (if a1 ≥ (((rd_T44 l0 0).f0).length : Int) then (some (([] : List Int))) else ((spec_l1Min.f a2 a3).bind fun t173 => ((spec_l1Min.f t173 (wrap64 ((((rd_T44 l0 0).f0).length : Int) - a1))).bind fun t174 => (if 0 ≤ a1 then (if a1 ≤ (wrap64 (a1 + t174)) then (if (wrap64 (a1 + t174)) ≤ (((rd_T44 l0 0).f0).length : Int) then ((spec_l1Copy.f ((((rd_T44 l0 0).f0).take ((wrap64 (a1 + t174)) : Int).toNat).drop (a1 : Int).toNat)).bind fun t177 => (some t177)) else (none)) else (none)) else (none))))) else (none)) = some r := h
  clear h
  by_cases c5 : 0 < (l0.length : Int)
  · rw [if_pos c5] at H
    have c5b0 : decide (0 < (l0.length : Int)) = true := decide_eq_true c5
    have c5b1 : decide (0 < l0.length) = true := decide_eq_true (by omega)
    clear c5
    by_cases c6 : a1 ≥ (((rd_T44 l0 0).f0).length : Int)
    · rw [if_pos c6] at H
      have c6b0 : decide ((((rd_T44 l0 0).f0).length : Int) ≤ a1) = true := decide_eq_true c6
      clear c6
      obtain ⟨y170, hy170⟩ : ∃ y_ : List Int, y_ = (([] : List Int)) := ⟨_, rfl⟩
      replace H : (some y170) = some r := by first | (rw [hy170]; with_reducible exact H) | (have H2_ := (Option.bind_some _ _).symm.trans H; rw [hy170]; with_reducible exact H2_) | (have H2_ := (Option.bind_some _ _).symm.trans H; with_reducible exact H2_) | with_reducible exact H | (rw [hy170]; exact H) | exact H
      have Ny170 := Aside0.mk hy170
      clear hy170
      obtain rfl := Option.some.inj H
      have p169 : 0 ≤ (0 : Int) := (by omega)
      have q169 : 0 < (l0.length : Int) := of_decide_eq_true (by first | (with_reducible assumption) | assumption)
      obtain ⟨ad169, A169_0, c169_0, e169, hx169_0, hl169_0, hi169_0⟩ := at_T44 HR0.out 0 p169 q169
      cases e169
      have qi169 : (0 < l0.length) = True := eq_true (by omega)
      (try rw [show ((0 : Int)).toNat = 0 from rfl] at hx169_0)
      (try rw [Addr.add_zero'] at hx169_0)
      have HR169_0 := Aside0.mk hi169_0
      have HC169_0 := Aside0.mk hl169_0
      clear hi169_0 hl169_0
      replace p169 := eq_true p169
      replace q169 := eq_true q169
      go_enter Try.func87, Try.ntmps87
      go_wp2_with (first | ((with_reducible refine gate_dst (N := 18) rfl ?_); refine Kd.R_lit (Kd.int .u8) _ 5 ?hg (N := 18) ?hd (xs := ([] : List Int)) (inner := []) (ok := fun _ => True) (okp := fun _ => True) ?hr ?hp (fun _ hk => hk) trivial (Below.refl _ _) (Nat.le_refl _) (by simp) ?_; (case hd => rfl); (case hg => rfl); (case hr => first | (go_simp; done) | (go_simp; rfl)); (case hp => exact (Reps.none _ _)); intro v171 w7 ho8 hb hg_ hnew_; clear hg_ hnew_; (first | rw [← Ny170.out] at ho8 | (simp only [Int.reduceToNat] at ho8; rw [← Ny170.out] at ho8)); have n0_ := Aside0.mk (Kd.R_lower ho8 (below_size (by repeat (first | (with_reducible first | exact HB.out | apply below_alloc | apply pw_below_drewN | apply below_drew1) | exact HB.out)))); have n1_ := Aside0.mk (below_step (by repeat (first | (with_reducible first | exact HB.out | apply below_alloc | apply pw_below_drewN | apply below_drew1) | exact HB.out)) hb); clear HB; have HO172 := n0_; have HB := n1_; clear n0_ n1_; clear hb ho8))
      go_ret
      exact ⟨_, by first | rfl | (simp [errW_none, errW_some] <;> rfl) | (simp [*, errW_none, errW_some] <;> rfl), by (with_reducible repeat (first | apply Kd.R_alloc | apply Kd.R_drewN | apply Kd.R_drew)); exact HO172.out, by repeat (first | (with_reducible first | exact HB.out | apply below_alloc | apply pw_below_drewN | apply below_drew1) | exact HB.out)⟩
    · rw [if_neg c6] at H
      have c6b0 : decide ((((rd_T44 l0 0).f0).length : Int) ≤ a1) = false := decide_eq_false c6
      clear c6
      replace H := Option.bind_eq_some_iff.mp H
      obtain ⟨t173, A90, H⟩ := H
      replace H : ((spec_l1Min.f t173 (wrap64 ((((rd_T44 l0 0).f0).length : Int) - a1))).bind fun t174 => (if 0 ≤ a1 then (if a1 ≤ (wrap64 (a1 + t174)) then (if (wrap64 (a1 + t174)) ≤ (((rd_T44 l0 0).f0).length : Int) then ((spec_l1Copy.f ((((rd_T44 l0 0).f0).take ((wrap64 (a1 + t174)) : Int).toNat).drop (a1 : Int).toNat)).bind fun t177 => (some t177)) else (none)) else (none)) else (none))) = some r := H
      have A9 := Aside0.mk A90
      clear A90
      replace H := Option.bind_eq_some_iff.mp H
      obtain ⟨t174, A100, H⟩ := H
      replace H : (if 0 ≤ a1 then (if a1 ≤ (wrap64 (a1 + t174)) then (if (wrap64 (a1 + t174)) ≤ (((rd_T44 l0 0).f0).length : Int) then ((spec_l1Copy.f ((((rd_T44 l0 0).f0).take ((wrap64 (a1 + t174)) : Int).toNat).drop (a1 : Int).toNat)).bind fun t177 => (some t177)) else (none)) else (none)) else (none)) = some r := H
      have A10 := Aside0.mk A100
      clear A100
      by_cases c11 : 0 ≤ a1
      · rw [if_pos c11] at H
        have c11b0 := eq_true c11
        have c11b1 : decide (0 ≤ a1) = true := decide_eq_true c11
        clear c11
        by_cases c12 : a1 ≤ (wrap64 (a1 + t174))
        · rw [if_pos c12] at H
          have c12b0 := eq_true c12
          have c12b1 : decide (a1 ≤ (wrap64 (a1 + t174))) = true := decide_eq_true c12
          by_cases c13 : (wrap64 (a1 + t174)) ≤ (((rd_T44 l0 0).f0).length : Int)
          · rw [if_pos c13] at H
            have c13b0 := eq_true c13
            have c13b1 : decide ((wrap64 (a1 + t174)) ≤ (((rd_T44 l0 0).f0).length : Int)) = true := decide_eq_true c13
            replace H := Option.bind_eq_some_iff.mp H
            obtain ⟨t177, A140, H⟩ := H
            replace H : (some t177) = some r := H
            have A14 := Aside0.mk A140
            clear A140
            obtain rfl := Option.some.inj H
            have p169 : 0 ≤ (0 : Int) := (by omega)
            have q169 : 0 < (l0.length : Int) := of_decide_eq_true (by first | (with_reducible assumption) | assumption)
            obtain ⟨ad169, A169_0, c169_0, e169, hx169_0, hl169_0, hi169_0⟩ := at_T44 HR0.out 0 p169 q169
            cases e169
            have qi169 : (0 < l0.length) = True := eq_true (by omega)
            (try rw [show ((0 : Int)).toNat = 0 from rfl] at hx169_0)
            (try rw [Addr.add_zero'] at hx169_0)
            have HR169_0 := Aside0.mk hi169_0
            have HC169_0 := Aside0.mk hl169_0
            clear hi169_0 hl169_0
            replace p169 := eq_true p169
            replace q169 := eq_true q169
            go_enter Try.func87, Try.ntmps87
            go_wp2_with (first | ((with_reducible refine gate_callee (f := 94) rfl ?_); refine goesL_ (some 21) rfl rfl Try.func94 (by kernel_rfl) rfl #[.int .i64 a2, .int .i64 a3] rfl (by (try simp only [List.map_toArray, List.map_cons, List.map_nil]); first | done | rfl | (simp only [List.length_drop, List.length_take]; rfl)) ?_; (with_reducible refine (spec_l1Min.calls a2 a3 t173 _ A9.out).mono ?_); rintro e w' ⟨rfl, ⟨nd, rfl⟩⟩; refine ⟨_, rfl, ?_⟩) | ((with_reducible refine gate_callee (f := 94) rfl ?_); refine goesL_ (some 25) rfl rfl Try.func94 (by kernel_rfl) rfl #[.int .i64 t173, .int .i64 (wrap64 ((((rd_T44 l0 0).f0).length : Int) - a1))] rfl (by (try simp only [List.map_toArray, List.map_cons, List.map_nil]); first | done | rfl | (simp only [List.length_drop, List.length_take]; rfl)) ?_; (with_reducible refine (spec_l1Min.calls t173 (wrap64 ((((rd_T44 l0 0).f0).length : Int) - a1)) t174 _ A10.out).mono ?_); rintro e w' ⟨rfl, ⟨nd, rfl⟩⟩; refine ⟨_, rfl, ?_⟩; have p175 : 0 ≤ (0 : Int) := (by omega); have q175 : 0 < (l0.length : Int) := of_decide_eq_true (by first | (with_reducible assumption) | assumption); obtain ⟨ad175, A175_0, c175_0, e175, hx175_0, hl175_0, hi175_0⟩ := at_T44 HR0.out 0 p175 q175; obtain rfl : ad169 = ad175 := (by injection e175); have qi175 : (0 < l0.length) = True := eq_true (by omega); (try rw [show ((0 : Int)).toNat = 0 from rfl] at hx175_0); (try rw [Addr.add_zero'] at hx175_0); have HR175_0 := Aside0.mk hi175_0; have HC175_0 := Aside0.mk hl175_0; clear hi175_0 hl175_0; replace p175 := eq_true p175; replace q175 := eq_true q175; have ea_ := Option.some.inj (hx169_0.symm.trans hx175_0); injection ea_ with ea_ en_ ec_; subst ea_; subst ec_; clear en_; obtain ⟨i015, hi015, _, hsz15, _⟩ := info_parts info5; obtain ⟨A15, hcut15, hA15, hC15⟩ := print_mid_of (P := Try.prog) (Value.int .u8) 0 22 5 .i64 .i64 Try.underlying22 hi015 hsz15 A169_0 c169_0 ((rd_T44 l0 0).f0) a1 (wrap64 (a1 + t174)) (of_decide_eq_true (by first | (with_reducible assumption) | assumption)) (by first | omega | exact of_decide_eq_true (by first | (with_reducible assumption) | assumption)) (of_decide_eq_true (by first | (with_reducible assumption) | assumption)) HC175_0.out; have HR176 := Aside0.mk (Kd.C_of_reads (h1 := fun _ => rfl) (hA15 _ (Kd.reads_of_C HR175_0.out))); have HC176 := Aside0.mk hC15; clear hA15 hC15 hi015 hsz15) | ((with_reducible refine gate_callee (f := 89) rfl ?_); refine goesL_ (some 35) rfl rfl Try.func89 (by kernel_rfl) rfl #[.slice A15 ((((rd_T44 l0 0).f0).take ((wrap64 (a1 + t174)) : Int).toNat).drop (a1 : Int).toNat).length (c169_0 - a1.toNat)] rfl (by (try simp only [List.map_toArray, List.map_cons, List.map_nil]); first | done | (rw [show ((((rd_T44 l0 0).f0).take ((wrap64 (a1 + t174)) : Int).toNat).drop (a1 : Int).toNat).length = ((wrap64 (a1 + t174)).toNat - a1.toNat) from (by rw [List.length_drop, List.length_take]; have h_ : ((wrap64 (a1 + t174)) : Int) ≤ (((rd_T44 l0 0).f0).length : Int) := of_decide_eq_true (by first | (with_reducible assumption) | assumption); omega)] <;> rfl) | rfl | (simp only [List.length_drop, List.length_take]; rfl)) ?_; (with_reducible refine (spec_l1Copy.calls _ _ ((((rd_T44 l0 0).f0).take ((wrap64 (a1 + t174)) : Int).toNat).drop (a1 : Int).toNat) t177 _ ?side1 ?side2 A14.out).mono ?_); (case side1 => repeat (first | exact HR176.out | (with_reducible refine Kd.C_alloc ?_ _) | (with_reducible refine Kd.C_drewN ?_ _) | (with_reducible refine Kd.C_drew ?_))); (case side2 => exact HC176.out); rintro e w16 ⟨v178, rfl, ho0, hb⟩; refine ⟨_, rfl, ?_⟩; have n0_ := Aside0.mk (Kd.R_lower ho0 (below_size (by repeat (first | (with_reducible first | exact HB.out | apply below_alloc | apply pw_below_drewN | apply below_drew1) | exact HB.out)))); have n1_ := Aside0.mk (below_step (by repeat (first | (with_reducible first | exact HB.out | apply below_alloc | apply pw_below_drewN | apply below_drew1) | exact HB.out)) hb); clear HB; have HO179 := n0_; have HB := n1_; clear n0_ n1_; (try clear hb); (try clear hb2); (try clear hk); (try clear hi); (try clear ho0)))
            go_ret
            exact ⟨_, by first | rfl | (simp [errW_none, errW_some] <;> rfl) | (simp [*, errW_none, errW_some] <;> rfl), by (with_reducible repeat (first | apply Kd.R_alloc | apply Kd.R_drewN | apply Kd.R_drew)); exact HO179.out, by repeat (first | (with_reducible first | exact HB.out | apply below_alloc | apply pw_below_drewN | apply below_drew1) | exact HB.out)⟩
          · rw [if_neg c13] at H
            exact absurd H (by simp)
        · rw [if_neg c12] at H
          exact absurd H (by simp)
      · rw [if_neg c11] at H
        exact absurd H (by simp)
  · rw [if_neg c5] at H
    exact absurd H (by simp)

end Go.Proofs.Ytkocconggohdgaa.PFnExactCacheTrue
