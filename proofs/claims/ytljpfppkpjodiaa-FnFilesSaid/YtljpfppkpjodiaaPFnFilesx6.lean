/- Functions of the given program as plain Lean functions, each with a proof that the Go code answers just so; made by a program of this session out of the translation. Conditions: those that each theorem names. -/
import Derived.Test.YtljpfppkpjodiaaPFnFilesx0
import Derived.Test.YtljpfppkpjodiaaPFnFilesx1
import Derived.Test.YtljpfppkpjodiaaPFnFilesx2
import Derived.Test.YtljpfppkpjodiaaPFnFilesx3
import Derived.Test.YtljpfppkpjodiaaPFnFilesx4
import Derived.Test.YtljpfppkpjodiaaPFnFilesx5
namespace Go.Proofs.Ytljpfppkpjodiaa.PFnFiles
open Go.RowKit Go.Proofs.YtljpfppkpjodiaaW.PrintWords Go.Proofs.YtljpfppkpjodiaaW.PrintLast Go.Proofs.YtljpfppkpjodiaaW.PrintMore
attribute [local go_sem] Instr.field asAgg max2_int min2_int max_two min_two max_three min_three max_four min_four   -- for this text's walks alone
set_option linter.unusedVariables false
set_option linter.unusedSimpArgs false

theorem rc {α : Type} {d : Kd α} {A : Option Addr} {n : Nat} {xs : List α} {w0 W w1 : World} (b : Aside0 (d.C w0 A n xs)) (hb : Below W.heap.size W w1) (f : d.C w0 A n xs → d.C W A n xs := by intro h; (with_reducible repeat (first | exact h | refine Kd.C_alloc ?_ _ | refine Kd.C_drewN ?_ _ | refine Kd.C_drew ?_))) : Aside0 (d.C w1 A n xs) := ⟨Kd.C_below (f b.out) hb⟩
/-! ### laws_FnFiles: function 11 -/
def laws_FnFiles.f (k : Nat) (l0 : List Int) : Option (Bool) := (laws_lwBig.f l0).bind fun t357 => (if t357 = true then (some true) else ((spec_DrawAppendFile.f k l0).bind fun bt358 => ((impl_AppendFile.f bt358.1 bt358.2).bind fun bt365 => (if bt365.1 = 0 then ((impl_CutFile.f bt365.2 (bt358.1.length : Int)).bind fun bt376 => ((laws_lwAt.f l0 3 (wrap64 ((bt358.1.length : Int) + 1))).bind fun t381 => ((impl_ReadPart.f k bt358.1 0 t381 400).bind fun bt382 => ((impl_ReadPart.f k bt358.1 t381 400 400).bind fun bt387 => ((spec_DrawReadPart.f k l0).bind fun bt392 => ((impl_ReadPart.f k bt392.1 bt392.2.1 bt392.2.2.1 bt392.2.2.2).bind fun bt399 => ((spec_DrawCutFile.f k l0).bind fun bt404 => (if bt376.1 = 0 then ((laws_lwSame.f bt376.2 bt358.1).bind fun t409 => (if t409 = true then (if 0 ≤ (bt358.1.length : Int) then (if (bt358.1.length : Int) ≤ (bt365.2.length : Int) then ((laws_lwSame.f (bt365.2.drop ((bt358.1.length : Int) : Int).toNat) bt358.2).bind fun t414 => (if t414 = true then ((some (([] : List Int) : List Int)).bind fun y415 => (if y415.length + bt382.2.length < 140737488355328 then ((some (y415 ++ bt382.2 : List Int)).bind fun y418 => (if y418.length + bt387.2.length < 140737488355328 then ((laws_lwSame.f (y418 ++ bt387.2) bt358.1).bind fun t424 => (if t424 = true then ((spec_ReadPart.f bt392.1 bt392.2.1 bt392.2.2.1 bt392.2.2.2).bind fun bt425 => (if bt399.1 = bt425.1 then (if bt399.1 = 0 then (if (bt399.2.length : Int) ≤ bt392.2.2.2 then (if (bt399.2.length : Int) ≤ bt392.2.2.1 then ((spec_ReadPart.f bt392.1 bt392.2.1 bt392.2.2.1 bt392.2.2.2).bind fun bt429 => ((laws_lwSame.f bt399.2 bt429.2).bind fun t433 => (if t433 = true then ((impl_CutFile.f bt404.1 bt404.2).bind fun bt434 => ((spec_CutFile.f bt404.1 bt404.2).bind fun bt438 => (if bt434.1 = bt438.1 then (some ((bt365.2.length : Int) == (wrap64 ((bt358.1.length : Int) + (bt358.2.length : Int))))) else (some false)))) else (some false)))) else (some false)) else (some false)) else ((impl_CutFile.f bt404.1 bt404.2).bind fun bt442 => ((spec_CutFile.f bt404.1 bt404.2).bind fun bt446 => (if bt442.1 = bt446.1 then (some ((bt365.2.length : Int) == (wrap64 ((bt358.1.length : Int) + (bt358.2.length : Int))))) else (some false))))) else (some false))) else (some false))) else (none))) else (none))) else (some false))) else (none)) else (none)) else (some false))) else (some false))))))))) else ((spec_AppendFile.f k bt358.1 bt358.2).bind fun bt370 => (if bt370.1 = bt365.1 then ((impl_FileFault.f bt358.1).bind fun t374 => ((spec_FileFault.f bt358.1).bind fun t375 => (some (t374 == t375)))) else (some false)))))))
theorem laws_FnFiles.mono : ∀ a0 k, LeO (laws_FnFiles.f k a0) (laws_FnFiles.f (k + 1) a0) := by
  intro a0 k
  unfold laws_FnFiles.f
  repeat' first
      | (with_reducible exact impl_ReadPart.mono _ _ _ _ _)
      | (with_reducible exact spec_AppendFile.mono _ _ _)
      | (with_reducible exact spec_DrawAppendFile.mono _ _)
      | (with_reducible exact spec_DrawCutFile.mono _ _)
      | (with_reducible exact spec_DrawReadPart.mono _ _)
      | (with_reducible exact LeO.refl _)
      | (with_reducible exact LeO.none _)
      | (with_reducible refine LeO.ite ?_ ?_)
      | (with_reducible refine LeO.bind ?_ (fun _ => ?_))
      | exact impl_ReadPart.mono _ _ _ _ _
      | exact spec_AppendFile.mono _ _ _
      | exact spec_DrawAppendFile.mono _ _
      | exact spec_DrawCutFile.mono _ _
      | exact spec_DrawReadPart.mono _ _
      | exact LeO.none _
      | refine LeO.ite ?_ ?_
      | refine LeO.bind ?_ (fun _ => ?_)
def laws_FnFiles.T6 : Bool × List (List Nat × List Nat) := (true, [([], []), ([], []), ([0, 1], [0, 1]), ([2], [2]), ([], []), ([4], [4]), ([3, 5], [3, 5]), ([6, 2], [6]), ([7], [7]), ([8, 7, 7], [7, 8]), ([7], [7]), ([10, 9, 7], [7, 10]), ([9, 11, 7], [7, 9, 11]), ([7, 12], [7, 12]), ([13, 11, 0, 1, 2, 3, 4, 5, 6, 7, 8, 9, 10, 11, 12, 13], [13])])
def laws_FnFiles.B6 : List Nat := [0, 0, 3, 7, 0, 16, 63, 127, 255, 511, 255, 2047, 4095, 8191, 16383]
theorem laws_FnFiles.tab6 : rtab .any (opsOf Try.f11 6) = laws_FnFiles.T6 := by kernel_rfl
theorem laws_FnFiles.bits6 : waitsOk laws_FnFiles.T6.2 laws_FnFiles.B6 = true := by kernel_rfl
def laws_FnFiles.T15 : Bool × List (List Nat × List Nat) := (true, [([], []), ([0], [0]), ([1], [1]), ([2], [2]), ([3], [3]), ([4, 3], [3, 4]), ([5, 3], [3, 5]), ([3], [3]), ([7, 3], [3, 7]), ([6, 8, 3, 3], [3, 6, 8]), ([3, 9], [3, 9]), ([10, 9], [10]), ([11], [11]), ([12, 11], [11, 12]), ([13, 11], [11, 13]), ([11], [11]), ([14, 15, 11], [11, 14, 15]), ([11], [11]), ([16, 17, 11, 11], [11, 16, 17]), ([11, 18], [11, 18]), ([19, 18], [19]), ([20], [20]), ([20], [20]), ([22, 20], [20, 22]), ([21, 23, 20, 20], [20, 21, 23]), ([20], [20]), ([25, 20], [20, 25]), ([24, 26, 24, 20], [20, 24, 26]), ([20], [20]), ([28, 20], [20, 28]), ([27, 29, 27, 20], [20, 27, 29]), ([20, 30], [20, 30]), ([31, 30], [31]), ([32], [32]), ([33, 32], [32, 33]), ([32], [32]), ([32], [32]), ([32], [32]), ([32], [32]), ([35, 36, 37, 38, 32, 32], [32, 35, 36, 37, 38]), ([39, 32], [32, 39]), ([34, 40, 32], [32, 34, 40]), ([32, 41], [32, 41]), ([42, 39], [42]), ([43], [43]), ([44, 43], [43, 44]), ([45, 43], [43, 45]), ([46, 43, 43], [43, 46]), ([47], [47]), ([48, 47], [47, 48]), ([49, 47], [47, 49]), ([47], [47]), ([50, 51, 47], [47, 50, 51]), ([52, 47, 47], [47, 52]), ([53], [53]), ([54, 53], [53, 54]), ([55, 53], [53, 55]), ([53], [53]), ([56, 57, 53], [53, 56, 57]), ([53, 58, 47], [47, 53, 58]), ([59, 53, 47], [47, 59]), ([60], [60]), ([61, 60], [60, 61]), ([60], [60]), ([60], [60]), ([60], [60]), ([60], [60]), ([63, 64, 65, 66, 60, 60], [60, 63, 64, 65, 66]), ([67, 60], [60, 67]), ([62, 68, 67, 60], [60, 62, 68]), ([60, 69, 47], [47, 60, 69]), ([47, 70, 43], [43, 47, 70]), ([43, 71], [43, 71]), ([72, 69], [72]), ([73], [73]), ([73], [73]), ([74, 75, 73, 73], [73, 74, 75]), ([76, 73], [73, 76]), ([73], [73]), ([73], [73]), ([78, 79, 76, 73], [73, 78, 79]), ([80, 73], [73, 80]), ([77, 81, 73], [73, 77, 81]), ([73, 82], [73, 82]), ([83, 80], [83]), ([84], [84]), ([85, 84], [84, 85]), ([86, 84], [84, 86]), ([87, 84], [84, 87]), ([84], [84]), ([89, 84], [84, 89]), ([90, 84], [84, 90]), ([84], [84]), ([92, 84], [84, 92]), ([91, 93, 84], [84, 91, 93]), ([88, 94, 84], [84, 88, 94]), ([84, 95], [84, 95]), ([96, 84, 0, 1, 2, 3, 4, 5, 6, 7, 8, 9, 10, 11, 12, 13, 14, 15, 16, 17, 18, 19, 20, 21, 22, 23, 24, 25, 26, 27, 28, 29, 30, 31, 32, 33, 34, 35, 36, 37, 38, 39, 40, 41, 42, 43, 44, 45, 46, 47, 48, 49, 50, 51, 52, 53, 54, 55, 56, 57, 58, 59, 60, 61, 62, 63, 64, 65, 66, 67, 68, 69, 70, 71, 72, 73, 74, 75, 76, 77, 78, 79, 80, 81, 82, 83, 84, 85, 86, 87, 88, 89, 90, 91, 92, 93, 94, 95, 96], [96])])
def laws_FnFiles.B15 : List Nat := [0, 1, 3, 7, 15, 31, 63, 15, 143, 511, 1023, 2047, 4095, 8191, 16383, 4095, 65535, 4095, 262143, 524287, 1048575, 2097151, 2097151, 6291455, 16777215, 2097151, 35651583, 134217727, 2097151, 270532607, 1073741823, 2147483647, 4294967295, 8589934591, 17179869183, 8589934591, 8589934591, 8589934591, 8589934591, 523986010111, 1073741823999, 2199023255551, 4398046511103, 8796093022207, 17592186044415, 35184372088831, 70368744177663, 140737488355327, 281474976710655, 562949953421311, 1125899906842623, 281474976710655, 4503599627370495, 9007199254740991, 18014398509481983, 36028797018963967, 72057594037927935, 18014398509481983, 288230376151711743, 576460752303423487, 1152921504606846975, 2305843009213693951, 4611686018427387903, 2305843009213693951, 2305843009213693951, 2305843009213693951, 2305843009213693951, 140656423562035331071, 288230376151711743999, 590295810358705651711, 1180591620717411303423, 2361183241434822606847, 4722366482869645213695, 9444732965739290427391, 18889465931478580854783, 18889465931478580854783, 75557863725914323419135, 151115727451828646838271, 18889465931478580854783, 18889465931478580854783, 1057810092162800527867903, 2266735911777429702574079, 4835703278458516698824703, 9671406556917033397649407, 19342813113834066795298815, 38685626227668133590597631, 77371252455336267181195263, 154742504910672534362390527, 309485009821345068724781055, 38685626227668133590597631, 657655645870358271040159743, 1895595685155738545939283967, 38685626227668133590597631, 4990445783369189233187094527, 19226756235151062394527023103, 39614081257132168796771975167, 79228162514264337593543950335, 158456325028528675187087900671]
theorem laws_FnFiles.tab15 : rtab .any (opsOf Try.f11 15) = laws_FnFiles.T15 := by kernel_rfl
theorem laws_FnFiles.bits15 : waitsOk laws_FnFiles.T15.2 laws_FnFiles.B15 = true := by kernel_rfl
/-- THE ONE PURE STATEMENT of laws_FnFiles. -/
def laws_FnFiles.Pure : Prop := ∀ (l0 : List Int), l0.length ≤ maxLen → (∀ x ∈ l0, (Lit.int .u8 x).wf = true) → ∃ k, laws_FnFiles.f k l0 = some true
set_option maxHeartbeats 8000000 in
set_option maxRecDepth 100000 in
theorem laws_FnFiles.calls3 (k : Nat) (A0 : Option Addr) (c0 : Nat) (l0 : List Int) (r : Bool) (w : World) (hr0 : Kd.C (Kd.int .u8) w A0 l0.length l0) (hc0 : l0.length ≤ c0) (HT : Aside0 (r = true)) (HX : ∀ (a b : List Int) (c : Int) (d : List Int), spec_DrawAppendFile.f k l0 = some (a, b) → impl_AppendFile.f a b = some (c, d) → c ≠ 0) (h : laws_FnFiles.f k l0 = some r) :
    Calls Try.prog 11 #[.slice A0 l0.length c0] w fun e w' => e = .returned (.bool r) ∧ Below w.heap.size w w' := by
  have hu45 := Try.underlying45
  have hu59 := Try.underlying59
  have hu68 := Try.underlying68
  have HR0 := Aside0.mk hr0
  have HC0 := Aside0.mk hc0
  clear hr0 hc0
  have HB := Aside0.mk (Below.refl w.heap.size w)
  have H : ((laws_lwBig.f l0).bind fun t357 => (if t357 = true then (some true) else ((spec_DrawAppendFile.f k l0).bind fun bt358 => ((impl_AppendFile.f bt358.1 bt358.2).bind fun bt365 => (if bt365.1 = 0 then ((impl_CutFile.f bt365.2 (bt358.1.length : Int)).bind fun bt376 => ((laws_lwAt.f l0 3 (wrap64 ((bt358.1.length : Int) + 1))).bind fun t381 => ((impl_ReadPart.f k bt358.1 0 t381 400).bind fun bt382 => ((impl_ReadPart.f k bt358.1 t381 400 400).bind fun bt387 => ((spec_DrawReadPart.f k l0).bind fun bt392 => ((impl_ReadPart.f k bt392.1 bt392.2.1 bt392.2.2.1 bt392.2.2.2).bind fun bt399 => ((spec_DrawCutFile.f k l0).bind fun bt404 => (if bt376.1 = 0 then ((laws_lwSame.f bt376.2 bt358.1).bind fun t409 => (if t409 = true then (if 0 ≤ (bt358.1.length : Int) then (if (bt358.1.length : Int) ≤ (bt365.2.length : Int) then ((laws_lwSame.f (bt365.2.drop ((bt358.1.length : Int) : Int).toNat) bt358.2).bind fun t414 => (if t414 = true then ((some (([] : List Int) : List Int)).bind fun y415 => (if y415.length + bt382.2.length < 140737488355328 then ((some (y415 ++ bt382.2 : List Int)).bind fun y418 => (if y418.length + bt387.2.length < 140737488355328 then ((laws_lwSame.f (y418 ++ bt387.2) bt358.1).bind fun t424 => (if t424 = true then ((spec_ReadPart.f bt392.1 bt392.2.1 bt392.2.2.1 bt392.2.2.2).bind fun bt425 => (if bt399.1 = bt425.1 then (if bt399.1 = 0 then (if (bt399.2.length : Int) ≤ bt392.2.2.2 then (if (bt399.2.length : Int) ≤ bt392.2.2.1 then ((spec_ReadPart.f bt392.1 bt392.2.1 bt392.2.2.1 bt392.2.2.2).bind fun bt429 => ((laws_lwSame.f bt399.2 bt429.2).bind fun t433 => (if t433 = true then ((impl_CutFile.f bt404.1 bt404.2).bind fun bt434 => ((spec_CutFile.f bt404.1 bt404.2).bind fun bt438 => (if bt434.1 = bt438.1 then (some ((bt365.2.length : Int) == (wrap64 ((bt358.1.length : Int) + (bt358.2.length : Int))))) else (some false)))) else (some false)))) else (some false)) else (some false)) else ((impl_CutFile.f bt404.1 bt404.2).bind fun bt442 => ((spec_CutFile.f bt404.1 bt404.2).bind fun bt446 => (if bt442.1 = bt446.1 then (some ((bt365.2.length : Int) == (wrap64 ((bt358.1.length : Int) + (bt358.2.length : Int))))) else (some false))))) else (some false))) else (some false))) else (none))) else (none))) else (some false))) else (none)) else (none)) else (some false))) else (some false))))))))) else ((spec_AppendFile.f k bt358.1 bt358.2).bind fun bt370 => (if bt370.1 = bt365.1 then ((impl_FileFault.f bt358.1).bind fun t374 => ((spec_FileFault.f bt358.1).bind fun t375 => (some (t374 == t375)))) else (some false)))))))) = some r := h
  clear h
  replace H := Option.bind_eq_some_iff.mp H
  obtain ⟨t357, A20, H⟩ := H
  try dsimp only at H
  have A2 := Aside0.mk A20
  clear A20
  by_cases c3 : t357 = true
  · subst c3
    rw [if_pos rfl] at H
    obtain rfl := Option.some.inj H
    go_enter Try.func11, Try.ntmps11
    go_wp2_with (first | ((with_reducible refine gate_callee (f := 33) rfl ?_); refine goesL_ (some 19) rfl rfl Try.func33 (by kernel_rfl) rfl #[.slice A0 l0.length c0] rfl (by (try simp only [List.map_toArray, List.map_cons, List.map_nil]); first | done | rfl | (simp only [List.length_drop, List.length_take]; rfl)) ?_; (with_reducible refine (laws_lwBig.calls _ _ l0 true _ ?side1 ?side2 A2.out).mono ?_); (case side1 => repeat (first | exact HR0.out | (with_reducible refine Kd.C_alloc ?_ _) | (with_reducible refine Kd.C_drewN ?_ _) | (with_reducible refine Kd.C_drew ?_))); (case side2 => exact HC0.out); rintro e w' ⟨rfl, ⟨nd, rfl⟩⟩; refine ⟨_, rfl, ?_⟩))
    go_ret
    exact ⟨by first | rfl | (simp [errW_none, errW_some] <;> rfl) | (simp [*, errW_none, errW_some] <;> rfl), by repeat (first | (with_reducible first | exact HB.out | apply below_alloc | apply pw_below_drewN | apply below_drew1) | exact HB.out)⟩
  replace c3 := Bool.eq_false_iff.mpr c3
  subst c3
  have H1 : ((spec_DrawAppendFile.f k l0).bind fun bt358 => ((impl_AppendFile.f bt358.1 bt358.2).bind fun bt365 => (if bt365.1 = 0 then ((impl_CutFile.f bt365.2 (bt358.1.length : Int)).bind fun bt376 => ((laws_lwAt.f l0 3 (wrap64 ((bt358.1.length : Int) + 1))).bind fun t381 => ((impl_ReadPart.f k bt358.1 0 t381 400).bind fun bt382 => ((impl_ReadPart.f k bt358.1 t381 400 400).bind fun bt387 => ((spec_DrawReadPart.f k l0).bind fun bt392 => ((impl_ReadPart.f k bt392.1 bt392.2.1 bt392.2.2.1 bt392.2.2.2).bind fun bt399 => ((spec_DrawCutFile.f k l0).bind fun bt404 => (if bt376.1 = 0 then ((laws_lwSame.f bt376.2 bt358.1).bind fun t409 => (if t409 = true then (if 0 ≤ (bt358.1.length : Int) then (if (bt358.1.length : Int) ≤ (bt365.2.length : Int) then ((laws_lwSame.f (bt365.2.drop ((bt358.1.length : Int) : Int).toNat) bt358.2).bind fun t414 => (if t414 = true then ((some (([] : List Int) : List Int)).bind fun y415 => (if y415.length + bt382.2.length < 140737488355328 then ((some (y415 ++ bt382.2 : List Int)).bind fun y418 => (if y418.length + bt387.2.length < 140737488355328 then ((laws_lwSame.f (y418 ++ bt387.2) bt358.1).bind fun t424 => (if t424 = true then ((spec_ReadPart.f bt392.1 bt392.2.1 bt392.2.2.1 bt392.2.2.2).bind fun bt425 => (if bt399.1 = bt425.1 then (if bt399.1 = 0 then (if (bt399.2.length : Int) ≤ bt392.2.2.2 then (if (bt399.2.length : Int) ≤ bt392.2.2.1 then ((spec_ReadPart.f bt392.1 bt392.2.1 bt392.2.2.1 bt392.2.2.2).bind fun bt429 => ((laws_lwSame.f bt399.2 bt429.2).bind fun t433 => (if t433 = true then ((impl_CutFile.f bt404.1 bt404.2).bind fun bt434 => ((spec_CutFile.f bt404.1 bt404.2).bind fun bt438 => (if bt434.1 = bt438.1 then (some ((bt365.2.length : Int) == (wrap64 ((bt358.1.length : Int) + (bt358.2.length : Int))))) else (some false)))) else (some false)))) else (some false)) else (some false)) else ((impl_CutFile.f bt404.1 bt404.2).bind fun bt442 => ((spec_CutFile.f bt404.1 bt404.2).bind fun bt446 => (if bt442.1 = bt446.1 then (some ((bt365.2.length : Int) == (wrap64 ((bt358.1.length : Int) + (bt358.2.length : Int))))) else (some false))))) else (some false))) else (some false))) else (none))) else (none))) else (some false))) else (none)) else (none)) else (some false))) else (some false))))))))) else ((spec_AppendFile.f k bt358.1 bt358.2).bind fun bt370 => (if bt370.1 = bt365.1 then ((impl_FileFault.f bt358.1).bind fun t374 => ((spec_FileFault.f bt358.1).bind fun t375 => (some (t374 == t375)))) else (some false)))))) = some r := by rw [if_neg (show ¬ (false = true) by decide)] at H; exact H
  clear H
  have H := H1
  clear H1
  replace H := Option.bind_eq_some_iff.mp H
  obtain ⟨⟨t358, t361⟩, A40, H⟩ := H
  try dsimp only at H
  have A4 := Aside0.mk A40
  clear A40
  replace H := Option.bind_eq_some_iff.mp H
  obtain ⟨⟨t365, t366⟩, A50, H⟩ := H
  try dsimp only at H
  have A5 := Aside0.mk A50
  clear A50
  by_cases c6 : t365 = 0
  · exact absurd c6 (HX _ _ _ _ A4.out A5.out)
  rw [if_neg c6] at H
  have c6b0 : (t365 == 0) = false := beq_eq_false_iff_ne.mpr c6
  have c6b1 : (t365 != 0) = true := bne_iff_ne.mpr c6
  replace H := Option.bind_eq_some_iff.mp H
  obtain ⟨⟨t370, t371⟩, A1910, H⟩ := H
  try dsimp only at H
  have A191 := Aside0.mk A1910
  clear A1910
  by_cases c192 : t370 = t365
  rotate_left
  · rw [if_neg c192] at H
    have c192b0 : (t370 == t365) = false := beq_eq_false_iff_ne.mpr c192
    have c192b1 : (t370 != t365) = true := bne_iff_ne.mpr c192
    obtain rfl := Option.some.inj H
    exact absurd HT.out (by decide)
  rw [if_pos c192] at H
  have c192b0 : (t370 == t365) = true := beq_iff_eq.mpr c192
  have c192b1 : (t370 != t365) = false := bne_eq_false_iff_eq.mpr c192
  clear c192
  replace H := Option.bind_eq_some_iff.mp H
  obtain ⟨t374, A1930, H⟩ := H
  try dsimp only at H
  have A193 := Aside0.mk A1930
  clear A1930
  replace H := Option.bind_eq_some_iff.mp H
  obtain ⟨t375, A1940, H⟩ := H
  try dsimp only at H
  have A194 := Aside0.mk A1940
  clear A1940
  obtain rfl := Option.some.inj H
  go_enter Try.func11, Try.ntmps11
  try go_wp2_with (first | ((with_reducible refine gate_callee (f := 33) rfl ?_); refine goesL_ (some 19) rfl rfl Try.func33 (by kernel_rfl) rfl #[.slice A0 l0.length c0] rfl (by (try simp only [List.map_toArray, List.map_cons, List.map_nil]); first | done | rfl | (simp only [List.length_drop, List.length_take]; rfl)) ?_; (with_reducible refine (laws_lwBig.calls _ _ l0 false _ ?side1 ?side2 A2.out).mono ?_); (case side1 => repeat (first | exact HR0.out | (with_reducible refine Kd.C_alloc ?_ _) | (with_reducible refine Kd.C_drewN ?_ _) | (with_reducible refine Kd.C_drew ?_))); (case side2 => exact HC0.out); rintro e w' ⟨rfl, ⟨nd, rfl⟩⟩; refine ⟨_, rfl, ?_⟩) | ((with_reducible refine gate_callee (f := 52) rfl ?_); refine goesL_ (some 22) rfl rfl Try.func52 (by kernel_rfl) rfl #[.slice A0 l0.length c0] rfl (by (try simp only [List.map_toArray, List.map_cons, List.map_nil]); first | done | rfl | (simp only [List.length_drop, List.length_take]; rfl)) ?_; (with_reducible refine (spec_DrawAppendFile.calls k _ _ l0 t358 t361 _ ?side1 ?side2 A4.out).mono ?_); (case side1 => repeat (first | exact HR0.out | (with_reducible refine Kd.C_alloc ?_ _) | (with_reducible refine Kd.C_drewN ?_ _) | (with_reducible refine Kd.C_drew ?_))); (case side2 => exact HC0.out); rintro e w195 ⟨v359, v362, rfl, ho0, ho1, hb⟩; refine ⟨_, rfl, ?_⟩; have HO360 := Aside0.mk (Kd.R_lower ho0 (below_size (bz HB))); have HO363 := Aside0.mk (Kd.R_lower ho1 (below_size (bz HB))); replace HB := Aside0.mk (below_step (bz HB) hb); (try clear hb); (try clear hb2); (try clear hk); (try clear hi); (try clear ho0); (try clear ho1)) | ((with_reducible refine gate_dst (N := 3) rfl ?_); (try (refine gate_guard (by rfl) ?_; dsimp only)); refine box_event ?hg (N := 3) ?hd (cs := #[.slice none 0 0]) (t := 45) ?hr ?_; (case hd => rfl); (case hg => rfl); (case hr => first | (go_simp; done) | (go_simp; rfl)); intro gb364 hg w196 hbox hb; replace HO360 := rb HO360 hb; replace HO363 := rb HO363 hb; have BK364 := Aside0.mk (hbox); have GW364 := Aside0.mk ((by rw [hg]; exact (below_size (bz HB)) : w.heap.size ≤ gb364)); have GE364 := Aside0.mk ((by rw [hg]; exact (below_size (bz HB)) : w.heap.size ≤ gb364)); replace HB := Aside0.mk (below_step (bz HB) hb); clear hb hbox hg; obtain ⟨Ao197, co197, eo197⟩ := Kd.R_slice HO360.out; subst eo197; have hcz198_0 : w196.cell? ⟨gb364, 0, none⟩ = some (.slice none 0 0) := (blk_cell BK364.out 0).trans rfl; have hfz198_0 := blk_frozen BK364.out 0; obtain ⟨Ao199, co199, eo199⟩ := Kd.R_slice HO363.out; subst eo199) | ((with_reducible refine gate_callee (f := 53) rfl ?_); refine goesL_ (some 27) rfl rfl Try.func53 (by kernel_rfl) rfl #[.agg #[.slice Ao197 t358.length co197], .slice Ao199 t361.length co199] rfl (by (try simp only [List.map_toArray, List.map_cons, List.map_nil]); first | done | rfl | (simp only [List.length_drop, List.length_take]; rfl)) ?_; (with_reducible refine (impl_AppendFile.calls _ _ t358 _ _ t361 t365 t366 _ ?side1 ?side2 ?side3 ?side4 A5.out).mono ?_); (case side1 => refine (Kd.R_reads' (e := 5) (base := w.heap.size) (ok := fun k_ => some k_ ≠ (.slice Ao199 t361.length co199 : Value).ownBlock) (n := t358.length) (c := co197) ?_).2.2; exact (by (with_reducible repeat (first | apply Kd.R_alloc | apply Kd.R_drewN | apply Kd.R_drew)); exact (Kd.R_mono (Kd.R_far (p := ⟨gb364, 0, none⟩) (Kd.R_types HO360.out BK364.out (by decide)) (fun _ hk => hk.2) (.slice Ao197 t358.length co197)) (fun _ h_ => h_.1)))); (case side2 => exact (Kd.R_reads' HO360.out).2.1); (case side3 => refine (Kd.R_reads' (e := 5) (base := w.heap.size) (ok := fun k_ => some k_ ≠ (.slice Ao197 t358.length co197 : Value).ownBlock) (n := t361.length) (c := co199) ?_).2.2; exact (by (with_reducible repeat (first | apply Kd.R_alloc | apply Kd.R_drewN | apply Kd.R_drew)); exact (Kd.R_mono (Kd.R_far (p := ⟨gb364, 0, none⟩) (Kd.R_types HO363.out BK364.out (by decide)) (fun _ hk => hk.2) (.slice Ao197 t358.length co197)) (fun _ h_ => h_.1)))); (case side4 => exact (Kd.R_reads' HO363.out).2.1); rintro e w200 ⟨v367, rfl, ho0, hb⟩; refine ⟨_, rfl, ?_⟩; have HO368 := Aside0.mk (Kd.R_lower (Kd.R_new' (Kd.R_new' ho0 (Kd.R_lt (by (with_reducible repeat (first | apply Kd.R_alloc | apply Kd.R_drewN | apply Kd.R_drew)); exact (Kd.R_mono (Kd.R_far (p := ⟨gb364, 0, none⟩) (Kd.R_types HO360.out BK364.out (by decide)) (fun _ hk => hk.2) (.slice Ao197 t358.length co197)) (fun _ h_ => h_.1))))) (Kd.R_lt (by (with_reducible repeat (first | apply Kd.R_alloc | apply Kd.R_drewN | apply Kd.R_drew)); exact (Kd.R_mono (Kd.R_far (p := ⟨gb364, 0, none⟩) (Kd.R_types HO363.out BK364.out (by decide)) (fun _ hk => hk.2) (.slice Ao197 t358.length co197)) (fun _ h_ => h_.1))))) (below_size (bz HB))); replace HO360 := Aside0.mk (Kd.R_elder' (by (with_reducible repeat (first | apply Kd.R_alloc | apply Kd.R_drewN | apply Kd.R_drew)); exact (Kd.R_mono (Kd.R_far (p := ⟨gb364, 0, none⟩) (Kd.R_types HO360.out BK364.out (by decide)) (fun _ hk => hk.2) (.slice Ao197 t358.length co197)) (fun _ h_ => h_.1))) (Kd.R_base ho0) hb); replace HO363 := Aside0.mk (Kd.R_elder' (by (with_reducible repeat (first | apply Kd.R_alloc | apply Kd.R_drewN | apply Kd.R_drew)); exact (Kd.R_mono (Kd.R_far (p := ⟨gb364, 0, none⟩) (Kd.R_types HO363.out BK364.out (by decide)) (fun _ hk => hk.2) (.slice Ao197 t358.length co197)) (fun _ h_ => h_.1))) (Kd.R_base ho0) hb); replace BK364 := Aside0.mk (blk_below (g := gb364) (o := .cells #[.slice Ao197 t358.length co197] 45 (0, 0)) (by (with_reducible repeat (first | refine blk_drewN ?_ _ | refine blk_drew ?_ | refine blk_alloc ?_ _)); refine blk_put (cs := #[.slice none 0 0]) ?_ 0 _ rfl; (with_reducible repeat (first | refine blk_drewN ?_ _ | refine blk_drew ?_ | refine blk_alloc ?_ _)); exact BK364.out) hb); replace HB := Aside0.mk (below_step (bz HB) hb); (try clear hb); (try clear hb2); (try clear hk); (try clear hi); (try clear ho0)) | ((with_reducible refine gate_dst (N := 5) rfl ?_); (try (refine gate_guard (by rfl) ?_; dsimp only)); refine box_event ?hg (N := 5) ?hd (cs := #[.int .i64 0, .slice none 0 0]) (t := 59) ?hr ?_; (case hd => rfl); (case hg => rfl); (case hr => first | (go_simp; done) | (go_simp; rfl)); intro gb369 hg w201 hbox hb; replace HO360 := rb HO360 hb; replace HO363 := rb HO363 hb; replace HO368 := rb HO368 hb; have BK369 := Aside0.mk (hbox); have GW369 := Aside0.mk ((by rw [hg]; exact (below_size (bz HB)) : w.heap.size ≤ gb369)); have GE369 := Aside0.mk ((by rw [hg]; exact (below_size (bz HB)) : w.heap.size ≤ gb369)); replace HB := Aside0.mk (below_step (bz HB) hb); have NB364_369 := nb BK364 hg; have NB369_364 := nc BK364 hg; replace BK364 := bk BK364 hb; clear hb hbox hg; have hnb202 := NB369_364.out; have hnc202 := NB364_369.out; have hcz203_0 : w201.cell? ⟨gb369, 0, none⟩ = some (.int .i64 0) := (blk_cell BK369.out 0).trans rfl; have hcz203_1 : w201.cell? ⟨gb369, 1, none⟩ = some (.slice none 0 0) := (blk_cell BK369.out 1).trans rfl; have hfz203_0 := blk_frozen BK369.out 0; have hfz203_1 := blk_frozen BK369.out 1; obtain ⟨Ao204, co204, eo204⟩ := Kd.R_slice HO368.out; subst eo204))
  have n0_ : Aside0 (Kd.R (Kd.int .u8) 5 ((w201.setCell ⟨gb369, 0, none⟩ (.int .i64 t365)).setCell ⟨gb369, 1, none⟩ (.slice Ao204 t366.length co204)) w.heap.size (fun k_ => some k_ ≠ (.slice Ao199 t361.length co199 : Value).ownBlock ∧ some k_ ≠ (.slice Ao204 t366.length co204 : Value).ownBlock) (.slice Ao197 t358.length co197) t358) := ⟨by (with_reducible repeat (first | apply Kd.R_alloc | apply Kd.R_drewN | apply Kd.R_drew)); exact Kd.R_mono (Kd.R_far (p := ⟨gb369, 1, none⟩) (Kd.R_far (p := ⟨gb369, 0, none⟩) (Kd.R_types HO360.out BK369.out (by decide)) (fun _ hk => hk.2) (.int .i64 t365)) (fun _ hk => hk.2) (.slice Ao204 t366.length co204)) (fun _ hk => ⟨hk.1.1, hk.1.2⟩)⟩
  have n1_ : Aside0 (Kd.R (Kd.int .u8) 5 ((w201.setCell ⟨gb369, 0, none⟩ (.int .i64 t365)).setCell ⟨gb369, 1, none⟩ (.slice Ao204 t366.length co204)) w.heap.size (fun k_ => some k_ ≠ (.slice Ao197 t358.length co197 : Value).ownBlock ∧ some k_ ≠ (.slice Ao204 t366.length co204 : Value).ownBlock) (.slice Ao199 t361.length co199) t361) := ⟨by (with_reducible repeat (first | apply Kd.R_alloc | apply Kd.R_drewN | apply Kd.R_drew)); exact Kd.R_mono (Kd.R_far (p := ⟨gb369, 1, none⟩) (Kd.R_far (p := ⟨gb369, 0, none⟩) (Kd.R_types HO363.out BK369.out (by decide)) (fun _ hk => hk.2) (.int .i64 t365)) (fun _ hk => hk.2) (.slice Ao204 t366.length co204)) (fun _ hk => ⟨hk.1.1, hk.1.2⟩)⟩
  have n2_ : Aside0 (Kd.R (Kd.int .u8) 5 ((w201.setCell ⟨gb369, 0, none⟩ (.int .i64 t365)).setCell ⟨gb369, 1, none⟩ (.slice Ao204 t366.length co204)) w.heap.size (fun k_ => some k_ ≠ (.slice Ao197 t358.length co197 : Value).ownBlock ∧ some k_ ≠ (.slice Ao199 t361.length co199 : Value).ownBlock) (.slice Ao204 t366.length co204) t366) := ⟨by (with_reducible repeat (first | apply Kd.R_alloc | apply Kd.R_drewN | apply Kd.R_drew)); exact Kd.R_mono (Kd.R_far (p := ⟨gb369, 1, none⟩) (Kd.R_far (p := ⟨gb369, 0, none⟩) (Kd.R_types HO368.out BK369.out (by decide)) (fun _ hk => hk.2) (.int .i64 t365)) (fun _ hk => hk.2) (.slice Ao204 t366.length co204)) (fun _ hk => ⟨hk.1.1.2, hk.1.2⟩)⟩
  have n3_ : Aside0 (((w201.setCell ⟨gb369, 0, none⟩ (.int .i64 t365)).setCell ⟨gb369, 1, none⟩ (.slice Ao204 t366.length co204)).heap[gb364]? = some (.cells #[.slice Ao197 t358.length co197] 45 (0, 0))) := ⟨by (with_reducible repeat (first | refine blk_drewN ?_ _ | refine blk_drew ?_ | refine blk_alloc ?_ _)); refine blk_far ?_ NB364_369.out _; refine blk_far ?_ NB364_369.out _; (with_reducible repeat (first | refine blk_drewN ?_ _ | refine blk_drew ?_ | refine blk_alloc ?_ _)); exact BK364.out⟩
  have n4_ : Aside0 (((w201.setCell ⟨gb369, 0, none⟩ (.int .i64 t365)).setCell ⟨gb369, 1, none⟩ (.slice Ao204 t366.length co204)).heap[gb369]? = some (.cells #[.int .i64 t365, .slice Ao204 t366.length co204] 59 (0, 0))) := ⟨by (with_reducible repeat (first | refine blk_drewN ?_ _ | refine blk_drew ?_ | refine blk_alloc ?_ _)); refine blk_put (cs := #[.int .i64 t365, .slice none 0 0]) ?_ 1 _ rfl; refine blk_put (cs := #[.int .i64 0, .slice none 0 0]) ?_ 0 _ rfl; (with_reducible repeat (first | refine blk_drewN ?_ _ | refine blk_drew ?_ | refine blk_alloc ?_ _)); exact BK369.out⟩
  have n5_ : Aside0 (Below w.heap.size w ((w201.setCell ⟨gb369, 0, none⟩ (.int .i64 t365)).setCell ⟨gb369, 1, none⟩ (.slice Ao204 t366.length co204))) := ⟨by repeat (first | (with_reducible first | exact HB.out | apply below_alloc | apply pw_below_drewN | apply below_drew1 | refine below_set ?_ GE364.out | refine below_set ?_ GE369.out) | exact HB.out)⟩
  (try clear HO360)
  (try clear HO363)
  (try clear HO368)
  (try clear BK364)
  (try clear BK369)
  (try clear HB)
  generalize ((w201.setCell ⟨gb369, 0, none⟩ (.int .i64 t365)).setCell ⟨gb369, 1, none⟩ (.slice Ao204 t366.length co204)) = w205 at n0_ n1_ n2_ n3_ n4_ n5_ ⊢
  have HO360 := n0_
  have HO363 := n1_
  have HO368 := n2_
  have BK364 := n3_
  have BK369 := n4_
  have HB := n5_
  clear n0_ n1_ n2_ n3_ n4_ n5_
  replace HO360 := Aside0.mk (Kd.R_drew HO360.out)
  replace HO363 := Aside0.mk (Kd.R_drew HO363.out)
  replace HO368 := Aside0.mk (Kd.R_drew HO368.out)
  replace BK364 := Aside0.mk (blk_drew BK364.out)
  replace BK369 := Aside0.mk (blk_drew BK369.out)
  replace HB := Aside0.mk (below_drew1 HB.out)
  refine start_ (n := 15) (S := fun w' => w'.cell? ⟨gb364, 0, none⟩ = some (.slice Ao197 t358.length co197) ∧ w'.cell? ⟨gb369, 0, none⟩ = some (.int .i64 t365) ∧ w'.cell? ⟨gb369, 1, none⟩ = some (.slice Ao204 t366.length co204)) (ds := []) #[Z,Z,Z,Z,Z,Z,Z,Z,Z,Z,Z,Z,Z,Z,Z] (by kernel_rfl) rfl rfl ⟨(blk_cell BK364.out 0).trans rfl, (blk_cell BK369.out 0).trans rfl, (blk_cell BK369.out 1).trans rfl⟩ (fun hHeld => ?_); refine with_tabW laws_FnFiles.tab6 laws_FnFiles.bits6 (fun HT_ HW_ => ?_)
  generalize w205.drew = w206 at HO360 HO363 HO368 BK364 BK369 HB hHeld ⊢
  refine pure_ (i := 1) (N := some 32) (v := ?_) (a' := ?_) #[Z,Y,Z,Z,Z,Z,Z,Z,Z,Z,Z,Z,Z,Z,Z] rfl rfl (any_of HT_.out (by kernel_rfl)) (fun _ _ _ h => h) (Or.inl ⟨by rfl, ?_⟩) ?_ ?_
  rotate_left; (intro w'; go_simp; with_reducible rfl); rotate_left; (simp only [Act.put, List.setIfInBounds_toArray, List.set_cons_zero, List.set_cons_succ, i64_w, i32_w]; rfl)
  refine pure_ (i := 4) (N := some 35) (v := ?_) (a' := ?_) #[Z,Y,Z,Z,Y,Z,Z,Z,Z,Z,Z,Z,Z,Z,Z] rfl rfl (any_of HT_.out (by kernel_rfl)) (fun _ _ _ h => h) (Or.inl ⟨by rfl, ?_⟩) ?_ ?_
  rotate_left; (intro w'; go_simp; with_reducible rfl); rotate_left; (simp only [Act.put, List.setIfInBounds_toArray, List.set_cons_zero, List.set_cons_succ, i64_w, i32_w]; rfl)
  refine take_ (i := 0) (N := some 31) (v := ?_) (a' := ?_) #[Y,Y,Z,Z,Y,Z,Z,Z,Z,Z,Z,Z,Z,Z,Z] rfl rfl (take_ofW HT_.out HW_.out (by kernel_rfl)) (fun _ _ _ h => h) (Or.inl ⟨by rfl, ?_⟩) hHeld ?_ ?_
  rotate_left; (rintro w' ⟨s0, s1, s2⟩; go_simp; with_reducible rfl); rotate_left; (simp only [Act.put, List.setIfInBounds_toArray, List.set_cons_zero, List.set_cons_succ, i64_w, i32_w]; rfl)
  refine take_ (i := 5) (N := some 36) (v := ?_) (a' := ?_) #[Y,Y,Z,Z,Y,Y,Z,Z,Z,Z,Z,Z,Z,Z,Z] rfl rfl (take_ofW HT_.out HW_.out (by kernel_rfl)) (fun _ _ _ h => h) (Or.inl ⟨by rfl, ?_⟩) hHeld ?_ ?_
  rotate_left; (rintro w' ⟨s0, s1, s2⟩; go_simp; with_reducible rfl); rotate_left; (simp only [Act.put, List.setIfInBounds_toArray, List.set_cons_zero, List.set_cons_succ, i64_w, i32_w]; rfl)
  refine one_ (i := 2) (N := some 33) #[Y,Y,Y,Z,Y,Y,Z,Z,Z,Z,Z,Z,Z,Z,Z] rfl rfl (one_of HT_.out (by kernel_rfl)) (by decide) (fun K hK => ?_)
  refine goes_ Try.func54 (by kernel_rfl) rfl #[.agg #[.slice Ao197 t358.length co197], .slice Ao199 t361.length co199] (by rfl) rfl rfl (by (try simp only [List.map_toArray, List.map_cons, List.map_nil]); first | done | rfl | (simp only [List.length_drop, List.length_take]; rfl)) ?_
  with_reducible refine (spec_AppendFile.calls k _ _ t358 _ _ t361 t370 t371 _ ?side1 ?side2 ?side3 ?side4 A191.out).mono ?_
  (case side1 => repeat (first | exact (Kd.R_reads' HO360.out).2.2 | (with_reducible refine Kd.C_alloc ?_ _) | (with_reducible refine Kd.C_drewN ?_ _) | (with_reducible refine Kd.C_drew ?_)))
  (case side2 => exact (Kd.R_reads' HO360.out).2.1)
  (case side3 => repeat (first | exact (Kd.R_reads' HO363.out).2.2 | (with_reducible refine Kd.C_alloc ?_ _) | (with_reducible refine Kd.C_drewN ?_ _) | (with_reducible refine Kd.C_drew ?_)))
  (case side4 => exact (Kd.R_reads' HO363.out).2.1)
  rintro e w207 ⟨v372, rfl, ho0, hb⟩
  refine ⟨_, rfl, ?_⟩
  have HO373 := Aside0.mk (Kd.R_lower (Kd.R_new' (Kd.R_new' (Kd.R_new' ho0 (Kd.R_lt (by (with_reducible repeat (first | apply Kd.R_alloc | apply Kd.R_drewN | apply Kd.R_drew)); exact HO360.out))) (Kd.R_lt (by (with_reducible repeat (first | apply Kd.R_alloc | apply Kd.R_drewN | apply Kd.R_drew)); exact HO363.out))) (Kd.R_lt (by (with_reducible repeat (first | apply Kd.R_alloc | apply Kd.R_drewN | apply Kd.R_drew)); exact HO368.out))) (below_size (bz HB)))
  replace HO360 := Aside0.mk (Kd.R_elder' (by (with_reducible repeat (first | apply Kd.R_alloc | apply Kd.R_drewN | apply Kd.R_drew)); exact HO360.out) (Kd.R_base ho0) hb)
  replace HO363 := Aside0.mk (Kd.R_elder' (by (with_reducible repeat (first | apply Kd.R_alloc | apply Kd.R_drewN | apply Kd.R_drew)); exact HO363.out) (Kd.R_base ho0) hb)
  replace HO368 := Aside0.mk (Kd.R_elder' (by (with_reducible repeat (first | apply Kd.R_alloc | apply Kd.R_drewN | apply Kd.R_drew)); exact HO368.out) (Kd.R_base ho0) hb)
  replace BK364 := bk BK364 hb
  replace BK369 := bk BK369 hb
  replace HB := Aside0.mk (below_step (bz HB) hb)
  (try clear hb)
  (try clear hb2)
  (try clear hk)
  (try clear hi)
  (try clear ho0)
  refine hK.out _ _ ⟨(blk_cell BK364.out 0).trans rfl, (blk_cell BK369.out 0).trans rfl, (blk_cell BK369.out 1).trans rfl⟩ (fun hHeld => ?_)
  clear hK K
  refine norm_ (a' := ?_) ?_ ?_
  rotate_left
  · show Act.put _ (some 33) _ = _
    simp only [Act.put, List.setIfInBounds_toArray, List.set_cons_zero, List.set_cons_succ, i64_w, i32_w]
    rfl
  refine pure_ (i := 3) (N := some 34) (v := ?_) (a' := ?_) #[Y,Y,Y,Y,Y,Y,Z,Z,Z,Z,Z,Z,Z,Z,Z] rfl rfl (any_of HT_.out (by kernel_rfl)) (fun _ _ _ h => h) (Or.inl ⟨by rfl, ?_⟩) ?_ ?_
  rotate_left; (intro w'; go_simp; with_reducible rfl); rotate_left; (simp only [Act.put, List.setIfInBounds_toArray, List.set_cons_zero, List.set_cons_succ, i64_w, i32_w]; rfl)
  refine pure_ (i := 6) (N := some 37) (v := ?_) (a' := ?_) #[Y,Y,Y,Y,Y,Y,Y,Z,Z,Z,Z,Z,Z,Z,Z] rfl rfl (any_of HT_.out (by kernel_rfl)) (fun _ _ _ h => h) (Or.inl ⟨by rfl, ?_⟩) ?_ ?_
  rotate_left; (intro w'; go_simp; with_reducible rfl); rotate_left; (simp only [Act.put, List.setIfInBounds_toArray, List.set_cons_zero, List.set_cons_succ, i64_w, i32_w]; rfl)
  refine pure_ (i := 7) (N := some 38) (v := ?_) (a' := ?_) #[Y,Y,Y,Y,Y,Y,Y,Y,Z,Z,Z,Z,Z,Z,Z] rfl rfl (any_of HT_.out (by kernel_rfl)) (fun _ _ _ h => h) (Or.inl ⟨by rfl, ?_⟩) ?_ ?_
  rotate_left; (intro w'; go_simp; with_reducible rfl); rotate_left; (simp only [Act.put, List.setIfInBounds_toArray, List.set_cons_zero, List.set_cons_succ, i64_w, i32_w]; rfl)
  refine take_ (i := 8) (N := some 39) (v := ?_) (a' := ?_) #[Y,Y,Y,Y,Y,Y,Y,Y,Y,Z,Z,Z,Z,Z,Z] rfl rfl (take_ofW HT_.out HW_.out (by kernel_rfl)) (fun _ _ _ h => h) (Or.inl ⟨by rfl, ?_⟩) hHeld ?_ ?_
  rotate_left; (rintro w' ⟨s0, s1, s2⟩; go_simp; with_reducible rfl); rotate_left; (simp only [Act.put, List.setIfInBounds_toArray, List.set_cons_zero, List.set_cons_succ, i64_w, i32_w]; rfl)
  refine take_ (i := 10) (N := some 41) (v := ?_) (a' := ?_) #[Y,Y,Y,Y,Y,Y,Y,Y,Y,Z,Y,Z,Z,Z,Z] rfl rfl (take_ofW HT_.out HW_.out (by kernel_rfl)) (fun _ _ _ h => h) (Or.inl ⟨by rfl, ?_⟩) hHeld ?_ ?_
  rotate_left; (rintro w' ⟨s0, s1, s2⟩; go_simp; with_reducible rfl); rotate_left; (simp only [Act.put, List.setIfInBounds_toArray, List.set_cons_zero, List.set_cons_succ, i64_w, i32_w]; rfl)
  refine one_ (i := 9) (N := some 40) #[Y,Y,Y,Y,Y,Y,Y,Y,Y,Y,Y,Z,Z,Z,Z] rfl rfl (one_of HT_.out (by kernel_rfl)) (by decide) (fun K hK => ?_)
  refine goes_ Try.func55 (by kernel_rfl) rfl #[.agg #[.slice Ao197 t358.length co197]] (by rfl) rfl rfl (by (try simp only [List.map_toArray, List.map_cons, List.map_nil]); first | done | rfl | (simp only [List.length_drop, List.length_take]; rfl)) ?_
  with_reducible refine (impl_FileFault.calls _ _ t358 t374 _ ?side1 ?side2 A193.out).mono ?_
  (case side1 => repeat (first | exact (Kd.R_reads' HO360.out).2.2 | (with_reducible refine Kd.C_alloc ?_ _) | (with_reducible refine Kd.C_drewN ?_ _) | (with_reducible refine Kd.C_drew ?_)))
  (case side2 => exact (Kd.R_reads' HO360.out).2.1)
  rintro e w208 ⟨rfl, hb⟩
  refine ⟨_, rfl, ?_⟩
  replace HO360 := rb HO360 hb
  replace HO363 := rb HO363 hb
  replace HO368 := rb HO368 hb
  replace HO373 := rb HO373 hb
  replace BK364 := bk BK364 hb
  replace BK369 := bk BK369 hb
  replace HB := Aside0.mk (below_step (bz HB) hb)
  (try clear hb)
  (try clear hb2)
  (try clear hk)
  (try clear hi)
  refine hK.out _ _ ⟨(blk_cell BK364.out 0).trans rfl, (blk_cell BK369.out 0).trans rfl, (blk_cell BK369.out 1).trans rfl⟩ (fun hHeld => ?_)
  clear hK K
  refine norm_ (a' := ?_) ?_ ?_
  rotate_left
  · show Act.put _ (some 40) _ = _
    simp only [Act.put, List.setIfInBounds_toArray, List.set_cons_zero, List.set_cons_succ, i64_w, i32_w]
    rfl
  refine one_ (i := 11) (N := some 42) #[Y,Y,Y,Y,Y,Y,Y,Y,Y,Y,Y,Y,Z,Z,Z] rfl rfl (one_of HT_.out (by kernel_rfl)) (by decide) (fun K hK => ?_)
  refine goes_ Try.func56 (by kernel_rfl) rfl #[.agg #[.slice Ao197 t358.length co197]] (by rfl) rfl rfl (by (try simp only [List.map_toArray, List.map_cons, List.map_nil]); first | done | rfl | (simp only [List.length_drop, List.length_take]; rfl)) ?_
  with_reducible refine (spec_FileFault.calls _ _ t358 t375 _ ?side1 ?side2 A194.out).mono ?_
  (case side1 => repeat (first | exact (Kd.R_reads' HO360.out).2.2 | (with_reducible refine Kd.C_alloc ?_ _) | (with_reducible refine Kd.C_drewN ?_ _) | (with_reducible refine Kd.C_drew ?_)))
  (case side2 => exact (Kd.R_reads' HO360.out).2.1)
  rintro e w209 ⟨rfl, hb⟩
  refine ⟨_, rfl, ?_⟩
  replace HO360 := rb HO360 hb
  replace HO363 := rb HO363 hb
  replace HO368 := rb HO368 hb
  replace HO373 := rb HO373 hb
  replace BK364 := bk BK364 hb
  replace BK369 := bk BK369 hb
  replace HB := Aside0.mk (below_step (bz HB) hb)
  (try clear hb)
  (try clear hb2)
  (try clear hk)
  (try clear hi)
  refine hK.out _ _ ⟨(blk_cell BK364.out 0).trans rfl, (blk_cell BK369.out 0).trans rfl, (blk_cell BK369.out 1).trans rfl⟩ (fun hHeld => ?_)
  clear hK K
  refine norm_ (a' := ?_) ?_ ?_
  rotate_left
  · show Act.put _ (some 42) _ = _
    simp only [Act.put, List.setIfInBounds_toArray, List.set_cons_zero, List.set_cons_succ, i64_w, i32_w]
    rfl
  refine pure_ (i := 12) (N := some 43) (v := ?_) (a' := ?_) #[Y,Y,Y,Y,Y,Y,Y,Y,Y,Y,Y,Y,Y,Z,Z] rfl rfl (any_of HT_.out (by kernel_rfl)) (fun _ _ _ h => h) (Or.inl ⟨by rfl, ?_⟩) ?_ ?_
  rotate_left; (intro w'; go_simp; with_reducible rfl); rotate_left; (simp only [Act.put, List.setIfInBounds_toArray, List.set_cons_zero, List.set_cons_succ, i64_w, i32_w]; rfl)
  refine pure_ (i := 13) (N := some 44) (v := ?_) (a' := ?_) #[Y,Y,Y,Y,Y,Y,Y,Y,Y,Y,Y,Y,Y,Y,Z] rfl rfl (any_of HT_.out (by kernel_rfl)) (fun _ _ _ h => h) (Or.inl ⟨by rfl, ?_⟩) ?_ ?_
  rotate_left; (intro w'; go_simp; with_reducible rfl); rotate_left; (simp only [Act.put, List.setIfInBounds_toArray, List.set_cons_zero, List.set_cons_succ, i64_w, i32_w]; rfl)
  refine pure_ (i := 14) (N := some 2) (v := ?_) (a' := ?_) #[Y,Y,Y,Y,Y,Y,Y,Y,Y,Y,Y,Y,Y,Y,Y] rfl rfl (any_of HT_.out (by kernel_rfl)) (fun _ _ _ h => h) (Or.inl ⟨by rfl, ?_⟩) ?_ ?_
  rotate_left; (intro w'; go_simp; with_reducible rfl); rotate_left; (simp only [Act.put, List.setIfInBounds_toArray, List.set_cons_zero, List.set_cons_succ, i64_w, i32_w]; rfl)
  refine done_ (done_of HT_.out (by kernel_rfl)) ?_
  try go_wp2
  go_ret
  exact ⟨by first | rfl | (simp [errW_none, errW_some] <;> rfl) | (simp [*, errW_none, errW_some] <;> rfl), by repeat (first | (with_reducible first | exact HB.out | apply below_alloc | apply pw_below_drewN | apply below_drew1 | refine below_set ?_ GE364.out | refine below_set ?_ GE369.out) | exact HB.out)⟩
end Go.Proofs.Ytljpfppkpjodiaa.PFnFiles
