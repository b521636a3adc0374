/- Functions of the given program as plain Lean functions, each with a proof that the Go code answers just so; made by a program of this session out of the translation. Conditions: those that each theorem names. -/
import Derived.Test.YtljpfppkpjodiaaPFnExactExtendIndexx0
import Derived.Test.YtljpfppkpjodiaaPFnExactExtendIndexx1
import Derived.Test.YtljpfppkpjodiaaPFnExactExtendIndexx2
import Derived.Test.YtljpfppkpjodiaaPFnExactExtendIndexx4
import Derived.Test.YtljpfppkpjodiaaPFnExactExtendIndexx5
import Derived.Test.YtljpfppkpjodiaaPFnExactExtendIndexx6
namespace Go.Proofs.Ytljpfppkpjodiaa.PFnExactExtendIndex
open Go.RowKit Go.Proofs.YtljpfppkpjodiaaW.PrintWords Go.Proofs.YtljpfppkpjodiaaW.PrintLast Go.Proofs.YtljpfppkpjodiaaW.PrintMore
attribute [local go_sem] max2_int min2_int max_two min_two max_three min_three max_four min_four   -- for this text's walks alone
set_option linter.unusedVariables false
set_option linter.unusedSimpArgs false

/-! ### laws_FnExactExtendIndex: function 7 -/
def laws_FnExactExtendIndex.j0 : Nat → Bool → Int → List Int → Int → Int → List Int → Int → Int → Int → List Int → Int → Int → Int → Int → Int → List Int → Int → Int → Option (Bool)
  | 0, _, _, _, _, _, _, _, _, _, _, _, _, _, _, _, _, _, _ => none
  | k + 1, x63, x244000, x244001, x244002, x244003, x245000, x265000, x265001, x265002, x265003, x265004, x265005, x285000, x285001, x285002, x285003, x285004, x285005 => if x63 = true then (some false) else ((laws_markIndexResult.f k x285000 x285001 x285002 x285003 x285004 x285005 1).bind fun bt302 => ((laws_heldIndexResult.f k x285000 x285001 x285002 bt302.2 x285004 x285005 1).bind fun t304 => (if t304 < 0 then (some false) else (if t304 = bt302.1 then ((laws_toIndex.f k x244000 x244001 x244002 x244003).bind fun bt305 => ((laws_toFile.f k x245000).bind fun t311 => ((impl_ExtendIndex.f k bt305.1 bt305.2.1 bt305.2.2.1 bt305.2.2.2 t311).bind fun bt314 => ((laws_eqIndexResult.f k bt314.1 bt314.2.1 bt314.2.2.1 bt314.2.2.2.1 bt314.2.2.2.2.1 bt314.2.2.2.2.2 x265000 x265001 x265002 x265003 x265004 x265005).bind fun t323 => (if t323 = true then ((laws_heldIndexResult.f k x285000 x285001 x285002 bt302.2 x285004 x285005 1).bind fun t324 => (if t324 < 0 then (some false) else (if t324 = bt302.1 then (some true) else (some false)))) else (some false)))))) else (some false)))))
def laws_FnExactExtendIndex.f (k : Nat) (a0_0 : Int) (l0_1 : List Int) (a0_2 : Int) (a0_3 : Int) (l1_0 : List Int) : Option (Bool) := (laws_szIndex.f a0_0 l0_1 a0_2 a0_3 1048576).bind fun t245 => (if t245 < 0 then (some true) else ((laws_szFile.f l1_0 t245).bind fun t246 => (if t246 < 0 then (some true) else ((laws_toIndex.f k a0_0 l0_1 a0_2 a0_3).bind fun bt247 => ((laws_toFile.f k l1_0).bind fun t253 => ((spec_ExtendIndex.f k bt247.1 bt247.2.1 bt247.2.2.1 bt247.2.2.2 t253).bind fun bt256 => ((laws_toIndex.f k a0_0 l0_1 a0_2 a0_3).bind fun bt265 => ((laws_toFile.f k l1_0).bind fun t272 => ((impl_ExtendIndex.f k bt265.1 bt265.2.1 bt265.2.2.1 bt265.2.2.2 t272).bind fun bt276 => ((laws_eqIndexResult.f k bt276.1 bt276.2.1 bt276.2.2.1 bt276.2.2.2.1 bt276.2.2.2.2.1 bt276.2.2.2.2.2 bt256.1 bt256.2.1 bt256.2.2.1 bt256.2.2.2.1 bt256.2.2.2.2.1 bt256.2.2.2.2.2).bind fun t285 => (if t285 = true then ((laws_toIndex.f k a0_0 l0_1 a0_2 a0_3).bind fun bt286 => ((laws_eqIndex.f k bt265.1 bt265.2.1 bt265.2.2.1 bt265.2.2.2 bt286.1 bt286.2.1 bt286.2.2.1 bt286.2.2.2).bind fun t292 => (if t292 = true then ((laws_toFile.f k l1_0).bind fun t293 => ((laws_eqFile.f k t272 t293).bind fun t296 => (if t296 = true then ((laws_markIndex.f k bt265.1 bt265.2.1 bt265.2.2.1 bt265.2.2.2 1).bind fun bt297 => ((laws_markFile.f k t272 bt297.1).bind fun bt299 => (if bt299.1 < 0 then (laws_FnExactExtendIndex.j0 k true a0_0 l0_1 a0_2 a0_3 l1_0 bt256.1 bt256.2.1 bt256.2.2.1 bt256.2.2.2.1 bt256.2.2.2.2.1 bt256.2.2.2.2.2 bt276.1 bt276.2.1 bt276.2.2.1 bt276.2.2.2.1 bt276.2.2.2.2.1 bt276.2.2.2.2.2) else ((laws_eqIndexResult.f k bt276.1 bt276.2.1 bt276.2.2.1 bt276.2.2.2.1 bt276.2.2.2.2.1 bt276.2.2.2.2.2 bt256.1 bt256.2.1 bt256.2.2.1 bt256.2.2.2.1 bt256.2.2.2.2.1 bt256.2.2.2.2.2).bind fun t301 => (laws_FnExactExtendIndex.j0 k (!t301) a0_0 l0_1 a0_2 a0_3 l1_0 bt256.1 bt256.2.1 bt256.2.2.1 bt256.2.2.2.1 bt256.2.2.2.2.1 bt256.2.2.2.2.2 bt276.1 bt276.2.1 bt276.2.2.1 bt276.2.2.2.1 bt276.2.2.2.2.1 bt276.2.2.2.2.2))))) else (some false)))) else (some false)))) else (some false))))))))))))
theorem laws_FnExactExtendIndex.mono_l : ∀ k, (∀ y0 y1 y2 y3 y4 y5 y6 y7 y8 y9 y10 y11 y12 y13 y14 y15 y16 y17, LeO (laws_FnExactExtendIndex.j0 k y0 y1 y2 y3 y4 y5 y6 y7 y8 y9 y10 y11 y12 y13 y14 y15 y16 y17) (laws_FnExactExtendIndex.j0 (k + 1) y0 y1 y2 y3 y4 y5 y6 y7 y8 y9 y10 y11 y12 y13 y14 y15 y16 y17))
  | 0 => fun _ _ _ _ _ _ _ _ _ _ _ _ _ _ _ _ _ _ r h => by simp [laws_FnExactExtendIndex.j0] at h
  | k + 1 => by
    have ih0 := laws_FnExactExtendIndex.mono_l k
    · intro y0 y1 y2 y3 y4 y5 y6 y7 y8 y9 y10 y11 y12 y13 y14 y15 y16 y17
      unfold laws_FnExactExtendIndex.j0
      repeat' first
      | (with_reducible exact ih0 _ _ _ _ _ _ _ _ _ _ _ _ _ _ _ _ _ _)
      | (with_reducible exact impl_ExtendIndex.mono _ _ _ _ _ _)
      | (with_reducible exact laws_eqFile.mono _ _ _)
      | (with_reducible exact laws_eqIndex.mono _ _ _ _ _ _ _ _ _)
      | (with_reducible exact laws_eqIndexResult.mono _ _ _ _ _ _ _ _ _ _ _ _ _)
      | (with_reducible exact laws_heldIndexResult.mono _ _ _ _ _ _ _ _)
      | (with_reducible exact laws_markFile.mono _ _ _)
      | (with_reducible exact laws_markIndex.mono _ _ _ _ _ _)
      | (with_reducible exact laws_markIndexResult.mono _ _ _ _ _ _ _ _)
      | (with_reducible exact laws_toFile.mono _ _)
      | (with_reducible exact laws_toIndex.mono _ _ _ _ _)
      | (with_reducible exact spec_ExtendIndex.mono _ _ _ _ _ _)
      | (with_reducible exact LeO.refl _)
      | (with_reducible exact LeO.none _)
      | (with_reducible refine LeO.ite ?_ ?_)
      | (with_reducible refine LeO.bind ?_ (fun _ => ?_))
      | exact ih0 _ _ _ _ _ _ _ _ _ _ _ _ _ _ _ _ _ _
      | exact impl_ExtendIndex.mono _ _ _ _ _ _
      | exact laws_eqFile.mono _ _ _
      | exact laws_eqIndex.mono _ _ _ _ _ _ _ _ _
      | exact laws_eqIndexResult.mono _ _ _ _ _ _ _ _ _ _ _ _ _
      | exact laws_heldIndexResult.mono _ _ _ _ _ _ _ _
      | exact laws_markFile.mono _ _ _
      | exact laws_markIndex.mono _ _ _ _ _ _
      | exact laws_markIndexResult.mono _ _ _ _ _ _ _ _
      | exact laws_toFile.mono _ _
      | exact laws_toIndex.mono _ _ _ _ _
      | exact spec_ExtendIndex.mono _ _ _ _ _ _
      | exact LeO.none _
      | refine LeO.ite ?_ ?_
      | refine LeO.bind ?_ (fun _ => ?_)
theorem laws_FnExactExtendIndex.mono : ∀ a0 a1 a2 a3 a4 k, LeO (laws_FnExactExtendIndex.f k a0 a1 a2 a3 a4) (laws_FnExactExtendIndex.f (k + 1) a0 a1 a2 a3 a4) := by
  intro a0 a1 a2 a3 a4 k
  have ih0 := laws_FnExactExtendIndex.mono_l k
  unfold laws_FnExactExtendIndex.f
  repeat' first
      | (with_reducible exact ih0 _ _ _ _ _ _ _ _ _ _ _ _ _ _ _ _ _ _)
      | (with_reducible exact impl_ExtendIndex.mono _ _ _ _ _ _)
      | (with_reducible exact laws_eqFile.mono _ _ _)
      | (with_reducible exact laws_eqIndex.mono _ _ _ _ _ _ _ _ _)
      | (with_reducible exact laws_eqIndexResult.mono _ _ _ _ _ _ _ _ _ _ _ _ _)
      | (with_reducible exact laws_heldIndexResult.mono _ _ _ _ _ _ _ _)
      | (with_reducible exact laws_markFile.mono _ _ _)
      | (with_reducible exact laws_markIndex.mono _ _ _ _ _ _)
      | (with_reducible exact laws_markIndexResult.mono _ _ _ _ _ _ _ _)
      | (with_reducible exact laws_toFile.mono _ _)
      | (with_reducible exact laws_toIndex.mono _ _ _ _ _)
      | (with_reducible exact spec_ExtendIndex.mono _ _ _ _ _ _)
      | (with_reducible exact LeO.refl _)
      | (with_reducible exact LeO.none _)
      | (with_reducible refine LeO.ite ?_ ?_)
      | (with_reducible refine LeO.bind ?_ (fun _ => ?_))
      | exact ih0 _ _ _ _ _ _ _ _ _ _ _ _ _ _ _ _ _ _
      | exact impl_ExtendIndex.mono _ _ _ _ _ _
      | exact laws_eqFile.mono _ _ _
      | exact laws_eqIndex.mono _ _ _ _ _ _ _ _ _
      | exact laws_eqIndexResult.mono _ _ _ _ _ _ _ _ _ _ _ _ _
      | exact laws_heldIndexResult.mono _ _ _ _ _ _ _ _
      | exact laws_markFile.mono _ _ _
      | exact laws_markIndex.mono _ _ _ _ _ _
      | exact laws_markIndexResult.mono _ _ _ _ _ _ _ _
      | exact laws_toFile.mono _ _
      | exact laws_toIndex.mono _ _ _ _ _
      | exact spec_ExtendIndex.mono _ _ _ _ _ _
      | exact LeO.none _
      | refine LeO.ite ?_ ?_
      | refine LeO.bind ?_ (fun _ => ?_)
set_option maxHeartbeats 8000000 in
set_option maxRecDepth 100000 in
theorem laws_FnExactExtendIndex.calls (k : Nat) (a0_0 : Int) (A0_1 : Option Addr) (c0_1 : Nat) (l0_1 : List Int) (a0_2 : Int) (a0_3 : Int) (A1_0 : Option Addr) (c1_0 : Nat) (l1_0 : List Int) (r : Bool) (w : World) (hr0_1 : Kd.C (Kd.int .i64) w A0_1 l0_1.length l0_1) (hc0_1 : l0_1.length ≤ c0_1) (hr1_0 : Kd.C (Kd.int .u8) w A1_0 l1_0.length l1_0) (hc1_0 : l1_0.length ≤ c1_0) (HT : Aside0 (r = true)) (h : laws_FnExactExtendIndex.f k a0_0 l0_1 a0_2 a0_3 l1_0 = some r) :
    Calls Try.prog 7 #[.agg #[.int .i64 a0_0, .slice A0_1 l0_1.length c0_1, .int .i64 a0_2, .int .i64 a0_3], .agg #[.slice A1_0 l1_0.length c1_0]] w fun e w' => e = .returned (.bool r) ∧ Below w.heap.size w w' := by
  have hu24 := Try.underlying24
  have hu42 := Try.underlying42
  have hu32 := Try.underlying32
  have hu27 := Try.underlying27
  have hu45 := Try.underlying45
  have HR0_1 := Aside0.mk hr0_1
  have HC0_1 := Aside0.mk hc0_1
  clear hr0_1 hc0_1
  have HR1_0 := Aside0.mk hr1_0
  have HC1_0 := Aside0.mk hc1_0
  clear hr1_0 hc1_0
  have HB := Aside0.mk (Below.refl w.heap.size w)
  have H : ((laws_szIndex.f a0_0 l0_1 a0_2 a0_3 1048576).bind fun t245 => (if t245 < 0 then (some true) else ((laws_szFile.f l1_0 t245).bind fun t246 => (if t246 < 0 then (some true) else ((laws_toIndex.f k a0_0 l0_1 a0_2 a0_3).bind fun bt247 => ((laws_toFile.f k l1_0).bind fun t253 => ((spec_ExtendIndex.f k bt247.1 bt247.2.1 bt247.2.2.1 bt247.2.2.2 t253).bind fun bt256 => ((laws_toIndex.f k a0_0 l0_1 a0_2 a0_3).bind fun bt265 => ((laws_toFile.f k l1_0).bind fun t272 => ((impl_ExtendIndex.f k bt265.1 bt265.2.1 bt265.2.2.1 bt265.2.2.2 t272).bind fun bt276 => ((laws_eqIndexResult.f k bt276.1 bt276.2.1 bt276.2.2.1 bt276.2.2.2.1 bt276.2.2.2.2.1 bt276.2.2.2.2.2 bt256.1 bt256.2.1 bt256.2.2.1 bt256.2.2.2.1 bt256.2.2.2.2.1 bt256.2.2.2.2.2).bind fun t285 => (if t285 = true then ((laws_toIndex.f k a0_0 l0_1 a0_2 a0_3).bind fun bt286 => ((laws_eqIndex.f k bt265.1 bt265.2.1 bt265.2.2.1 bt265.2.2.2 bt286.1 bt286.2.1 bt286.2.2.1 bt286.2.2.2).bind fun t292 => (if t292 = true then ((laws_toFile.f k l1_0).bind fun t293 => ((laws_eqFile.f k t272 t293).bind fun t296 => (if t296 = true then ((laws_markIndex.f k bt265.1 bt265.2.1 bt265.2.2.1 bt265.2.2.2 1).bind fun bt297 => ((laws_markFile.f k t272 bt297.1).bind fun bt299 => (if bt299.1 < 0 then (laws_FnExactExtendIndex.j0 k true a0_0 l0_1 a0_2 a0_3 l1_0 bt256.1 bt256.2.1 bt256.2.2.1 bt256.2.2.2.1 bt256.2.2.2.2.1 bt256.2.2.2.2.2 bt276.1 bt276.2.1 bt276.2.2.1 bt276.2.2.2.1 bt276.2.2.2.2.1 bt276.2.2.2.2.2) else ((laws_eqIndexResult.f k bt276.1 bt276.2.1 bt276.2.2.1 bt276.2.2.2.1 bt276.2.2.2.2.1 bt276.2.2.2.2.2 bt256.1 bt256.2.1 bt256.2.2.1 bt256.2.2.2.1 bt256.2.2.2.2.1 bt256.2.2.2.2.2).bind fun t301 => (laws_FnExactExtendIndex.j0 k (!t301) a0_0 l0_1 a0_2 a0_3 l1_0 bt256.1 bt256.2.1 bt256.2.2.1 bt256.2.2.2.1 bt256.2.2.2.2.1 bt256.2.2.2.2.2 bt276.1 bt276.2.1 bt276.2.2.1 bt276.2.2.2.1 bt276.2.2.2.2.1 bt276.2.2.2.2.2))))) else (some false)))) else (some false)))) else (some false))))))))))))) = some r := h
  clear h
  replace H := Option.bind_eq_some_iff.mp H
  obtain ⟨t245, A30, H⟩ := H
  replace H : (if t245 < 0 then (some true) else ((laws_szFile.f l1_0 t245).bind fun t246 => (if t246 < 0 then (some true) else ((laws_toIndex.f k a0_0 l0_1 a0_2 a0_3).bind fun bt247 => ((laws_toFile.f k l1_0).bind fun t253 => ((spec_ExtendIndex.f k bt247.1 bt247.2.1 bt247.2.2.1 bt247.2.2.2 t253).bind fun bt256 => ((laws_toIndex.f k a0_0 l0_1 a0_2 a0_3).bind fun bt265 => ((laws_toFile.f k l1_0).bind fun t272 => ((impl_ExtendIndex.f k bt265.1 bt265.2.1 bt265.2.2.1 bt265.2.2.2 t272).bind fun bt276 => ((laws_eqIndexResult.f k bt276.1 bt276.2.1 bt276.2.2.1 bt276.2.2.2.1 bt276.2.2.2.2.1 bt276.2.2.2.2.2 bt256.1 bt256.2.1 bt256.2.2.1 bt256.2.2.2.1 bt256.2.2.2.2.1 bt256.2.2.2.2.2).bind fun t285 => (if t285 = true then ((laws_toIndex.f k a0_0 l0_1 a0_2 a0_3).bind fun bt286 => ((laws_eqIndex.f k bt265.1 bt265.2.1 bt265.2.2.1 bt265.2.2.2 bt286.1 bt286.2.1 bt286.2.2.1 bt286.2.2.2).bind fun t292 => (if t292 = true then ((laws_toFile.f k l1_0).bind fun t293 => ((laws_eqFile.f k t272 t293).bind fun t296 => (if t296 = true then ((laws_markIndex.f k bt265.1 bt265.2.1 bt265.2.2.1 bt265.2.2.2 1).bind fun bt297 => ((laws_markFile.f k t272 bt297.1).bind fun bt299 => (if bt299.1 < 0 then (laws_FnExactExtendIndex.j0 k true a0_0 l0_1 a0_2 a0_3 l1_0 bt256.1 bt256.2.1 bt256.2.2.1 bt256.2.2.2.1 bt256.2.2.2.2.1 bt256.2.2.2.2.2 bt276.1 bt276.2.1 bt276.2.2.1 bt276.2.2.2.1 bt276.2.2.2.2.1 bt276.2.2.2.2.2) else ((laws_eqIndexResult.f k bt276.1 bt276.2.1 bt276.2.2.1 bt276.2.2.2.1 bt276.2.2.2.2.1 bt276.2.2.2.2.2 bt256.1 bt256.2.1 bt256.2.2.1 bt256.2.2.2.1 bt256.2.2.2.2.1 bt256.2.2.2.2.2).bind fun t301 => (laws_FnExactExtendIndex.j0 k (!t301) a0_0 l0_1 a0_2 a0_3 l1_0 bt256.1 bt256.2.1 bt256.2.2.1 bt256.2.2.2.1 bt256.2.2.2.2.1 bt256.2.2.2.2.2 bt276.1 bt276.2.1 bt276.2.2.1 bt276.2.2.2.1 bt276.2.2.2.2.1 bt276.2.2.2.2.2))))) else (some false)))) else (some false)))) else (some false)))))))))))) = some r := H
  have A3 := Aside0.mk A30
  clear A30
  by_cases c4 : t245 < 0
  · rw [if_pos c4] at H
    have c4b0 : decide (t245 < 0) = true := decide_eq_true c4
    clear c4
    obtain rfl := Option.some.inj H
    go_enter Try.func7, Try.ntmps7
    go_wp2_with (first | ((with_reducible refine gate_dst (N := 2) rfl ?_); refine box_event ?hg (N := 2) ?hd (cs := #[.int .i64 a0_0, .slice A0_1 l0_1.length c0_1, .int .i64 a0_2, .int .i64 a0_3]) (t := 24) ?hr ?_; (case hd => rfl); (case hg => rfl); (case hr => first | (go_simp; done) | (go_simp; rfl)); intro gb243 hg w5 hbox hb; have BK243 := Aside0.mk (hbox); have GW243 := Aside0.mk ((by rw [hg]; exact (below_size (bz HB)) : w.heap.size ≤ gb243)); have GE243 := Aside0.mk ((by rw [hg]; exact (below_size (bz HB)) : w.heap.size ≤ gb243)); replace HB := Aside0.mk (below_step (bz HB) hb); clear hb hbox hg) | ((with_reducible refine gate_dst (N := 3) rfl ?_); refine box_event ?hg (N := 3) ?hd (cs := #[.slice A1_0 l1_0.length c1_0]) (t := 42) ?hr ?_; (case hd => rfl); (case hg => rfl); (case hr => first | (go_simp; done) | (go_simp; rfl)); intro gb244 hg w6 hbox hb; have BK244 := Aside0.mk (hbox); have GW244 := Aside0.mk ((by rw [hg]; exact (below_size (bz HB)) : w.heap.size ≤ gb244)); have GE244 := Aside0.mk ((by rw [hg]; exact (below_size (bz HB)) : w.heap.size ≤ gb244)); replace HB := Aside0.mk (below_step (bz HB) hb); have NB243_244 := nb BK243 hg; have NB244_243 := nc BK243 hg; replace BK243 := bk BK243 hb; clear hb hbox hg; have hnb7 := NB243_244.out; have hnc7 := NB244_243.out; have hcz8_0 : w6.cell? ⟨gb243, 0, none⟩ = some (.int .i64 a0_0) := (blk_cell BK243.out 0).trans rfl; have hcz8_1 : w6.cell? ⟨gb243, 1, none⟩ = some (.slice A0_1 l0_1.length c0_1) := (blk_cell BK243.out 1).trans rfl; have hcz8_2 : w6.cell? ⟨gb243, 2, none⟩ = some (.int .i64 a0_2) := (blk_cell BK243.out 2).trans rfl; have hcz8_3 : w6.cell? ⟨gb243, 3, none⟩ = some (.int .i64 a0_3) := (blk_cell BK243.out 3).trans rfl; have hfz8_0 := blk_frozen BK243.out 0; have hfz8_1 := blk_frozen BK243.out 1; have hfz8_2 := blk_frozen BK243.out 2; have hfz8_3 := blk_frozen BK243.out 3) | ((with_reducible refine gate_callee (f := 12) rfl ?_); refine goesL_ (some 16) rfl rfl Try.func12 (by kernel_rfl) rfl #[.agg #[.int .i64 a0_0, .slice A0_1 l0_1.length c0_1, .int .i64 a0_2, .int .i64 a0_3], .int .i64 1048576] rfl (by (try simp only [List.map_toArray, List.map_cons, List.map_nil]); first | done | rfl | (simp only [List.length_drop, List.length_take]; rfl)) ?_; (with_reducible refine (laws_szIndex.calls a0_0 _ _ l0_1 a0_2 a0_3 1048576 t245 _ ?side1 ?side2 A3.out).mono ?_); (case side1 => repeat (first | exact (Kd.C_below HR0_1.out HB.out) | (with_reducible refine Kd.C_alloc ?_ _) | (with_reducible refine Kd.C_drewN ?_ _) | (with_reducible refine Kd.C_drew ?_))); (case side2 => exact HC0_1.out); rintro e w9 ⟨rfl, hb⟩; refine ⟨_, rfl, ?_⟩; replace BK243 := bk BK243 hb; replace BK244 := bk BK244 hb; replace HB := Aside0.mk (below_step (bz HB) hb); (try clear hb); (try clear hb2); (try clear hk); (try clear hi)))
    go_ret
    exact ⟨by first | rfl | (simp [errW_none, errW_some] <;> rfl) | (simp [*, errW_none, errW_some] <;> rfl), by repeat (first | (with_reducible first | exact HB.out | apply below_alloc | apply pw_below_drewN | apply below_drew1 | refine below_set ?_ GE243.out | refine below_set ?_ GE244.out) | exact HB.out)⟩
  · rw [if_neg c4] at H
    have c4b0 : decide (t245 < 0) = false := decide_eq_false c4
    clear c4
    replace H := Option.bind_eq_some_iff.mp H
    obtain ⟨t246, A100, H⟩ := H
    replace H : (if t246 < 0 then (some true) else ((laws_toIndex.f k a0_0 l0_1 a0_2 a0_3).bind fun bt247 => ((laws_toFile.f k l1_0).bind fun t253 => ((spec_ExtendIndex.f k bt247.1 bt247.2.1 bt247.2.2.1 bt247.2.2.2 t253).bind fun bt256 => ((laws_toIndex.f k a0_0 l0_1 a0_2 a0_3).bind fun bt265 => ((laws_toFile.f k l1_0).bind fun t272 => ((impl_ExtendIndex.f k bt265.1 bt265.2.1 bt265.2.2.1 bt265.2.2.2 t272).bind fun bt276 => ((laws_eqIndexResult.f k bt276.1 bt276.2.1 bt276.2.2.1 bt276.2.2.2.1 bt276.2.2.2.2.1 bt276.2.2.2.2.2 bt256.1 bt256.2.1 bt256.2.2.1 bt256.2.2.2.1 bt256.2.2.2.2.1 bt256.2.2.2.2.2).bind fun t285 => (if t285 = true then ((laws_toIndex.f k a0_0 l0_1 a0_2 a0_3).bind fun bt286 => ((laws_eqIndex.f k bt265.1 bt265.2.1 bt265.2.2.1 bt265.2.2.2 bt286.1 bt286.2.1 bt286.2.2.1 bt286.2.2.2).bind fun t292 => (if t292 = true then ((laws_toFile.f k l1_0).bind fun t293 => ((laws_eqFile.f k t272 t293).bind fun t296 => (if t296 = true then ((laws_markIndex.f k bt265.1 bt265.2.1 bt265.2.2.1 bt265.2.2.2 1).bind fun bt297 => ((laws_markFile.f k t272 bt297.1).bind fun bt299 => (if bt299.1 < 0 then (laws_FnExactExtendIndex.j0 k true a0_0 l0_1 a0_2 a0_3 l1_0 bt256.1 bt256.2.1 bt256.2.2.1 bt256.2.2.2.1 bt256.2.2.2.2.1 bt256.2.2.2.2.2 bt276.1 bt276.2.1 bt276.2.2.1 bt276.2.2.2.1 bt276.2.2.2.2.1 bt276.2.2.2.2.2) else ((laws_eqIndexResult.f k bt276.1 bt276.2.1 bt276.2.2.1 bt276.2.2.2.1 bt276.2.2.2.2.1 bt276.2.2.2.2.2 bt256.1 bt256.2.1 bt256.2.2.1 bt256.2.2.2.1 bt256.2.2.2.2.1 bt256.2.2.2.2.2).bind fun t301 => (laws_FnExactExtendIndex.j0 k (!t301) a0_0 l0_1 a0_2 a0_3 l1_0 bt256.1 bt256.2.1 bt256.2.2.1 bt256.2.2.2.1 bt256.2.2.2.2.1 bt256.2.2.2.2.2 bt276.1 bt276.2.1 bt276.2.2.1 bt276.2.2.2.1 bt276.2.2.2.2.1 bt276.2.2.2.2.2))))) else (some false)))) else (some false)))) else (some false)))))))))) = some r := H
    have A10 := Aside0.mk A100
    clear A100
    by_cases c11 : t246 < 0
    · rw [if_pos c11] at H
      have c11b0 : decide (t246 < 0) = true := decide_eq_true c11
      clear c11
      obtain rfl := Option.some.inj H
      go_enter Try.func7, Try.ntmps7
      go_wp2_with (first | ((with_reducible refine gate_dst (N := 2) rfl ?_); refine box_event ?hg (N := 2) ?hd (cs := #[.int .i64 a0_0, .slice A0_1 l0_1.length c0_1, .int .i64 a0_2, .int .i64 a0_3]) (t := 24) ?hr ?_; (case hd => rfl); (case hg => rfl); (case hr => first | (go_simp; done) | (go_simp; rfl)); intro gb243 hg w12 hbox hb; have BK243 := Aside0.mk (hbox); have GW243 := Aside0.mk ((by rw [hg]; exact (below_size (bz HB)) : w.heap.size ≤ gb243)); have GE243 := Aside0.mk ((by rw [hg]; exact (below_size (bz HB)) : w.heap.size ≤ gb243)); replace HB := Aside0.mk (below_step (bz HB) hb); clear hb hbox hg) | ((with_reducible refine gate_dst (N := 3) rfl ?_); refine box_event ?hg (N := 3) ?hd (cs := #[.slice A1_0 l1_0.length c1_0]) (t := 42) ?hr ?_; (case hd => rfl); (case hg => rfl); (case hr => first | (go_simp; done) | (go_simp; rfl)); intro gb244 hg w13 hbox hb; have BK244 := Aside0.mk (hbox); have GW244 := Aside0.mk ((by rw [hg]; exact (below_size (bz HB)) : w.heap.size ≤ gb244)); have GE244 := Aside0.mk ((by rw [hg]; exact (below_size (bz HB)) : w.heap.size ≤ gb244)); replace HB := Aside0.mk (below_step (bz HB) hb); have NB243_244 := nb BK243 hg; have NB244_243 := nc BK243 hg; replace BK243 := bk BK243 hb; clear hb hbox hg; have hnb14 := NB243_244.out; have hnc14 := NB244_243.out; have hcz15_0 : w13.cell? ⟨gb243, 0, none⟩ = some (.int .i64 a0_0) := (blk_cell BK243.out 0).trans rfl; have hcz15_1 : w13.cell? ⟨gb243, 1, none⟩ = some (.slice A0_1 l0_1.length c0_1) := (blk_cell BK243.out 1).trans rfl; have hcz15_2 : w13.cell? ⟨gb243, 2, none⟩ = some (.int .i64 a0_2) := (blk_cell BK243.out 2).trans rfl; have hcz15_3 : w13.cell? ⟨gb243, 3, none⟩ = some (.int .i64 a0_3) := (blk_cell BK243.out 3).trans rfl; have hfz15_0 := blk_frozen BK243.out 0; have hfz15_1 := blk_frozen BK243.out 1; have hfz15_2 := blk_frozen BK243.out 2; have hfz15_3 := blk_frozen BK243.out 3) | ((with_reducible refine gate_callee (f := 12) rfl ?_); refine goesL_ (some 16) rfl rfl Try.func12 (by kernel_rfl) rfl #[.agg #[.int .i64 a0_0, .slice A0_1 l0_1.length c0_1, .int .i64 a0_2, .int .i64 a0_3], .int .i64 1048576] rfl (by (try simp only [List.map_toArray, List.map_cons, List.map_nil]); first | done | rfl | (simp only [List.length_drop, List.length_take]; rfl)) ?_; (with_reducible refine (laws_szIndex.calls a0_0 _ _ l0_1 a0_2 a0_3 1048576 t245 _ ?side1 ?side2 A3.out).mono ?_); (case side1 => repeat (first | exact (Kd.C_below HR0_1.out HB.out) | (with_reducible refine Kd.C_alloc ?_ _) | (with_reducible refine Kd.C_drewN ?_ _) | (with_reducible refine Kd.C_drew ?_))); (case side2 => exact HC0_1.out); rintro e w16 ⟨rfl, hb⟩; refine ⟨_, rfl, ?_⟩; replace BK243 := bk BK243 hb; replace BK244 := bk BK244 hb; replace HB := Aside0.mk (below_step (bz HB) hb); (try clear hb); (try clear hb2); (try clear hk); (try clear hi); have hcz17_0 : w16.cell? ⟨gb244, 0, none⟩ = some (.slice A1_0 l1_0.length c1_0) := (blk_cell BK244.out 0).trans rfl; have hfz17_0 := blk_frozen BK244.out 0) | ((with_reducible refine gate_callee (f := 25) rfl ?_); refine goesL_ (some 21) rfl rfl Try.func25 (by kernel_rfl) rfl #[.agg #[.slice A1_0 l1_0.length c1_0], .int .i64 t245] rfl (by (try simp only [List.map_toArray, List.map_cons, List.map_nil]); first | done | rfl | (simp only [List.length_drop, List.length_take]; rfl)) ?_; (with_reducible refine (laws_szFile.calls _ _ l1_0 t245 t246 _ ?side1 ?side2 A10.out).mono ?_); (case side1 => repeat (first | exact (Kd.C_below HR1_0.out HB.out) | (with_reducible refine Kd.C_alloc ?_ _) | (with_reducible refine Kd.C_drewN ?_ _) | (with_reducible refine Kd.C_drew ?_))); (case side2 => exact HC1_0.out); rintro e w18 ⟨rfl, hb⟩; refine ⟨_, rfl, ?_⟩; replace BK243 := bk BK243 hb; replace BK244 := bk BK244 hb; replace HB := Aside0.mk (below_step (bz HB) hb); (try clear hb); (try clear hb2); (try clear hk); (try clear hi)))
      go_ret
      exact ⟨by first | rfl | (simp [errW_none, errW_some] <;> rfl) | (simp [*, errW_none, errW_some] <;> rfl), by repeat (first | (with_reducible first | exact HB.out | apply below_alloc | apply pw_below_drewN | apply below_drew1 | refine below_set ?_ GE243.out | refine below_set ?_ GE244.out) | exact HB.out)⟩
    · rw [if_neg c11] at H
      have c11b0 : decide (t246 < 0) = false := decide_eq_false c11
      clear c11
      replace H := Option.bind_eq_some_iff.mp H
      obtain ⟨⟨t247, t248, t251, t252⟩, A190, H⟩ := H
      replace H : ((laws_toFile.f k l1_0).bind fun t253 => ((spec_ExtendIndex.f k t247 t248 t251 t252 t253).bind fun bt256 => ((laws_toIndex.f k a0_0 l0_1 a0_2 a0_3).bind fun bt265 => ((laws_toFile.f k l1_0).bind fun t272 => ((impl_ExtendIndex.f k bt265.1 bt265.2.1 bt265.2.2.1 bt265.2.2.2 t272).bind fun bt276 => ((laws_eqIndexResult.f k bt276.1 bt276.2.1 bt276.2.2.1 bt276.2.2.2.1 bt276.2.2.2.2.1 bt276.2.2.2.2.2 bt256.1 bt256.2.1 bt256.2.2.1 bt256.2.2.2.1 bt256.2.2.2.2.1 bt256.2.2.2.2.2).bind fun t285 => (if t285 = true then ((laws_toIndex.f k a0_0 l0_1 a0_2 a0_3).bind fun bt286 => ((laws_eqIndex.f k bt265.1 bt265.2.1 bt265.2.2.1 bt265.2.2.2 bt286.1 bt286.2.1 bt286.2.2.1 bt286.2.2.2).bind fun t292 => (if t292 = true then ((laws_toFile.f k l1_0).bind fun t293 => ((laws_eqFile.f k t272 t293).bind fun t296 => (if t296 = true then ((laws_markIndex.f k bt265.1 bt265.2.1 bt265.2.2.1 bt265.2.2.2 1).bind fun bt297 => ((laws_markFile.f k t272 bt297.1).bind fun bt299 => (if bt299.1 < 0 then (laws_FnExactExtendIndex.j0 k true a0_0 l0_1 a0_2 a0_3 l1_0 bt256.1 bt256.2.1 bt256.2.2.1 bt256.2.2.2.1 bt256.2.2.2.2.1 bt256.2.2.2.2.2 bt276.1 bt276.2.1 bt276.2.2.1 bt276.2.2.2.1 bt276.2.2.2.2.1 bt276.2.2.2.2.2) else ((laws_eqIndexResult.f k bt276.1 bt276.2.1 bt276.2.2.1 bt276.2.2.2.1 bt276.2.2.2.2.1 bt276.2.2.2.2.2 bt256.1 bt256.2.1 bt256.2.2.1 bt256.2.2.2.1 bt256.2.2.2.2.1 bt256.2.2.2.2.2).bind fun t301 => (laws_FnExactExtendIndex.j0 k (!t301) a0_0 l0_1 a0_2 a0_3 l1_0 bt256.1 bt256.2.1 bt256.2.2.1 bt256.2.2.2.1 bt256.2.2.2.2.1 bt256.2.2.2.2.2 bt276.1 bt276.2.1 bt276.2.2.1 bt276.2.2.2.1 bt276.2.2.2.2.1 bt276.2.2.2.2.2))))) else (some false)))) else (some false)))) else (some false)))))))) = some r := H
      have A19 := Aside0.mk A190
      clear A190
      replace H := Option.bind_eq_some_iff.mp H
      obtain ⟨t253, A200, H⟩ := H
      replace H : ((spec_ExtendIndex.f k t247 t248 t251 t252 t253).bind fun bt256 => ((laws_toIndex.f k a0_0 l0_1 a0_2 a0_3).bind fun bt265 => ((laws_toFile.f k l1_0).bind fun t272 => ((impl_ExtendIndex.f k bt265.1 bt265.2.1 bt265.2.2.1 bt265.2.2.2 t272).bind fun bt276 => ((laws_eqIndexResult.f k bt276.1 bt276.2.1 bt276.2.2.1 bt276.2.2.2.1 bt276.2.2.2.2.1 bt276.2.2.2.2.2 bt256.1 bt256.2.1 bt256.2.2.1 bt256.2.2.2.1 bt256.2.2.2.2.1 bt256.2.2.2.2.2).bind fun t285 => (if t285 = true then ((laws_toIndex.f k a0_0 l0_1 a0_2 a0_3).bind fun bt286 => ((laws_eqIndex.f k bt265.1 bt265.2.1 bt265.2.2.1 bt265.2.2.2 bt286.1 bt286.2.1 bt286.2.2.1 bt286.2.2.2).bind fun t292 => (if t292 = true then ((laws_toFile.f k l1_0).bind fun t293 => ((laws_eqFile.f k t272 t293).bind fun t296 => (if t296 = true then ((laws_markIndex.f k bt265.1 bt265.2.1 bt265.2.2.1 bt265.2.2.2 1).bind fun bt297 => ((laws_markFile.f k t272 bt297.1).bind fun bt299 => (if bt299.1 < 0 then (laws_FnExactExtendIndex.j0 k true a0_0 l0_1 a0_2 a0_3 l1_0 bt256.1 bt256.2.1 bt256.2.2.1 bt256.2.2.2.1 bt256.2.2.2.2.1 bt256.2.2.2.2.2 bt276.1 bt276.2.1 bt276.2.2.1 bt276.2.2.2.1 bt276.2.2.2.2.1 bt276.2.2.2.2.2) else ((laws_eqIndexResult.f k bt276.1 bt276.2.1 bt276.2.2.1 bt276.2.2.2.1 bt276.2.2.2.2.1 bt276.2.2.2.2.2 bt256.1 bt256.2.1 bt256.2.2.1 bt256.2.2.2.1 bt256.2.2.2.2.1 bt256.2.2.2.2.2).bind fun t301 => (laws_FnExactExtendIndex.j0 k (!t301) a0_0 l0_1 a0_2 a0_3 l1_0 bt256.1 bt256.2.1 bt256.2.2.1 bt256.2.2.2.1 bt256.2.2.2.2.1 bt256.2.2.2.2.2 bt276.1 bt276.2.1 bt276.2.2.1 bt276.2.2.2.1 bt276.2.2.2.2.1 bt276.2.2.2.2.2))))) else (some false)))) else (some false)))) else (some false))))))) = some r := H
      have A20 := Aside0.mk A200
      clear A200
      replace H := Option.bind_eq_some_iff.mp H
      obtain ⟨⟨t256, t257, t258, t259, t262, t263⟩, A210, H⟩ := H
      replace H : ((laws_toIndex.f k a0_0 l0_1 a0_2 a0_3).bind fun bt265 => ((laws_toFile.f k l1_0).bind fun t272 => ((impl_ExtendIndex.f k bt265.1 bt265.2.1 bt265.2.2.1 bt265.2.2.2 t272).bind fun bt276 => ((laws_eqIndexResult.f k bt276.1 bt276.2.1 bt276.2.2.1 bt276.2.2.2.1 bt276.2.2.2.2.1 bt276.2.2.2.2.2 t256 t257 t258 t259 t262 t263).bind fun t285 => (if t285 = true then ((laws_toIndex.f k a0_0 l0_1 a0_2 a0_3).bind fun bt286 => ((laws_eqIndex.f k bt265.1 bt265.2.1 bt265.2.2.1 bt265.2.2.2 bt286.1 bt286.2.1 bt286.2.2.1 bt286.2.2.2).bind fun t292 => (if t292 = true then ((laws_toFile.f k l1_0).bind fun t293 => ((laws_eqFile.f k t272 t293).bind fun t296 => (if t296 = true then ((laws_markIndex.f k bt265.1 bt265.2.1 bt265.2.2.1 bt265.2.2.2 1).bind fun bt297 => ((laws_markFile.f k t272 bt297.1).bind fun bt299 => (if bt299.1 < 0 then (laws_FnExactExtendIndex.j0 k true a0_0 l0_1 a0_2 a0_3 l1_0 t256 t257 t258 t259 t262 t263 bt276.1 bt276.2.1 bt276.2.2.1 bt276.2.2.2.1 bt276.2.2.2.2.1 bt276.2.2.2.2.2) else ((laws_eqIndexResult.f k bt276.1 bt276.2.1 bt276.2.2.1 bt276.2.2.2.1 bt276.2.2.2.2.1 bt276.2.2.2.2.2 t256 t257 t258 t259 t262 t263).bind fun t301 => (laws_FnExactExtendIndex.j0 k (!t301) a0_0 l0_1 a0_2 a0_3 l1_0 t256 t257 t258 t259 t262 t263 bt276.1 bt276.2.1 bt276.2.2.1 bt276.2.2.2.1 bt276.2.2.2.2.1 bt276.2.2.2.2.2))))) else (some false)))) else (some false)))) else (some false)))))) = some r := H
      have A21 := Aside0.mk A210
      clear A210
      replace H := Option.bind_eq_some_iff.mp H
      obtain ⟨⟨t265, t266, t269, t270⟩, A220, H⟩ := H
      replace H : ((laws_toFile.f k l1_0).bind fun t272 => ((impl_ExtendIndex.f k t265 t266 t269 t270 t272).bind fun bt276 => ((laws_eqIndexResult.f k bt276.1 bt276.2.1 bt276.2.2.1 bt276.2.2.2.1 bt276.2.2.2.2.1 bt276.2.2.2.2.2 t256 t257 t258 t259 t262 t263).bind fun t285 => (if t285 = true then ((laws_toIndex.f k a0_0 l0_1 a0_2 a0_3).bind fun bt286 => ((laws_eqIndex.f k t265 t266 t269 t270 bt286.1 bt286.2.1 bt286.2.2.1 bt286.2.2.2).bind fun t292 => (if t292 = true then ((laws_toFile.f k l1_0).bind fun t293 => ((laws_eqFile.f k t272 t293).bind fun t296 => (if t296 = true then ((laws_markIndex.f k t265 t266 t269 t270 1).bind fun bt297 => ((laws_markFile.f k t272 bt297.1).bind fun bt299 => (if bt299.1 < 0 then (laws_FnExactExtendIndex.j0 k true a0_0 l0_1 a0_2 a0_3 l1_0 t256 t257 t258 t259 t262 t263 bt276.1 bt276.2.1 bt276.2.2.1 bt276.2.2.2.1 bt276.2.2.2.2.1 bt276.2.2.2.2.2) else ((laws_eqIndexResult.f k bt276.1 bt276.2.1 bt276.2.2.1 bt276.2.2.2.1 bt276.2.2.2.2.1 bt276.2.2.2.2.2 t256 t257 t258 t259 t262 t263).bind fun t301 => (laws_FnExactExtendIndex.j0 k (!t301) a0_0 l0_1 a0_2 a0_3 l1_0 t256 t257 t258 t259 t262 t263 bt276.1 bt276.2.1 bt276.2.2.1 bt276.2.2.2.1 bt276.2.2.2.2.1 bt276.2.2.2.2.2))))) else (some false)))) else (some false)))) else (some false))))) = some r := H
      have A22 := Aside0.mk A220
      clear A220
      replace H := Option.bind_eq_some_iff.mp H
      obtain ⟨t272, A230, H⟩ := H
      replace H : ((impl_ExtendIndex.f k t265 t266 t269 t270 t272).bind fun bt276 => ((laws_eqIndexResult.f k bt276.1 bt276.2.1 bt276.2.2.1 bt276.2.2.2.1 bt276.2.2.2.2.1 bt276.2.2.2.2.2 t256 t257 t258 t259 t262 t263).bind fun t285 => (if t285 = true then ((laws_toIndex.f k a0_0 l0_1 a0_2 a0_3).bind fun bt286 => ((laws_eqIndex.f k t265 t266 t269 t270 bt286.1 bt286.2.1 bt286.2.2.1 bt286.2.2.2).bind fun t292 => (if t292 = true then ((laws_toFile.f k l1_0).bind fun t293 => ((laws_eqFile.f k t272 t293).bind fun t296 => (if t296 = true then ((laws_markIndex.f k t265 t266 t269 t270 1).bind fun bt297 => ((laws_markFile.f k t272 bt297.1).bind fun bt299 => (if bt299.1 < 0 then (laws_FnExactExtendIndex.j0 k true a0_0 l0_1 a0_2 a0_3 l1_0 t256 t257 t258 t259 t262 t263 bt276.1 bt276.2.1 bt276.2.2.1 bt276.2.2.2.1 bt276.2.2.2.2.1 bt276.2.2.2.2.2) else ((laws_eqIndexResult.f k bt276.1 bt276.2.1 bt276.2.2.1 bt276.2.2.2.1 bt276.2.2.2.2.1 bt276.2.2.2.2.2 t256 t257 t258 t259 t262 t263).bind fun t301 => (laws_FnExactExtendIndex.j0 k (!t301) a0_0 l0_1 a0_2 a0_3 l1_0 t256 t257 t258 t259 t262 t263 bt276.1 bt276.2.1 bt276.2.2.1 bt276.2.2.2.1 bt276.2.2.2.2.1 bt276.2.2.2.2.2))))) else (some false)))) else (some false)))) else (some false)))) = some r := H
      have A23 := Aside0.mk A230
      clear A230
      replace H := Option.bind_eq_some_iff.mp H
      obtain ⟨⟨t276, t277, t278, t279, t282, t283⟩, A240, H⟩ := H
      replace H : ((laws_eqIndexResult.f k t276 t277 t278 t279 t282 t283 t256 t257 t258 t259 t262 t263).bind fun t285 => (if t285 = true then ((laws_toIndex.f k a0_0 l0_1 a0_2 a0_3).bind fun bt286 => ((laws_eqIndex.f k t265 t266 t269 t270 bt286.1 bt286.2.1 bt286.2.2.1 bt286.2.2.2).bind fun t292 => (if t292 = true then ((laws_toFile.f k l1_0).bind fun t293 => ((laws_eqFile.f k t272 t293).bind fun t296 => (if t296 = true then ((laws_markIndex.f k t265 t266 t269 t270 1).bind fun bt297 => ((laws_markFile.f k t272 bt297.1).bind fun bt299 => (if bt299.1 < 0 then (laws_FnExactExtendIndex.j0 k true a0_0 l0_1 a0_2 a0_3 l1_0 t256 t257 t258 t259 t262 t263 t276 t277 t278 t279 t282 t283) else ((laws_eqIndexResult.f k t276 t277 t278 t279 t282 t283 t256 t257 t258 t259 t262 t263).bind fun t301 => (laws_FnExactExtendIndex.j0 k (!t301) a0_0 l0_1 a0_2 a0_3 l1_0 t256 t257 t258 t259 t262 t263 t276 t277 t278 t279 t282 t283))))) else (some false)))) else (some false)))) else (some false))) = some r := H
      have A24 := Aside0.mk A240
      clear A240
      replace H := Option.bind_eq_some_iff.mp H
      obtain ⟨t285, A250, H⟩ := H
      replace H : (if t285 = true then ((laws_toIndex.f k a0_0 l0_1 a0_2 a0_3).bind fun bt286 => ((laws_eqIndex.f k t265 t266 t269 t270 bt286.1 bt286.2.1 bt286.2.2.1 bt286.2.2.2).bind fun t292 => (if t292 = true then ((laws_toFile.f k l1_0).bind fun t293 => ((laws_eqFile.f k t272 t293).bind fun t296 => (if t296 = true then ((laws_markIndex.f k t265 t266 t269 t270 1).bind fun bt297 => ((laws_markFile.f k t272 bt297.1).bind fun bt299 => (if bt299.1 < 0 then (laws_FnExactExtendIndex.j0 k true a0_0 l0_1 a0_2 a0_3 l1_0 t256 t257 t258 t259 t262 t263 t276 t277 t278 t279 t282 t283) else ((laws_eqIndexResult.f k t276 t277 t278 t279 t282 t283 t256 t257 t258 t259 t262 t263).bind fun t301 => (laws_FnExactExtendIndex.j0 k (!t301) a0_0 l0_1 a0_2 a0_3 l1_0 t256 t257 t258 t259 t262 t263 t276 t277 t278 t279 t282 t283))))) else (some false)))) else (some false)))) else (some false)) = some r := H
      have A25 := Aside0.mk A250
      clear A250
      by_cases c26 : t285 = true
      · subst c26
        have H1 : ((laws_toIndex.f k a0_0 l0_1 a0_2 a0_3).bind fun bt286 => ((laws_eqIndex.f k t265 t266 t269 t270 bt286.1 bt286.2.1 bt286.2.2.1 bt286.2.2.2).bind fun t292 => (if t292 = true then ((laws_toFile.f k l1_0).bind fun t293 => ((laws_eqFile.f k t272 t293).bind fun t296 => (if t296 = true then ((laws_markIndex.f k t265 t266 t269 t270 1).bind fun bt297 => ((laws_markFile.f k t272 bt297.1).bind fun bt299 => (if bt299.1 < 0 then (laws_FnExactExtendIndex.j0 k true a0_0 l0_1 a0_2 a0_3 l1_0 t256 t257 t258 t259 t262 t263 t276 t277 t278 t279 t282 t283) else ((laws_eqIndexResult.f k t276 t277 t278 t279 t282 t283 t256 t257 t258 t259 t262 t263).bind fun t301 => (laws_FnExactExtendIndex.j0 k (!t301) a0_0 l0_1 a0_2 a0_3 l1_0 t256 t257 t258 t259 t262 t263 t276 t277 t278 t279 t282 t283))))) else (some false)))) else (some false)))) = some r := by rw [if_pos rfl] at H; exact H
        clear H
        have H := H1
        clear H1
        replace H := Option.bind_eq_some_iff.mp H
        obtain ⟨⟨t286, t287, t290, t291⟩, A270, H⟩ := H
        replace H : ((laws_eqIndex.f k t265 t266 t269 t270 t286 t287 t290 t291).bind fun t292 => (if t292 = true then ((laws_toFile.f k l1_0).bind fun t293 => ((laws_eqFile.f k t272 t293).bind fun t296 => (if t296 = true then ((laws_markIndex.f k t265 t266 t269 t270 1).bind fun bt297 => ((laws_markFile.f k t272 bt297.1).bind fun bt299 => (if bt299.1 < 0 then (laws_FnExactExtendIndex.j0 k true a0_0 l0_1 a0_2 a0_3 l1_0 t256 t257 t258 t259 t262 t263 t276 t277 t278 t279 t282 t283) else ((laws_eqIndexResult.f k t276 t277 t278 t279 t282 t283 t256 t257 t258 t259 t262 t263).bind fun t301 => (laws_FnExactExtendIndex.j0 k (!t301) a0_0 l0_1 a0_2 a0_3 l1_0 t256 t257 t258 t259 t262 t263 t276 t277 t278 t279 t282 t283))))) else (some false)))) else (some false))) = some r := H
        have A27 := Aside0.mk A270
        clear A270
        replace H := Option.bind_eq_some_iff.mp H
        obtain ⟨t292, A280, H⟩ := H
        replace H : (if t292 = true then ((laws_toFile.f k l1_0).bind fun t293 => ((laws_eqFile.f k t272 t293).bind fun t296 => (if t296 = true then ((laws_markIndex.f k t265 t266 t269 t270 1).bind fun bt297 => ((laws_markFile.f k t272 bt297.1).bind fun bt299 => (if bt299.1 < 0 then (laws_FnExactExtendIndex.j0 k true a0_0 l0_1 a0_2 a0_3 l1_0 t256 t257 t258 t259 t262 t263 t276 t277 t278 t279 t282 t283) else ((laws_eqIndexResult.f k t276 t277 t278 t279 t282 t283 t256 t257 t258 t259 t262 t263).bind fun t301 => (laws_FnExactExtendIndex.j0 k (!t301) a0_0 l0_1 a0_2 a0_3 l1_0 t256 t257 t258 t259 t262 t263 t276 t277 t278 t279 t282 t283))))) else (some false)))) else (some false)) = some r := H
        have A28 := Aside0.mk A280
        clear A280
        by_cases c29 : t292 = true
        · subst c29
          have H1 : ((laws_toFile.f k l1_0).bind fun t293 => ((laws_eqFile.f k t272 t293).bind fun t296 => (if t296 = true then ((laws_markIndex.f k t265 t266 t269 t270 1).bind fun bt297 => ((laws_markFile.f k t272 bt297.1).bind fun bt299 => (if bt299.1 < 0 then (laws_FnExactExtendIndex.j0 k true a0_0 l0_1 a0_2 a0_3 l1_0 t256 t257 t258 t259 t262 t263 t276 t277 t278 t279 t282 t283) else ((laws_eqIndexResult.f k t276 t277 t278 t279 t282 t283 t256 t257 t258 t259 t262 t263).bind fun t301 => (laws_FnExactExtendIndex.j0 k (!t301) a0_0 l0_1 a0_2 a0_3 l1_0 t256 t257 t258 t259 t262 t263 t276 t277 t278 t279 t282 t283))))) else (some false)))) = some r := by rw [if_pos rfl] at H; exact H
          clear H
          have H := H1
          clear H1
          replace H := Option.bind_eq_some_iff.mp H
          obtain ⟨t293, A300, H⟩ := H
          replace H : ((laws_eqFile.f k t272 t293).bind fun t296 => (if t296 = true then ((laws_markIndex.f k t265 t266 t269 t270 1).bind fun bt297 => ((laws_markFile.f k t272 bt297.1).bind fun bt299 => (if bt299.1 < 0 then (laws_FnExactExtendIndex.j0 k true a0_0 l0_1 a0_2 a0_3 l1_0 t256 t257 t258 t259 t262 t263 t276 t277 t278 t279 t282 t283) else ((laws_eqIndexResult.f k t276 t277 t278 t279 t282 t283 t256 t257 t258 t259 t262 t263).bind fun t301 => (laws_FnExactExtendIndex.j0 k (!t301) a0_0 l0_1 a0_2 a0_3 l1_0 t256 t257 t258 t259 t262 t263 t276 t277 t278 t279 t282 t283))))) else (some false))) = some r := H
          have A30 := Aside0.mk A300
          clear A300
          replace H := Option.bind_eq_some_iff.mp H
          obtain ⟨t296, A310, H⟩ := H
          replace H : (if t296 = true then ((laws_markIndex.f k t265 t266 t269 t270 1).bind fun bt297 => ((laws_markFile.f k t272 bt297.1).bind fun bt299 => (if bt299.1 < 0 then (laws_FnExactExtendIndex.j0 k true a0_0 l0_1 a0_2 a0_3 l1_0 t256 t257 t258 t259 t262 t263 t276 t277 t278 t279 t282 t283) else ((laws_eqIndexResult.f k t276 t277 t278 t279 t282 t283 t256 t257 t258 t259 t262 t263).bind fun t301 => (laws_FnExactExtendIndex.j0 k (!t301) a0_0 l0_1 a0_2 a0_3 l1_0 t256 t257 t258 t259 t262 t263 t276 t277 t278 t279 t282 t283))))) else (some false)) = some r := H
          have A31 := Aside0.mk A310
          clear A310
          by_cases c32 : t296 = true
          · subst c32
            have H1 : ((laws_markIndex.f k t265 t266 t269 t270 1).bind fun bt297 => ((laws_markFile.f k t272 bt297.1).bind fun bt299 => (if bt299.1 < 0 then (laws_FnExactExtendIndex.j0 k true a0_0 l0_1 a0_2 a0_3 l1_0 t256 t257 t258 t259 t262 t263 t276 t277 t278 t279 t282 t283) else ((laws_eqIndexResult.f k t276 t277 t278 t279 t282 t283 t256 t257 t258 t259 t262 t263).bind fun t301 => (laws_FnExactExtendIndex.j0 k (!t301) a0_0 l0_1 a0_2 a0_3 l1_0 t256 t257 t258 t259 t262 t263 t276 t277 t278 t279 t282 t283))))) = some r := by rw [if_pos rfl] at H; exact H
            clear H
            have H := H1
            clear H1
            replace H := Option.bind_eq_some_iff.mp H
            obtain ⟨⟨t297, t298⟩, A330, H⟩ := H
            replace H : ((laws_markFile.f k t272 t297).bind fun bt299 => (if bt299.1 < 0 then (laws_FnExactExtendIndex.j0 k true a0_0 l0_1 a0_2 a0_3 l1_0 t256 t257 t258 t259 t262 t263 t276 t277 t278 t279 t282 t283) else ((laws_eqIndexResult.f k t276 t277 t278 t279 t282 t283 t256 t257 t258 t259 t262 t263).bind fun t301 => (laws_FnExactExtendIndex.j0 k (!t301) a0_0 l0_1 a0_2 a0_3 l1_0 t256 t257 t258 t259 t262 t263 t276 t277 t278 t279 t282 t283)))) = some r := H
            have A33 := Aside0.mk A330
            clear A330
            replace H := Option.bind_eq_some_iff.mp H
            obtain ⟨⟨t299, t300⟩, A340, H⟩ := H
            replace H : (if t299 < 0 then (laws_FnExactExtendIndex.j0 k true a0_0 l0_1 a0_2 a0_3 l1_0 t256 t257 t258 t259 t262 t263 t276 t277 t278 t279 t282 t283) else ((laws_eqIndexResult.f k t276 t277 t278 t279 t282 t283 t256 t257 t258 t259 t262 t263).bind fun t301 => (laws_FnExactExtendIndex.j0 k (!t301) a0_0 l0_1 a0_2 a0_3 l1_0 t256 t257 t258 t259 t262 t263 t276 t277 t278 t279 t282 t283))) = some r := H
            have A34 := Aside0.mk A340
            clear A340
            have HC35 := Aside0.mk H
            clear H
            go_enter Try.func7, Try.ntmps7
            try go_wp2_with (first | ((with_reducible refine gate_dst (N := 2) rfl ?_); refine box_event ?hg (N := 2) ?hd (cs := #[.int .i64 a0_0, .slice A0_1 l0_1.length c0_1, .int .i64 a0_2, .int .i64 a0_3]) (t := 24) ?hr ?_; (case hd => rfl); (case hg => rfl); (case hr => first | (go_simp; done) | (go_simp; rfl)); intro gb243 hg w36 hbox hb; have BK243 := Aside0.mk (hbox); have GW243 := Aside0.mk ((by rw [hg]; exact (below_size (bz HB)) : w.heap.size ≤ gb243)); have GE243 := Aside0.mk ((by rw [hg]; exact (below_size (bz HB)) : w.heap.size ≤ gb243)); replace HB := Aside0.mk (below_step (bz HB) hb); clear hb hbox hg) | ((with_reducible refine gate_dst (N := 3) rfl ?_); refine box_event ?hg (N := 3) ?hd (cs := #[.slice A1_0 l1_0.length c1_0]) (t := 42) ?hr ?_; (case hd => rfl); (case hg => rfl); (case hr => first | (go_simp; done) | (go_simp; rfl)); intro gb244 hg w37 hbox hb; have BK244 := Aside0.mk (hbox); have GW244 := Aside0.mk ((by rw [hg]; exact (below_size (bz HB)) : w.heap.size ≤ gb244)); have GE244 := Aside0.mk ((by rw [hg]; exact (below_size (bz HB)) : w.heap.size ≤ gb244)); replace HB := Aside0.mk (below_step (bz HB) hb); have NB243_244 := nb BK243 hg; have NB244_243 := nc BK243 hg; replace BK243 := bk BK243 hb; clear hb hbox hg; have hnb38 := NB243_244.out; have hnc38 := NB244_243.out; have hcz39_0 : w37.cell? ⟨gb243, 0, none⟩ = some (.int .i64 a0_0) := (blk_cell BK243.out 0).trans rfl; have hcz39_1 : w37.cell? ⟨gb243, 1, none⟩ = some (.slice A0_1 l0_1.length c0_1) := (blk_cell BK243.out 1).trans rfl; have hcz39_2 : w37.cell? ⟨gb243, 2, none⟩ = some (.int .i64 a0_2) := (blk_cell BK243.out 2).trans rfl; have hcz39_3 : w37.cell? ⟨gb243, 3, none⟩ = some (.int .i64 a0_3) := (blk_cell BK243.out 3).trans rfl; have hfz39_0 := blk_frozen BK243.out 0; have hfz39_1 := blk_frozen BK243.out 1; have hfz39_2 := blk_frozen BK243.out 2; have hfz39_3 := blk_frozen BK243.out 3) | ((with_reducible refine gate_callee (f := 12) rfl ?_); refine goesL_ (some 16) rfl rfl Try.func12 (by kernel_rfl) rfl #[.agg #[.int .i64 a0_0, .slice A0_1 l0_1.length c0_1, .int .i64 a0_2, .int .i64 a0_3], .int .i64 1048576] rfl (by (try simp only [List.map_toArray, List.map_cons, List.map_nil]); first | done | rfl | (simp only [List.length_drop, List.length_take]; rfl)) ?_; (with_reducible refine (laws_szIndex.calls a0_0 _ _ l0_1 a0_2 a0_3 1048576 t245 _ ?side1 ?side2 A3.out).mono ?_); (case side1 => repeat (first | exact (Kd.C_below HR0_1.out HB.out) | (with_reducible refine Kd.C_alloc ?_ _) | (with_reducible refine Kd.C_drewN ?_ _) | (with_reducible refine Kd.C_drew ?_))); (case side2 => exact HC0_1.out); rintro e w40 ⟨rfl, hb⟩; refine ⟨_, rfl, ?_⟩; replace BK243 := bk BK243 hb; replace BK244 := bk BK244 hb; replace HB := Aside0.mk (below_step (bz HB) hb); (try clear hb); (try clear hb2); (try clear hk); (try clear hi); have hcz41_0 : w40.cell? ⟨gb244, 0, none⟩ = some (.slice A1_0 l1_0.length c1_0) := (blk_cell BK244.out 0).trans rfl; have hfz41_0 := blk_frozen BK244.out 0) | ((with_reducible refine gate_callee (f := 25) rfl ?_); refine goesL_ (some 21) rfl rfl Try.func25 (by kernel_rfl) rfl #[.agg #[.slice A1_0 l1_0.length c1_0], .int .i64 t245] rfl (by (try simp only [List.map_toArray, List.map_cons, List.map_nil]); first | done | rfl | (simp only [List.length_drop, List.length_take]; rfl)) ?_; (with_reducible refine (laws_szFile.calls _ _ l1_0 t245 t246 _ ?side1 ?side2 A10.out).mono ?_); (case side1 => repeat (first | exact (Kd.C_below HR1_0.out HB.out) | (with_reducible refine Kd.C_alloc ?_ _) | (with_reducible refine Kd.C_drewN ?_ _) | (with_reducible refine Kd.C_drew ?_))); (case side2 => exact HC1_0.out); rintro e w42 ⟨rfl, hb⟩; refine ⟨_, rfl, ?_⟩; replace BK243 := bk BK243 hb; replace BK244 := bk BK244 hb; replace HB := Aside0.mk (below_step (bz HB) hb); (try clear hb); (try clear hb2); (try clear hk); (try clear hi)))
            replace BK243 := Aside0.mk (blk_drew BK243.out)
            replace BK244 := Aside0.mk (blk_drew BK244.out)
            replace HB := Aside0.mk (below_drew1 HB.out)
            refine start_ (n := 7) (S := fun w' => w'.cell? ⟨gb243, 0, none⟩ = some (.int .i64 a0_0) ∧ w'.cell? ⟨gb243, 1, none⟩ = some (.slice A0_1 l0_1.length c0_1) ∧ w'.cell? ⟨gb243, 2, none⟩ = some (.int .i64 a0_2) ∧ w'.cell? ⟨gb243, 3, none⟩ = some (.int .i64 a0_3) ∧ w'.cell? ⟨gb244, 0, none⟩ = some (.slice A1_0 l1_0.length c1_0)) (ds := []) #[false, false, false, false, false, false, false] (by kernel_rfl) rfl rfl ⟨(blk_cell BK243.out 0).trans rfl, (blk_cell BK243.out 1).trans rfl, (blk_cell BK243.out 2).trans rfl, (blk_cell BK243.out 3).trans rfl, (blk_cell BK244.out 0).trans rfl⟩ (fun hHeld => ?_)
            generalize w42.drew = w43 at BK243 BK244 HB hHeld ⊢
            refine take_ (i := 0) (N := some 24) (v := ?_) (a' := ?_) #[true, false, false, false, false, false, false] rfl rfl (by kernel_rfl) (fun _ _ _ h => h) (Or.inl ⟨by rfl, ?_⟩) hHeld ?_ ?_
            rotate_left
            · rintro w' ⟨s0, s1, s2, s3, s4⟩
              go_simp
              with_reducible rfl
            rotate_left
            · simp only [Act.put, List.setIfInBounds_toArray, List.set_cons_zero, List.set_cons_succ, i64_w, i32_w]
              rfl
            refine take_ (i := 2) (N := some 26) (v := ?_) (a' := ?_) #[true, false, true, false, false, false, false] rfl rfl (by kernel_rfl) (fun _ _ _ h => h) (Or.inl ⟨by rfl, ?_⟩) hHeld ?_ ?_
            rotate_left
            · rintro w' ⟨s0, s1, s2, s3, s4⟩
              go_simp
              with_reducible rfl
            rotate_left
            · simp only [Act.put, List.setIfInBounds_toArray, List.set_cons_zero, List.set_cons_succ, i64_w, i32_w]
              rfl
            refine join_ (σ := Value × Value × Value × Nat) 1 #[true, true, true, true, true, true, false] (fun s_ => [(25, .agg #[.int .i64 t247, s_.1, .int .i64 t251, .int .i64 t252]), (27, .agg #[s_.2.1]), (28, .agg #[.int .i64 t256, .int .i64 t257, .int .i64 t258, s_.2.2.1, .int .i64 t262, .int .i64 t263]), (6, .pointer (some ⟨s_.2.2.2, 0, none⟩))]) (fun s_ w' => (w'.cell? ⟨gb243, 0, none⟩ = some (.int .i64 a0_0) ∧ w'.cell? ⟨gb243, 1, none⟩ = some (.slice A0_1 l0_1.length c0_1) ∧ w'.cell? ⟨gb243, 2, none⟩ = some (.int .i64 a0_2) ∧ w'.cell? ⟨gb243, 3, none⟩ = some (.int .i64 a0_3) ∧ w'.cell? ⟨gb244, 0, none⟩ = some (.slice A1_0 l1_0.length c1_0)) ∧ (Kd.R (Kd.int .i64) 2 w' w.heap.size (fun k_ => some k_ ≠ (s_.2.2.1 : Value).ownBlock) s_.1 t248) ∧ (Kd.R (Kd.int .u8) 5 w' w.heap.size (fun _ => True) s_.2.1 t253) ∧ (Kd.R (Kd.int .i64) 2 w' w.heap.size (fun k_ => some k_ ≠ (s_.1 : Value).ownBlock) s_.2.2.1 t259) ∧ (w'.heap[gb243]? = some (.cells #[.int .i64 a0_0, .slice A0_1 l0_1.length c0_1, .int .i64 a0_2, .int .i64 a0_3] 24 (0, 0))) ∧ (w'.heap[gb244]? = some (.cells #[.slice A1_0 l1_0.length c1_0] 42 (0, 0))) ∧ (w'.heap[s_.2.2.2]? = some (.cells #[.int .i64 0, .int .i64 0, .int .i64 0, .slice none 0 0, .int .i64 0, .int .i64 0] 32 (0, 0))) ∧ (w.heap.size ≤ s_.2.2.2) ∧ (w.heap.size ≤ s_.2.2.2) ∧ (gb243 ≠ s_.2.2.2) ∧ (s_.2.2.2 ≠ gb243) ∧ (gb244 ≠ s_.2.2.2) ∧ (s_.2.2.2 ≠ gb244) ∧ (Below w.heap.size w w')) ?_ ?_
            rotate_left
            · intro hCont
              refine two_ (i := 1) (j := 5) (Ni := some 25) (Nj := some 6) #[true, true, true, false, false, false, false] #[true, false, true, false, false, true, false] rfl rfl rfl rfl (by kernel_rfl) (by decide) (by decide) (fun K hK => ?_) (fun K hK => ?_)
              · skip
                refine goes_ Try.func14 (by kernel_rfl) rfl #[.agg #[.int .i64 a0_0, .slice A0_1 l0_1.length c0_1, .int .i64 a0_2, .int .i64 a0_3]] (by rfl) rfl rfl (by (try simp only [List.map_toArray, List.map_cons, List.map_nil]); first | done | rfl | (simp only [List.length_drop, List.length_take]; rfl)) ?_
                with_reducible refine (laws_toIndex.calls k a0_0 _ _ l0_1 a0_2 a0_3 t247 t248 t251 t252 _ ?side1 ?side2 A19.out).mono ?_
                (case side1 => repeat (first | exact (Kd.C_below HR0_1.out HB.out) | (with_reducible refine Kd.C_alloc ?_ _) | (with_reducible refine Kd.C_drewN ?_ _) | (with_reducible refine Kd.C_drew ?_)))
                (case side2 => exact HC0_1.out)
                rintro e w44 ⟨v249, rfl, ho0, hb⟩
                refine ⟨_, rfl, ?_⟩
                have HO250 := Aside0.mk (Kd.R_lower ho0 (below_size (bz HB)))
                replace BK243 := bk BK243 hb
                replace BK244 := bk BK244 hb
                replace HB := Aside0.mk (below_step (bz HB) hb)
                (try clear hb)
                (try clear hb2)
                (try clear hk)
                (try clear hi)
                (try clear ho0)
                refine hK.out _ _ ⟨(blk_cell BK243.out 0).trans rfl, (blk_cell BK243.out 1).trans rfl, (blk_cell BK243.out 2).trans rfl, (blk_cell BK243.out 3).trans rfl, (blk_cell BK244.out 0).trans rfl⟩ (fun hHeld => ?_)
                clear hK K
                refine norm_ (a' := ?_) ?_ ?_
                rotate_left
                · show Act.put _ (some 25) _ = _
                  simp only [Act.put, List.setIfInBounds_toArray, List.set_cons_zero, List.set_cons_succ, i64_w, i32_w]
                  rfl
                refine two_ (i := 3) (j := 5) (Ni := some 27) (Nj := some 6) #[true, true, true, true, false, false, false] #[true, true, true, false, false, true, false] rfl rfl rfl rfl (by kernel_rfl) (by decide) (by decide) (fun K hK => ?_) (fun K hK => ?_)
                · skip
                  refine goes_ Try.func27 (by kernel_rfl) rfl #[.agg #[.slice A1_0 l1_0.length c1_0]] (by rfl) rfl rfl (by (try simp only [List.map_toArray, List.map_cons, List.map_nil]); first | done | rfl | (simp only [List.length_drop, List.length_take]; rfl)) ?_
                  with_reducible refine (laws_toFile.calls k _ _ l1_0 t253 _ ?side1 ?side2 A20.out).mono ?_
                  (case side1 => repeat (first | exact (Kd.C_below HR1_0.out HB.out) | (with_reducible refine Kd.C_alloc ?_ _) | (with_reducible refine Kd.C_drewN ?_ _) | (with_reducible refine Kd.C_drew ?_)))
                  (case side2 => exact HC1_0.out)
                  rintro e w45 ⟨v254, rfl, ho0, hb⟩
                  refine ⟨_, rfl, ?_⟩
                  replace HO250 := rb HO250 hb
                  have HO255 := Aside0.mk (Kd.R_lower ho0 (below_size (bz HB)))
                  replace BK243 := bk BK243 hb
                  replace BK244 := bk BK244 hb
                  replace HB := Aside0.mk (below_step (bz HB) hb)
                  (try clear hb)
                  (try clear hb2)
                  (try clear hk)
                  (try clear hi)
                  (try clear ho0)
                  obtain ⟨Ao46, co46, eo46⟩ := Kd.R_slice HO250.out
                  (first | subst eo46 | (injection eo46 with f1_ f2_ f3_; have f4_ := f1_.symm; have f5_ := f3_.symm; clear f1_ f2_ f3_; subst f4_; subst f5_))
                  obtain ⟨Ao47, co47, eo47⟩ := Kd.R_slice HO255.out
                  (first | subst eo47 | (injection eo47 with f1_ f2_ f3_; have f4_ := f1_.symm; have f5_ := f3_.symm; clear f1_ f2_ f3_; subst f4_; subst f5_))
                  refine hK.out _ _ ⟨(blk_cell BK243.out 0).trans rfl, (blk_cell BK243.out 1).trans rfl, (blk_cell BK243.out 2).trans rfl, (blk_cell BK243.out 3).trans rfl, (blk_cell BK244.out 0).trans rfl⟩ (fun hHeld => ?_)
                  clear hK K
                  refine norm_ (a' := ?_) ?_ ?_
                  rotate_left
                  · show Act.put _ (some 27) _ = _
                    simp only [Act.put, List.setIfInBounds_toArray, List.set_cons_zero, List.set_cons_succ, i64_w, i32_w]
                    rfl
                  refine two_ (i := 4) (j := 5) (Ni := some 28) (Nj := some 6) #[true, true, true, true, true, false, false] #[true, true, true, true, false, true, false] rfl rfl rfl rfl (by kernel_rfl) (by decide) (by decide) (fun K hK => ?_) (fun K hK => ?_)
                  · skip
                    refine goes_ Try.func30 (by kernel_rfl) rfl #[.agg #[.int .i64 t247, .slice Ao46 t248.length co46, .int .i64 t251, .int .i64 t252], .agg #[.slice Ao47 t253.length co47]] (by rfl) rfl rfl (by (try simp only [List.map_toArray, List.map_cons, List.map_nil]); first | done | rfl | (simp only [List.length_drop, List.length_take]; rfl)) ?_
                    with_reducible refine (spec_ExtendIndex.calls k t247 _ _ t248 t251 t252 _ _ t253 t256 t257 t258 t259 t262 t263 _ ?side1 ?side2 ?side3 ?side4 A21.out).mono ?_
                    (case side1 => repeat (first | exact (Kd.R_reads' HO250.out).2.2 | (with_reducible refine Kd.C_alloc ?_ _) | (with_reducible refine Kd.C_drewN ?_ _) | (with_reducible refine Kd.C_drew ?_)))
                    (case side2 => exact (Kd.R_reads' HO250.out).2.1)
                    (case side3 => repeat (first | exact (Kd.R_reads' HO255.out).2.2 | (with_reducible refine Kd.C_alloc ?_ _) | (with_reducible refine Kd.C_drewN ?_ _) | (with_reducible refine Kd.C_drew ?_)))
                    (case side4 => exact (Kd.R_reads' HO255.out).2.1)
                    rintro e w48 ⟨v260, rfl, ho0, hb⟩
                    refine ⟨_, rfl, ?_⟩
                    replace HO255 := rb HO255 hb
                    have HO261 := Aside0.mk (Kd.R_lower (Kd.R_new' ho0 (Kd.R_lt (by (with_reducible repeat (first | apply Kd.R_alloc | apply Kd.R_drewN | apply Kd.R_drew)); exact HO250.out))) (below_size (bz HB)))
                    replace HO250 := Aside0.mk (Kd.R_elder' (by (with_reducible repeat (first | apply Kd.R_alloc | apply Kd.R_drewN | apply Kd.R_drew)); exact HO250.out) (Kd.R_base ho0) hb)
                    replace BK243 := bk BK243 hb
                    replace BK244 := bk BK244 hb
                    replace HB := Aside0.mk (below_step (bz HB) hb)
                    (try clear hb)
                    (try clear hb2)
                    (try clear hk)
                    (try clear hi)
                    (try clear ho0)
                    refine hK.out _ _ ⟨(blk_cell BK243.out 0).trans rfl, (blk_cell BK243.out 1).trans rfl, (blk_cell BK243.out 2).trans rfl, (blk_cell BK243.out 3).trans rfl, (blk_cell BK244.out 0).trans rfl⟩ (fun hHeld => ?_)
                    clear hK K
                    refine norm_ (a' := ?_) ?_ ?_
                    rotate_left
                    · show Act.put _ (some 28) _ = _
                      simp only [Act.put, List.setIfInBounds_toArray, List.set_cons_zero, List.set_cons_succ, i64_w, i32_w]
                      rfl
                    refine one_ (i := 5) (N := some 6) #[true, true, true, true, true, true, false] rfl rfl (by kernel_rfl) (by decide) (fun K hK => ?_)
                    refine box_step ?hg (N := 6) ?hd (cs := #[.int .i64 0, .int .i64 0, .int .i64 0, .slice none 0 0, .int .i64 0, .int .i64 0]) (t := 32) ?hr ?_; (case hd => rfl); (case hg => rfl); (case hr => first | (go_simp; done) | (go_simp; rfl))
                    intro gb264 hg w49 hbox hb
                    replace HO250 := rb HO250 hb
                    replace HO255 := rb HO255 hb
                    replace HO261 := rb HO261 hb
                    have BK264 := Aside0.mk (hbox)
                    have GW264 := Aside0.mk ((by rw [hg]; exact (below_size (bz HB)) : w.heap.size ≤ gb264))
                    have GE264 := Aside0.mk ((by rw [hg]; exact (below_size (bz HB)) : w.heap.size ≤ gb264))
                    replace HB := Aside0.mk (below_step (bz HB) hb)
                    have NB243_264 := nb BK243 hg
                    have NB264_243 := nc BK243 hg
                    replace BK243 := bk BK243 hb
                    have NB244_264 := nb BK244 hg
                    have NB264_244 := nc BK244 hg
                    replace BK244 := bk BK244 hb
                    clear hb hbox hg
                    refine hK.out _ _ ⟨(blk_cell BK243.out 0).trans rfl, (blk_cell BK243.out 1).trans rfl, (blk_cell BK243.out 2).trans rfl, (blk_cell BK243.out 3).trans rfl, (blk_cell BK244.out 0).trans rfl⟩ (fun hHeld => ?_)
                    clear hK K
                    refine norm_ (a' := ?_) ?_ ?_
                    rotate_left
                    · show Act.put _ (some 6) _ = _
                      simp only [Act.put, List.setIfInBounds_toArray, List.set_cons_zero, List.set_cons_succ, i64_w, i32_w]
                      rfl
                    exact norm_ (by simp only [putAll, Act.put, List.setIfInBounds_toArray, List.set_cons_zero, List.set_cons_succ]) (hCont (.slice Ao46 t248.length co46, .slice Ao47 t253.length co47, v260, gb264) _ ⟨hHeld, (by (with_reducible repeat (first | apply Kd.R_alloc | apply Kd.R_drewN | apply Kd.R_drew)); exact Kd.R_mono HO250.out (fun _ hk => hk.2)), (by (with_reducible repeat (first | apply Kd.R_alloc | apply Kd.R_drewN | apply Kd.R_drew)); exact HO255.out), (by (with_reducible repeat (first | apply Kd.R_alloc | apply Kd.R_drewN | apply Kd.R_drew)); exact Kd.R_mono HO261.out (fun _ hk => hk.2)), (by (with_reducible repeat (first | refine blk_drewN ?_ _ | refine blk_drew ?_ | refine blk_alloc ?_ _)); exact BK243.out), (by (with_reducible repeat (first | refine blk_drewN ?_ _ | refine blk_drew ?_ | refine blk_alloc ?_ _)); exact BK244.out), (by (with_reducible repeat (first | refine blk_drewN ?_ _ | refine blk_drew ?_ | refine blk_alloc ?_ _)); exact BK264.out), GW264.out, GE264.out, NB243_264.out, NB264_243.out, NB244_264.out, NB264_244.out, (bz HB)⟩)
                  · skip
                    refine box_step ?hg (N := 6) ?hd (cs := #[.int .i64 0, .int .i64 0, .int .i64 0, .slice none 0 0, .int .i64 0, .int .i64 0]) (t := 32) ?hr ?_; (case hd => rfl); (case hg => rfl); (case hr => first | (go_simp; done) | (go_simp; rfl))
                    intro gb264 hg w46 hbox hb
                    replace HO250 := rb HO250 hb
                    replace HO255 := rb HO255 hb
                    have BK264 := Aside0.mk (hbox)
                    have GW264 := Aside0.mk ((by rw [hg]; exact (below_size (bz HB)) : w.heap.size ≤ gb264))
                    have GE264 := Aside0.mk ((by rw [hg]; exact (below_size (bz HB)) : w.heap.size ≤ gb264))
                    replace HB := Aside0.mk (below_step (bz HB) hb)
                    have NB243_264 := nb BK243 hg
                    have NB264_243 := nc BK243 hg
                    replace BK243 := bk BK243 hb
                    have NB244_264 := nb BK244 hg
                    have NB264_244 := nc BK244 hg
                    replace BK244 := bk BK244 hb
                    clear hb hbox hg
                    obtain ⟨Ao47, co47, eo47⟩ := Kd.R_slice HO250.out
                    (first | subst eo47 | (injection eo47 with f1_ f2_ f3_; have f4_ := f1_.symm; have f5_ := f3_.symm; clear f1_ f2_ f3_; subst f4_; subst f5_))
                    obtain ⟨Ao48, co48, eo48⟩ := Kd.R_slice HO255.out
                    (first | subst eo48 | (injection eo48 with f1_ f2_ f3_; have f4_ := f1_.symm; have f5_ := f3_.symm; clear f1_ f2_ f3_; subst f4_; subst f5_))
                    refine hK.out _ _ ⟨(blk_cell BK243.out 0).trans rfl, (blk_cell BK243.out 1).trans rfl, (blk_cell BK243.out 2).trans rfl, (blk_cell BK243.out 3).trans rfl, (blk_cell BK244.out 0).trans rfl⟩ (fun hHeld => ?_)
                    clear hK K
                    refine norm_ (a' := ?_) ?_ ?_
                    rotate_left
                    · show Act.put _ (some 6) _ = _
                      simp only [Act.put, List.setIfInBounds_toArray, List.set_cons_zero, List.set_cons_succ, i64_w, i32_w]
                      rfl
                    refine one_ (i := 4) (N := some 28) #[true, true, true, true, true, true, false] rfl rfl (by kernel_rfl) (by decide) (fun K hK => ?_)
                    refine goes_ Try.func30 (by kernel_rfl) rfl #[.agg #[.int .i64 t247, .slice Ao47 t248.length co47, .int .i64 t251, .int .i64 t252], .agg #[.slice Ao48 t253.length co48]] (by rfl) rfl rfl (by (try simp only [List.map_toArray, List.map_cons, List.map_nil]); first | done | rfl | (simp only [List.length_drop, List.length_take]; rfl)) ?_
                    with_reducible refine (spec_ExtendIndex.calls k t247 _ _ t248 t251 t252 _ _ t253 t256 t257 t258 t259 t262 t263 _ ?side1 ?side2 ?side3 ?side4 A21.out).mono ?_
                    (case side1 => repeat (first | exact (Kd.R_reads' HO250.out).2.2 | (with_reducible refine Kd.C_alloc ?_ _) | (with_reducible refine Kd.C_drewN ?_ _) | (with_reducible refine Kd.C_drew ?_)))
                    (case side2 => exact (Kd.R_reads' HO250.out).2.1)
                    (case side3 => repeat (first | exact (Kd.R_reads' HO255.out).2.2 | (with_reducible refine Kd.C_alloc ?_ _) | (with_reducible refine Kd.C_drewN ?_ _) | (with_reducible refine Kd.C_drew ?_)))
                    (case side4 => exact (Kd.R_reads' HO255.out).2.1)
                    rintro e w49 ⟨v260, rfl, ho0, hb⟩
                    refine ⟨_, rfl, ?_⟩
                    replace HO255 := rb HO255 hb
                    have HO261 := Aside0.mk (Kd.R_lower (Kd.R_new' ho0 (Kd.R_lt (by (with_reducible repeat (first | apply Kd.R_alloc | apply Kd.R_drewN | apply Kd.R_drew)); exact HO250.out))) (below_size (bz HB)))
                    replace HO250 := Aside0.mk (Kd.R_elder' (by (with_reducible repeat (first | apply Kd.R_alloc | apply Kd.R_drewN | apply Kd.R_drew)); exact HO250.out) (Kd.R_base ho0) hb)
                    replace BK243 := bk BK243 hb
                    replace BK244 := bk BK244 hb
                    replace BK264 := bk BK264 hb
                    replace HB := Aside0.mk (below_step (bz HB) hb)
                    (try clear hb)
                    (try clear hb2)
                    (try clear hk)
                    (try clear hi)
                    (try clear ho0)
                    refine hK.out _ _ ⟨(blk_cell BK243.out 0).trans rfl, (blk_cell BK243.out 1).trans rfl, (blk_cell BK243.out 2).trans rfl, (blk_cell BK243.out 3).trans rfl, (blk_cell BK244.out 0).trans rfl⟩ (fun hHeld => ?_)
                    clear hK K
                    refine norm_ (a' := ?_) ?_ ?_
                    rotate_left
                    · show Act.put _ (some 28) _ = _
                      simp only [Act.put, List.setIfInBounds_toArray, List.set_cons_zero, List.set_cons_succ, i64_w, i32_w]
                      rfl
                    exact norm_ (by simp only [putAll, Act.put, List.setIfInBounds_toArray, List.set_cons_zero, List.set_cons_succ]) (hCont (.slice Ao47 t248.length co47, .slice Ao48 t253.length co48, v260, gb264) _ ⟨hHeld, (by (with_reducible repeat (first | apply Kd.R_alloc | apply Kd.R_drewN | apply Kd.R_drew)); exact Kd.R_mono HO250.out (fun _ hk => hk.2)), (by (with_reducible repeat (first | apply Kd.R_alloc | apply Kd.R_drewN | apply Kd.R_drew)); exact HO255.out), (by (with_reducible repeat (first | apply Kd.R_alloc | apply Kd.R_drewN | apply Kd.R_drew)); exact Kd.R_mono HO261.out (fun _ hk => hk.2)), (by (with_reducible repeat (first | refine blk_drewN ?_ _ | refine blk_drew ?_ | refine blk_alloc ?_ _)); exact BK243.out), (by (with_reducible repeat (first | refine blk_drewN ?_ _ | refine blk_drew ?_ | refine blk_alloc ?_ _)); exact BK244.out), (by (with_reducible repeat (first | refine blk_drewN ?_ _ | refine blk_drew ?_ | refine blk_alloc ?_ _)); exact BK264.out), GW264.out, GE264.out, NB243_264.out, NB264_243.out, NB244_264.out, NB264_244.out, (bz HB)⟩)
                · skip
                  refine box_step ?hg (N := 6) ?hd (cs := #[.int .i64 0, .int .i64 0, .int .i64 0, .slice none 0 0, .int .i64 0, .int .i64 0]) (t := 32) ?hr ?_; (case hd => rfl); (case hg => rfl); (case hr => first | (go_simp; done) | (go_simp; rfl))
                  intro gb264 hg w45 hbox hb
                  replace HO250 := rb HO250 hb
                  have BK264 := Aside0.mk (hbox)
                  have GW264 := Aside0.mk ((by rw [hg]; exact (below_size (bz HB)) : w.heap.size ≤ gb264))
                  have GE264 := Aside0.mk ((by rw [hg]; exact (below_size (bz HB)) : w.heap.size ≤ gb264))
                  replace HB := Aside0.mk (below_step (bz HB) hb)
                  have NB243_264 := nb BK243 hg
                  have NB264_243 := nc BK243 hg
                  replace BK243 := bk BK243 hb
                  have NB244_264 := nb BK244 hg
                  have NB264_244 := nc BK244 hg
                  replace BK244 := bk BK244 hb
                  clear hb hbox hg
                  refine hK.out _ _ ⟨(blk_cell BK243.out 0).trans rfl, (blk_cell BK243.out 1).trans rfl, (blk_cell BK243.out 2).trans rfl, (blk_cell BK243.out 3).trans rfl, (blk_cell BK244.out 0).trans rfl⟩ (fun hHeld => ?_)
                  clear hK K
                  refine norm_ (a' := ?_) ?_ ?_
                  rotate_left
                  · show Act.put _ (some 6) _ = _
                    simp only [Act.put, List.setIfInBounds_toArray, List.set_cons_zero, List.set_cons_succ, i64_w, i32_w]
                    rfl
                  refine one_ (i := 3) (N := some 27) #[true, true, true, true, false, true, false] rfl rfl (by kernel_rfl) (by decide) (fun K hK => ?_)
                  refine goes_ Try.func27 (by kernel_rfl) rfl #[.agg #[.slice A1_0 l1_0.length c1_0]] (by rfl) rfl rfl (by (try simp only [List.map_toArray, List.map_cons, List.map_nil]); first | done | rfl | (simp only [List.length_drop, List.length_take]; rfl)) ?_
                  with_reducible refine (laws_toFile.calls k _ _ l1_0 t253 _ ?side1 ?side2 A20.out).mono ?_
                  (case side1 => repeat (first | exact (Kd.C_below HR1_0.out HB.out) | (with_reducible refine Kd.C_alloc ?_ _) | (with_reducible refine Kd.C_drewN ?_ _) | (with_reducible refine Kd.C_drew ?_)))
                  (case side2 => exact HC1_0.out)
                  rintro e w46 ⟨v254, rfl, ho0, hb⟩
                  refine ⟨_, rfl, ?_⟩
                  replace HO250 := rb HO250 hb
                  have HO255 := Aside0.mk (Kd.R_lower ho0 (below_size (bz HB)))
                  replace BK243 := bk BK243 hb
                  replace BK244 := bk BK244 hb
                  replace BK264 := bk BK264 hb
                  replace HB := Aside0.mk (below_step (bz HB) hb)
                  (try clear hb)
                  (try clear hb2)
                  (try clear hk)
                  (try clear hi)
                  (try clear ho0)
                  obtain ⟨Ao47, co47, eo47⟩ := Kd.R_slice HO250.out
                  (first | subst eo47 | (injection eo47 with f1_ f2_ f3_; have f4_ := f1_.symm; have f5_ := f3_.symm; clear f1_ f2_ f3_; subst f4_; subst f5_))
                  obtain ⟨Ao48, co48, eo48⟩ := Kd.R_slice HO255.out
                  (first | subst eo48 | (injection eo48 with f1_ f2_ f3_; have f4_ := f1_.symm; have f5_ := f3_.symm; clear f1_ f2_ f3_; subst f4_; subst f5_))
                  refine hK.out _ _ ⟨(blk_cell BK243.out 0).trans rfl, (blk_cell BK243.out 1).trans rfl, (blk_cell BK243.out 2).trans rfl, (blk_cell BK243.out 3).trans rfl, (blk_cell BK244.out 0).trans rfl⟩ (fun hHeld => ?_)
                  clear hK K
                  refine norm_ (a' := ?_) ?_ ?_
                  rotate_left
                  · show Act.put _ (some 27) _ = _
                    simp only [Act.put, List.setIfInBounds_toArray, List.set_cons_zero, List.set_cons_succ, i64_w, i32_w]
                    rfl
                  refine one_ (i := 4) (N := some 28) #[true, true, true, true, true, true, false] rfl rfl (by kernel_rfl) (by decide) (fun K hK => ?_)
                  refine goes_ Try.func30 (by kernel_rfl) rfl #[.agg #[.int .i64 t247, .slice Ao47 t248.length co47, .int .i64 t251, .int .i64 t252], .agg #[.slice Ao48 t253.length co48]] (by rfl) rfl rfl (by (try simp only [List.map_toArray, List.map_cons, List.map_nil]); first | done | rfl | (simp only [List.length_drop, List.length_take]; rfl)) ?_
                  with_reducible refine (spec_ExtendIndex.calls k t247 _ _ t248 t251 t252 _ _ t253 t256 t257 t258 t259 t262 t263 _ ?side1 ?side2 ?side3 ?side4 A21.out).mono ?_
                  (case side1 => repeat (first | exact (Kd.R_reads' HO250.out).2.2 | (with_reducible refine Kd.C_alloc ?_ _) | (with_reducible refine Kd.C_drewN ?_ _) | (with_reducible refine Kd.C_drew ?_)))
                  (case side2 => exact (Kd.R_reads' HO250.out).2.1)
                  (case side3 => repeat (first | exact (Kd.R_reads' HO255.out).2.2 | (with_reducible refine Kd.C_alloc ?_ _) | (with_reducible refine Kd.C_drewN ?_ _) | (with_reducible refine Kd.C_drew ?_)))
                  (case side4 => exact (Kd.R_reads' HO255.out).2.1)
                  rintro e w49 ⟨v260, rfl, ho0, hb⟩
                  refine ⟨_, rfl, ?_⟩
                  replace HO255 := rb HO255 hb
                  have HO261 := Aside0.mk (Kd.R_lower (Kd.R_new' ho0 (Kd.R_lt (by (with_reducible repeat (first | apply Kd.R_alloc | apply Kd.R_drewN | apply Kd.R_drew)); exact HO250.out))) (below_size (bz HB)))
                  replace HO250 := Aside0.mk (Kd.R_elder' (by (with_reducible repeat (first | apply Kd.R_alloc | apply Kd.R_drewN | apply Kd.R_drew)); exact HO250.out) (Kd.R_base ho0) hb)
                  replace BK243 := bk BK243 hb
                  replace BK244 := bk BK244 hb
                  replace BK264 := bk BK264 hb
                  replace HB := Aside0.mk (below_step (bz HB) hb)
                  (try clear hb)
                  (try clear hb2)
                  (try clear hk)
                  (try clear hi)
                  (try clear ho0)
                  refine hK.out _ _ ⟨(blk_cell BK243.out 0).trans rfl, (blk_cell BK243.out 1).trans rfl, (blk_cell BK243.out 2).trans rfl, (blk_cell BK243.out 3).trans rfl, (blk_cell BK244.out 0).trans rfl⟩ (fun hHeld => ?_)
                  clear hK K
                  refine norm_ (a' := ?_) ?_ ?_
                  rotate_left
                  · show Act.put _ (some 28) _ = _
                    simp only [Act.put, List.setIfInBounds_toArray, List.set_cons_zero, List.set_cons_succ, i64_w, i32_w]
                    rfl
                  exact norm_ (by simp only [putAll, Act.put, List.setIfInBounds_toArray, List.set_cons_zero, List.set_cons_succ]) (hCont (.slice Ao47 t248.length co47, .slice Ao48 t253.length co48, v260, gb264) _ ⟨hHeld, (by (with_reducible repeat (first | apply Kd.R_alloc | apply Kd.R_drewN | apply Kd.R_drew)); exact Kd.R_mono HO250.out (fun _ hk => hk.2)), (by (with_reducible repeat (first | apply Kd.R_alloc | apply Kd.R_drewN | apply Kd.R_drew)); exact HO255.out), (by (with_reducible repeat (first | apply Kd.R_alloc | apply Kd.R_drewN | apply Kd.R_drew)); exact Kd.R_mono HO261.out (fun _ hk => hk.2)), (by (with_reducible repeat (first | refine blk_drewN ?_ _ | refine blk_drew ?_ | refine blk_alloc ?_ _)); exact BK243.out), (by (with_reducible repeat (first | refine blk_drewN ?_ _ | refine blk_drew ?_ | refine blk_alloc ?_ _)); exact BK244.out), (by (with_reducible repeat (first | refine blk_drewN ?_ _ | refine blk_drew ?_ | refine blk_alloc ?_ _)); exact BK264.out), GW264.out, GE264.out, NB243_264.out, NB264_243.out, NB244_264.out, NB264_244.out, (bz HB)⟩)
              · skip
                refine box_step ?hg (N := 6) ?hd (cs := #[.int .i64 0, .int .i64 0, .int .i64 0, .slice none 0 0, .int .i64 0, .int .i64 0]) (t := 32) ?hr ?_; (case hd => rfl); (case hg => rfl); (case hr => first | (go_simp; done) | (go_simp; rfl))
                intro gb264 hg w44 hbox hb
                have BK264 := Aside0.mk (hbox)
                have GW264 := Aside0.mk ((by rw [hg]; exact (below_size (bz HB)) : w.heap.size ≤ gb264))
                have GE264 := Aside0.mk ((by rw [hg]; exact (below_size (bz HB)) : w.heap.size ≤ gb264))
                replace HB := Aside0.mk (below_step (bz HB) hb)
                have NB243_264 := nb BK243 hg
                have NB264_243 := nc BK243 hg
                replace BK243 := bk BK243 hb
                have NB244_264 := nb BK244 hg
                have NB264_244 := nc BK244 hg
                replace BK244 := bk BK244 hb
                clear hb hbox hg
                refine hK.out _ _ ⟨(blk_cell BK243.out 0).trans rfl, (blk_cell BK243.out 1).trans rfl, (blk_cell BK243.out 2).trans rfl, (blk_cell BK243.out 3).trans rfl, (blk_cell BK244.out 0).trans rfl⟩ (fun hHeld => ?_)
                clear hK K
                refine norm_ (a' := ?_) ?_ ?_
                rotate_left
                · show Act.put _ (some 6) _ = _
                  simp only [Act.put, List.setIfInBounds_toArray, List.set_cons_zero, List.set_cons_succ, i64_w, i32_w]
                  rfl
                refine one_ (i := 1) (N := some 25) #[true, true, true, false, false, true, false] rfl rfl (by kernel_rfl) (by decide) (fun K hK => ?_)
                refine goes_ Try.func14 (by kernel_rfl) rfl #[.agg #[.int .i64 a0_0, .slice A0_1 l0_1.length c0_1, .int .i64 a0_2, .int .i64 a0_3]] (by rfl) rfl rfl (by (try simp only [List.map_toArray, List.map_cons, List.map_nil]); first | done | rfl | (simp only [List.length_drop, List.length_take]; rfl)) ?_
                with_reducible refine (laws_toIndex.calls k a0_0 _ _ l0_1 a0_2 a0_3 t247 t248 t251 t252 _ ?side1 ?side2 A19.out).mono ?_
                (case side1 => repeat (first | exact (Kd.C_below HR0_1.out HB.out) | (with_reducible refine Kd.C_alloc ?_ _) | (with_reducible refine Kd.C_drewN ?_ _) | (with_reducible refine Kd.C_drew ?_)))
                (case side2 => exact HC0_1.out)
                rintro e w45 ⟨v249, rfl, ho0, hb⟩
                refine ⟨_, rfl, ?_⟩
                have HO250 := Aside0.mk (Kd.R_lower ho0 (below_size (bz HB)))
                replace BK243 := bk BK243 hb
                replace BK244 := bk BK244 hb
                replace BK264 := bk BK264 hb
                replace HB := Aside0.mk (below_step (bz HB) hb)
                (try clear hb)
                (try clear hb2)
                (try clear hk)
                (try clear hi)
                (try clear ho0)
                refine hK.out _ _ ⟨(blk_cell BK243.out 0).trans rfl, (blk_cell BK243.out 1).trans rfl, (blk_cell BK243.out 2).trans rfl, (blk_cell BK243.out 3).trans rfl, (blk_cell BK244.out 0).trans rfl⟩ (fun hHeld => ?_)
                clear hK K
                refine norm_ (a' := ?_) ?_ ?_
                rotate_left
                · show Act.put _ (some 25) _ = _
                  simp only [Act.put, List.setIfInBounds_toArray, List.set_cons_zero, List.set_cons_succ, i64_w, i32_w]
                  rfl
                refine one_ (i := 3) (N := some 27) #[true, true, true, true, false, true, false] rfl rfl (by kernel_rfl) (by decide) (fun K hK => ?_)
                refine goes_ Try.func27 (by kernel_rfl) rfl #[.agg #[.slice A1_0 l1_0.length c1_0]] (by rfl) rfl rfl (by (try simp only [List.map_toArray, List.map_cons, List.map_nil]); first | done | rfl | (simp only [List.length_drop, List.length_take]; rfl)) ?_
                with_reducible refine (laws_toFile.calls k _ _ l1_0 t253 _ ?side1 ?side2 A20.out).mono ?_
                (case side1 => repeat (first | exact (Kd.C_below HR1_0.out HB.out) | (with_reducible refine Kd.C_alloc ?_ _) | (with_reducible refine Kd.C_drewN ?_ _) | (with_reducible refine Kd.C_drew ?_)))
                (case side2 => exact HC1_0.out)
                rintro e w46 ⟨v254, rfl, ho0, hb⟩
                refine ⟨_, rfl, ?_⟩
                replace HO250 := rb HO250 hb
                have HO255 := Aside0.mk (Kd.R_lower ho0 (below_size (bz HB)))
                replace BK243 := bk BK243 hb
                replace BK244 := bk BK244 hb
                replace BK264 := bk BK264 hb
                replace HB := Aside0.mk (below_step (bz HB) hb)
                (try clear hb)
                (try clear hb2)
                (try clear hk)
                (try clear hi)
                (try clear ho0)
                obtain ⟨Ao47, co47, eo47⟩ := Kd.R_slice HO250.out
                (first | subst eo47 | (injection eo47 with f1_ f2_ f3_; have f4_ := f1_.symm; have f5_ := f3_.symm; clear f1_ f2_ f3_; subst f4_; subst f5_))
                obtain ⟨Ao48, co48, eo48⟩ := Kd.R_slice HO255.out
                (first | subst eo48 | (injection eo48 with f1_ f2_ f3_; have f4_ := f1_.symm; have f5_ := f3_.symm; clear f1_ f2_ f3_; subst f4_; subst f5_))
                refine hK.out _ _ ⟨(blk_cell BK243.out 0).trans rfl, (blk_cell BK243.out 1).trans rfl, (blk_cell BK243.out 2).trans rfl, (blk_cell BK243.out 3).trans rfl, (blk_cell BK244.out 0).trans rfl⟩ (fun hHeld => ?_)
                clear hK K
                refine norm_ (a' := ?_) ?_ ?_
                rotate_left
                · show Act.put _ (some 27) _ = _
                  simp only [Act.put, List.setIfInBounds_toArray, List.set_cons_zero, List.set_cons_succ, i64_w, i32_w]
                  rfl
                refine one_ (i := 4) (N := some 28) #[true, true, true, true, true, true, false] rfl rfl (by kernel_rfl) (by decide) (fun K hK => ?_)
                refine goes_ Try.func30 (by kernel_rfl) rfl #[.agg #[.int .i64 t247, .slice Ao47 t248.length co47, .int .i64 t251, .int .i64 t252], .agg #[.slice Ao48 t253.length co48]] (by rfl) rfl rfl (by (try simp only [List.map_toArray, List.map_cons, List.map_nil]); first | done | rfl | (simp only [List.length_drop, List.length_take]; rfl)) ?_
                with_reducible refine (spec_ExtendIndex.calls k t247 _ _ t248 t251 t252 _ _ t253 t256 t257 t258 t259 t262 t263 _ ?side1 ?side2 ?side3 ?side4 A21.out).mono ?_
                (case side1 => repeat (first | exact (Kd.R_reads' HO250.out).2.2 | (with_reducible refine Kd.C_alloc ?_ _) | (with_reducible refine Kd.C_drewN ?_ _) | (with_reducible refine Kd.C_drew ?_)))
                (case side2 => exact (Kd.R_reads' HO250.out).2.1)
                (case side3 => repeat (first | exact (Kd.R_reads' HO255.out).2.2 | (with_reducible refine Kd.C_alloc ?_ _) | (with_reducible refine Kd.C_drewN ?_ _) | (with_reducible refine Kd.C_drew ?_)))
                (case side4 => exact (Kd.R_reads' HO255.out).2.1)
                rintro e w49 ⟨v260, rfl, ho0, hb⟩
                refine ⟨_, rfl, ?_⟩
                replace HO255 := rb HO255 hb
                have HO261 := Aside0.mk (Kd.R_lower (Kd.R_new' ho0 (Kd.R_lt (by (with_reducible repeat (first | apply Kd.R_alloc | apply Kd.R_drewN | apply Kd.R_drew)); exact HO250.out))) (below_size (bz HB)))
                replace HO250 := Aside0.mk (Kd.R_elder' (by (with_reducible repeat (first | apply Kd.R_alloc | apply Kd.R_drewN | apply Kd.R_drew)); exact HO250.out) (Kd.R_base ho0) hb)
                replace BK243 := bk BK243 hb
                replace BK244 := bk BK244 hb
                replace BK264 := bk BK264 hb
                replace HB := Aside0.mk (below_step (bz HB) hb)
                (try clear hb)
                (try clear hb2)
                (try clear hk)
                (try clear hi)
                (try clear ho0)
                refine hK.out _ _ ⟨(blk_cell BK243.out 0).trans rfl, (blk_cell BK243.out 1).trans rfl, (blk_cell BK243.out 2).trans rfl, (blk_cell BK243.out 3).trans rfl, (blk_cell BK244.out 0).trans rfl⟩ (fun hHeld => ?_)
                clear hK K
                refine norm_ (a' := ?_) ?_ ?_
                rotate_left
                · show Act.put _ (some 28) _ = _
                  simp only [Act.put, List.setIfInBounds_toArray, List.set_cons_zero, List.set_cons_succ, i64_w, i32_w]
                  rfl
                exact norm_ (by simp only [putAll, Act.put, List.setIfInBounds_toArray, List.set_cons_zero, List.set_cons_succ]) (hCont (.slice Ao47 t248.length co47, .slice Ao48 t253.length co48, v260, gb264) _ ⟨hHeld, (by (with_reducible repeat (first | apply Kd.R_alloc | apply Kd.R_drewN | apply Kd.R_drew)); exact Kd.R_mono HO250.out (fun _ hk => hk.2)), (by (with_reducible repeat (first | apply Kd.R_alloc | apply Kd.R_drewN | apply Kd.R_drew)); exact HO255.out), (by (with_reducible repeat (first | apply Kd.R_alloc | apply Kd.R_drewN | apply Kd.R_drew)); exact Kd.R_mono HO261.out (fun _ hk => hk.2)), (by (with_reducible repeat (first | refine blk_drewN ?_ _ | refine blk_drew ?_ | refine blk_alloc ?_ _)); exact BK243.out), (by (with_reducible repeat (first | refine blk_drewN ?_ _ | refine blk_drew ?_ | refine blk_alloc ?_ _)); exact BK244.out), (by (with_reducible repeat (first | refine blk_drewN ?_ _ | refine blk_drew ?_ | refine blk_alloc ?_ _)); exact BK264.out), GW264.out, GE264.out, NB243_264.out, NB264_243.out, NB244_264.out, NB264_244.out, (bz HB)⟩)
            rintro ⟨v249, v254, v260, gb264⟩ w50 ⟨hS_, h0_, h1_, h2_, h3_, h4_, h5_, h6_, h7_, h8_, h9_, h10_, h11_, h12_⟩
            have n0_ : Aside0 (Kd.R (Kd.int .i64) 2 w50 w.heap.size (fun k_ => some k_ ≠ (v260 : Value).ownBlock) v249 t248) := ⟨h0_⟩
            have n1_ : Aside0 (Kd.R (Kd.int .u8) 5 w50 w.heap.size (fun _ => True) v254 t253) := ⟨h1_⟩
            have n2_ : Aside0 (Kd.R (Kd.int .i64) 2 w50 w.heap.size (fun k_ => some k_ ≠ (v249 : Value).ownBlock) v260 t259) := ⟨h2_⟩
            have n3_ : Aside0 (w50.heap[gb243]? = some (.cells #[.int .i64 a0_0, .slice A0_1 l0_1.length c0_1, .int .i64 a0_2, .int .i64 a0_3] 24 (0, 0))) := ⟨h3_⟩
            have n4_ : Aside0 (w50.heap[gb244]? = some (.cells #[.slice A1_0 l1_0.length c1_0] 42 (0, 0))) := ⟨h4_⟩
            have n5_ : Aside0 (w50.heap[gb264]? = some (.cells #[.int .i64 0, .int .i64 0, .int .i64 0, .slice none 0 0, .int .i64 0, .int .i64 0] 32 (0, 0))) := ⟨h5_⟩
            have n6_ : Aside0 (w.heap.size ≤ gb264) := ⟨h6_⟩
            have n7_ : Aside0 (w.heap.size ≤ gb264) := ⟨h7_⟩
            have n8_ : Aside0 (gb243 ≠ gb264) := ⟨h8_⟩
            have n9_ : Aside0 (gb264 ≠ gb243) := ⟨h9_⟩
            have n10_ : Aside0 (gb244 ≠ gb264) := ⟨h10_⟩
            have n11_ : Aside0 (gb264 ≠ gb244) := ⟨h11_⟩
            have n12_ : Aside0 (Below w.heap.size w w50) := ⟨h12_⟩
            clear BK243
            clear BK244
            clear HB
            clear h0_ h1_ h2_ h3_ h4_ h5_ h6_ h7_ h8_ h9_ h10_ h11_ h12_
            have HO250 := n0_
            have HO255 := n1_
            have HO261 := n2_
            have BK243 := n3_
            have BK244 := n4_
            have BK264 := n5_
            have GW264 := n6_
            have GE264 := n7_
            have NB243_264 := n8_
            have NB264_243 := n9_
            have NB244_264 := n10_
            have NB264_244 := n11_
            have HB := n12_
            clear n0_ n1_ n2_ n3_ n4_ n5_ n6_ n7_ n8_ n9_ n10_ n11_ n12_
            have hHeld : w50.cell? ⟨gb243, 0, none⟩ = some (.int .i64 a0_0) ∧ w50.cell? ⟨gb243, 1, none⟩ = some (.slice A0_1 l0_1.length c0_1) ∧ w50.cell? ⟨gb243, 2, none⟩ = some (.int .i64 a0_2) ∧ w50.cell? ⟨gb243, 3, none⟩ = some (.int .i64 a0_3) ∧ w50.cell? ⟨gb244, 0, none⟩ = some (.slice A1_0 l1_0.length c1_0) := hS_
            obtain ⟨Ao54, co54, eo54⟩ := Kd.R_slice HO261.out
            (first | subst eo54 | (injection eo54 with f1_ f2_ f3_; have f4_ := f1_.symm; have f5_ := f3_.symm; clear f1_ f2_ f3_; subst f4_; subst f5_))
            refine norm_ (a' := ?_) ?_ ?_
            rotate_left
            · simp only [putAll, Act.put, List.setIfInBounds_toArray, List.set_cons_zero, List.set_cons_succ]
              rfl
            refine one_ (i := 6) (N := none) #[true, true, true, true, true, true, true] rfl rfl (by kernel_rfl) (by decide) (fun K hK => ?_)
            have hs51 : w50.cell? ⟨gb264, 0, none⟩ = some (.int .i64 0) := (blk_cell BK264.out 0).trans rfl
            have hfs51 := blk_frozen BK264.out 0
            have hns51_0 := NB243_264.out
            have hns51_1 := NB244_264.out
            have hms51_0 := NB264_243.out
            have hms51_1 := NB264_244.out
            have hs52 : w50.cell? ⟨gb264, 1, none⟩ = some (.int .i64 0) := (blk_cell BK264.out 1).trans rfl
            have hfs52 := blk_frozen BK264.out 1
            have hns52_0 := NB243_264.out
            have hns52_1 := NB244_264.out
            have hms52_0 := NB264_243.out
            have hms52_1 := NB264_244.out
            have hs53 : w50.cell? ⟨gb264, 2, none⟩ = some (.int .i64 0) := (blk_cell BK264.out 2).trans rfl
            have hfs53 := blk_frozen BK264.out 2
            have hns53_0 := NB243_264.out
            have hns53_1 := NB244_264.out
            have hms53_0 := NB264_243.out
            have hms53_1 := NB264_244.out
            have hs55 : w50.cell? ⟨gb264, 3, none⟩ = some (.slice none 0 0) := (blk_cell BK264.out 3).trans rfl
            have hfs55 := blk_frozen BK264.out 3
            have hns55_0 := NB243_264.out
            have hns55_1 := NB244_264.out
            have hms55_0 := NB264_243.out
            have hms55_1 := NB264_244.out
            have hs56 : w50.cell? ⟨gb264, 4, none⟩ = some (.int .i64 0) := (blk_cell BK264.out 4).trans rfl
            have hfs56 := blk_frozen BK264.out 4
            have hns56_0 := NB243_264.out
            have hns56_1 := NB244_264.out
            have hms56_0 := NB264_243.out
            have hms56_1 := NB264_244.out
            have hs57 : w50.cell? ⟨gb264, 5, none⟩ = some (.int .i64 0) := (blk_cell BK264.out 5).trans rfl
            have hfs57 := blk_frozen BK264.out 5
            have hns57_0 := NB243_264.out
            have hns57_1 := NB244_264.out
            have hms57_0 := NB264_243.out
            have hms57_1 := NB264_244.out
            refine skip_ (w1 := ?_) (by rfl) rfl ?_ ?_
            rotate_left
            · go_simp
              rfl
            refine hK.out _ _ ⟨((cell_far (p := ⟨gb264, _, none⟩) NB243_264.out _).trans (((cell_far (p := ⟨gb264, _, none⟩) NB243_264.out _).trans (((cell_far (p := ⟨gb264, _, none⟩) NB243_264.out _).trans (((cell_far (p := ⟨gb264, _, none⟩) NB243_264.out _).trans (((cell_far (p := ⟨gb264, _, none⟩) NB243_264.out _).trans (((cell_far (p := ⟨gb264, _, none⟩) NB243_264.out _).trans (hHeld.1)))))))))))), ((cell_far (p := ⟨gb264, _, none⟩) NB243_264.out _).trans (((cell_far (p := ⟨gb264, _, none⟩) NB243_264.out _).trans (((cell_far (p := ⟨gb264, _, none⟩) NB243_264.out _).trans (((cell_far (p := ⟨gb264, _, none⟩) NB243_264.out _).trans (((cell_far (p := ⟨gb264, _, none⟩) NB243_264.out _).trans (((cell_far (p := ⟨gb264, _, none⟩) NB243_264.out _).trans (hHeld.2.1)))))))))))), ((cell_far (p := ⟨gb264, _, none⟩) NB243_264.out _).trans (((cell_far (p := ⟨gb264, _, none⟩) NB243_264.out _).trans (((cell_far (p := ⟨gb264, _, none⟩) NB243_264.out _).trans (((cell_far (p := ⟨gb264, _, none⟩) NB243_264.out _).trans (((cell_far (p := ⟨gb264, _, none⟩) NB243_264.out _).trans (((cell_far (p := ⟨gb264, _, none⟩) NB243_264.out _).trans (hHeld.2.2.1)))))))))))), ((cell_far (p := ⟨gb264, _, none⟩) NB243_264.out _).trans (((cell_far (p := ⟨gb264, _, none⟩) NB243_264.out _).trans (((cell_far (p := ⟨gb264, _, none⟩) NB243_264.out _).trans (((cell_far (p := ⟨gb264, _, none⟩) NB243_264.out _).trans (((cell_far (p := ⟨gb264, _, none⟩) NB243_264.out _).trans (((cell_far (p := ⟨gb264, _, none⟩) NB243_264.out _).trans (hHeld.2.2.2.1)))))))))))), ((cell_far (p := ⟨gb264, _, none⟩) NB244_264.out _).trans (((cell_far (p := ⟨gb264, _, none⟩) NB244_264.out _).trans (((cell_far (p := ⟨gb264, _, none⟩) NB244_264.out _).trans (((cell_far (p := ⟨gb264, _, none⟩) NB244_264.out _).trans (((cell_far (p := ⟨gb264, _, none⟩) NB244_264.out _).trans (((cell_far (p := ⟨gb264, _, none⟩) NB244_264.out _).trans (hHeld.2.2.2.2))))))))))))⟩ (fun hHeld => ?_)
            clear hK K
            refine done_ (by kernel_rfl) ?_
            have hnb58 := NB243_264.out
            have hnc58 := NB264_243.out
            have hcz59_0 : w50.cell? ⟨gb243, 0, none⟩ = some (.int .i64 a0_0) := (blk_cell BK243.out 0).trans rfl
            have hcz59_1 : w50.cell? ⟨gb243, 1, none⟩ = some (.slice A0_1 l0_1.length c0_1) := (blk_cell BK243.out 1).trans rfl
            have hcz59_2 : w50.cell? ⟨gb243, 2, none⟩ = some (.int .i64 a0_2) := (blk_cell BK243.out 2).trans rfl
            have hcz59_3 : w50.cell? ⟨gb243, 3, none⟩ = some (.int .i64 a0_3) := (blk_cell BK243.out 3).trans rfl
            have hfz59_0 := blk_frozen BK243.out 0
            have hfz59_1 := blk_frozen BK243.out 1
            have hfz59_2 := blk_frozen BK243.out 2
            have hfz59_3 := blk_frozen BK243.out 3
            try go_wp2_with (first | ((with_reducible refine gate_callee (f := 14) rfl ?_); refine goesL_ (some 30) rfl rfl Try.func14 (by kernel_rfl) rfl #[.agg #[.int .i64 a0_0, .slice A0_1 l0_1.length c0_1, .int .i64 a0_2, .int .i64 a0_3]] rfl (by (try simp only [List.map_toArray, List.map_cons, List.map_nil]); first | done | rfl | (simp only [List.length_drop, List.length_take]; rfl)) ?_; (with_reducible refine (laws_toIndex.calls k a0_0 _ _ l0_1 a0_2 a0_3 t265 t266 t269 t270 _ ?side1 ?side2 A22.out).mono ?_); (case side1 => exact Kd.C_below HR0_1.out (bz HB)); (case side2 => exact HC0_1.out); rintro e w60 ⟨v267, rfl, ho0, hb⟩; refine ⟨_, rfl, ?_⟩; replace HO255 := Aside0.mk (Kd.R_below (by (with_reducible repeat (first | apply Kd.R_alloc | apply Kd.R_drewN | apply Kd.R_drew)); exact (Kd.R_mono (Kd.R_far (p := ⟨gb264, 5, none⟩) (Kd.R_far (p := ⟨gb264, 4, none⟩) (Kd.R_far (p := ⟨gb264, 3, none⟩) (Kd.R_far (p := ⟨gb264, 2, none⟩) (Kd.R_far (p := ⟨gb264, 1, none⟩) (Kd.R_far (p := ⟨gb264, 0, none⟩) (Kd.R_types HO255.out BK264.out (by decide)) (fun _ hk => hk.2) (.int .i64 t256)) (fun _ hk => hk.2) (.int .i64 t257)) (fun _ hk => hk.2) (.int .i64 t258)) (fun _ hk => hk.2) (.slice Ao54 t259.length co54)) (fun _ hk => hk.2) (.int .i64 t262)) (fun _ hk => hk.2) (.int .i64 t263)) (fun _ h_ => h_.1))) hb); have HO268 := Aside0.mk (Kd.R_lower (Kd.R_new' (Kd.R_new' ho0 (Kd.R_lt (by (with_reducible repeat (first | apply Kd.R_alloc | apply Kd.R_drewN | apply Kd.R_drew)); exact (Kd.R_mono (Kd.R_far (p := ⟨gb264, 5, none⟩) (Kd.R_far (p := ⟨gb264, 4, none⟩) (Kd.R_far (p := ⟨gb264, 3, none⟩) (Kd.R_far (p := ⟨gb264, 2, none⟩) (Kd.R_far (p := ⟨gb264, 1, none⟩) (Kd.R_far (p := ⟨gb264, 0, none⟩) (Kd.R_types HO250.out BK264.out (by decide)) (fun _ hk => hk.2) (.int .i64 t256)) (fun _ hk => hk.2) (.int .i64 t257)) (fun _ hk => hk.2) (.int .i64 t258)) (fun _ hk => hk.2) (.slice Ao54 t259.length co54)) (fun _ hk => hk.2) (.int .i64 t262)) (fun _ hk => hk.2) (.int .i64 t263)) (fun _ h_ => h_.1))))) (Kd.R_lt (by (with_reducible repeat (first | apply Kd.R_alloc | apply Kd.R_drewN | apply Kd.R_drew)); exact (Kd.R_mono (Kd.R_far (p := ⟨gb264, 5, none⟩) (Kd.R_far (p := ⟨gb264, 4, none⟩) (Kd.R_far (p := ⟨gb264, 3, none⟩) (Kd.R_far (p := ⟨gb264, 2, none⟩) (Kd.R_far (p := ⟨gb264, 1, none⟩) (Kd.R_far (p := ⟨gb264, 0, none⟩) (Kd.R_types HO261.out BK264.out (by decide)) (fun _ hk => hk.2) (.int .i64 t256)) (fun _ hk => hk.2) (.int .i64 t257)) (fun _ hk => hk.2) (.int .i64 t258)) (fun _ hk => hk.2) (.slice Ao54 t259.length co54)) (fun _ hk => hk.2) (.int .i64 t262)) (fun _ hk => hk.2) (.int .i64 t263)) (fun _ h_ => h_.1))))) (below_size (bz HB))); replace HO250 := Aside0.mk (Kd.R_elder' (by (with_reducible repeat (first | apply Kd.R_alloc | apply Kd.R_drewN | apply Kd.R_drew)); exact (Kd.R_mono (Kd.R_far (p := ⟨gb264, 5, none⟩) (Kd.R_far (p := ⟨gb264, 4, none⟩) (Kd.R_far (p := ⟨gb264, 3, none⟩) (Kd.R_far (p := ⟨gb264, 2, none⟩) (Kd.R_far (p := ⟨gb264, 1, none⟩) (Kd.R_far (p := ⟨gb264, 0, none⟩) (Kd.R_types HO250.out BK264.out (by decide)) (fun _ hk => hk.2) (.int .i64 t256)) (fun _ hk => hk.2) (.int .i64 t257)) (fun _ hk => hk.2) (.int .i64 t258)) (fun _ hk => hk.2) (.slice Ao54 t259.length co54)) (fun _ hk => hk.2) (.int .i64 t262)) (fun _ hk => hk.2) (.int .i64 t263)) (fun _ h_ => h_.1))) (Kd.R_base ho0) hb); replace HO261 := Aside0.mk (Kd.R_elder' (by (with_reducible repeat (first | apply Kd.R_alloc | apply Kd.R_drewN | apply Kd.R_drew)); exact (Kd.R_mono (Kd.R_far (p := ⟨gb264, 5, none⟩) (Kd.R_far (p := ⟨gb264, 4, none⟩) (Kd.R_far (p := ⟨gb264, 3, none⟩) (Kd.R_far (p := ⟨gb264, 2, none⟩) (Kd.R_far (p := ⟨gb264, 1, none⟩) (Kd.R_far (p := ⟨gb264, 0, none⟩) (Kd.R_types HO261.out BK264.out (by decide)) (fun _ hk => hk.2) (.int .i64 t256)) (fun _ hk => hk.2) (.int .i64 t257)) (fun _ hk => hk.2) (.int .i64 t258)) (fun _ hk => hk.2) (.slice Ao54 t259.length co54)) (fun _ hk => hk.2) (.int .i64 t262)) (fun _ hk => hk.2) (.int .i64 t263)) (fun _ h_ => h_.1))) (Kd.R_base ho0) hb); replace BK243 := Aside0.mk (blk_below (g := gb243) (o := .cells #[.int .i64 a0_0, .slice A0_1 l0_1.length c0_1, .int .i64 a0_2, .int .i64 a0_3] 24 (0, 0)) (by (with_reducible repeat (first | refine blk_drewN ?_ _ | refine blk_drew ?_ | refine blk_alloc ?_ _)); refine blk_far ?_ NB243_264.out _; refine blk_far ?_ NB243_264.out _; refine blk_far ?_ NB243_264.out _; refine blk_far ?_ NB243_264.out _; refine blk_far ?_ NB243_264.out _; refine blk_far ?_ NB243_264.out _; (with_reducible repeat (first | refine blk_drewN ?_ _ | refine blk_drew ?_ | refine blk_alloc ?_ _)); exact BK243.out) hb); replace BK244 := Aside0.mk (blk_below (g := gb244) (o := .cells #[.slice A1_0 l1_0.length c1_0] 42 (0, 0)) (by (with_reducible repeat (first | refine blk_drewN ?_ _ | refine blk_drew ?_ | refine blk_alloc ?_ _)); refine blk_far ?_ NB244_264.out _; refine blk_far ?_ NB244_264.out _; refine blk_far ?_ NB244_264.out _; refine blk_far ?_ NB244_264.out _; refine blk_far ?_ NB244_264.out _; refine blk_far ?_ NB244_264.out _; (with_reducible repeat (first | refine blk_drewN ?_ _ | refine blk_drew ?_ | refine blk_alloc ?_ _)); exact BK244.out) hb); replace BK264 := Aside0.mk (blk_below (g := gb264) (o := .cells #[.int .i64 t256, .int .i64 t257, .int .i64 t258, .slice Ao54 t259.length co54, .int .i64 t262, .int .i64 t263] 32 (0, 0)) (by (with_reducible repeat (first | refine blk_drewN ?_ _ | refine blk_drew ?_ | refine blk_alloc ?_ _)); refine blk_put (cs := #[.int .i64 t256, .int .i64 t257, .int .i64 t258, .slice Ao54 t259.length co54, .int .i64 t262, .int .i64 0]) ?_ 5 _ rfl; refine blk_put (cs := #[.int .i64 t256, .int .i64 t257, .int .i64 t258, .slice Ao54 t259.length co54, .int .i64 0, .int .i64 0]) ?_ 4 _ rfl; refine blk_put (cs := #[.int .i64 t256, .int .i64 t257, .int .i64 t258, .slice none 0 0, .int .i64 0, .int .i64 0]) ?_ 3 _ rfl; refine blk_put (cs := #[.int .i64 t256, .int .i64 t257, .int .i64 0, .slice none 0 0, .int .i64 0, .int .i64 0]) ?_ 2 _ rfl; refine blk_put (cs := #[.int .i64 t256, .int .i64 0, .int .i64 0, .slice none 0 0, .int .i64 0, .int .i64 0]) ?_ 1 _ rfl; refine blk_put (cs := #[.int .i64 0, .int .i64 0, .int .i64 0, .slice none 0 0, .int .i64 0, .int .i64 0]) ?_ 0 _ rfl; (with_reducible repeat (first | refine blk_drewN ?_ _ | refine blk_drew ?_ | refine blk_alloc ?_ _)); exact BK264.out) hb); replace HB := Aside0.mk (below_step (bz HB) hb); (try clear hb); (try clear hb2); (try clear hk); (try clear hi); (try clear ho0)) | ((with_reducible refine gate_dst (N := 7) rfl ?_); refine box_event ?hg (N := 7) ?hd (cs := #[.int .i64 0, .slice none 0 0, .int .i64 0, .int .i64 0]) (t := 27) ?hr ?_; (case hd => rfl); (case hg => rfl); (case hr => first | (go_simp; done) | (go_simp; rfl)); intro gb271 hg w61 hbox hb; replace HO250 := rb HO250 hb; replace HO255 := rb HO255 hb; replace HO261 := rb HO261 hb; replace HO268 := rb HO268 hb; have BK271 := Aside0.mk (hbox); have GW271 := Aside0.mk ((by rw [hg]; exact (below_size (bz HB)) : w.heap.size ≤ gb271)); have GE271 := Aside0.mk ((by rw [hg]; exact (below_size (bz HB)) : w.heap.size ≤ gb271)); replace HB := Aside0.mk (below_step (bz HB) hb); have NB243_271 := nb BK243 hg; have NB271_243 := nc BK243 hg; replace BK243 := bk BK243 hb; have NB244_271 := nb BK244 hg; have NB271_244 := nc BK244 hg; replace BK244 := bk BK244 hb; have NB264_271 := nb BK264 hg; have NB271_264 := nc BK264 hg; replace BK264 := bk BK264 hb; clear hb hbox hg; have hnb62 := NB271_243.out; have hnc62 := NB243_271.out; have hnb63 := NB271_244.out; have hnc63 := NB244_271.out; have hnb64 := NB271_264.out; have hnc64 := NB264_271.out; have hcz65_0 : w61.cell? ⟨gb271, 0, none⟩ = some (.int .i64 0) := (blk_cell BK271.out 0).trans rfl; have hcz65_1 : w61.cell? ⟨gb271, 1, none⟩ = some (.slice none 0 0) := (blk_cell BK271.out 1).trans rfl; have hcz65_2 : w61.cell? ⟨gb271, 2, none⟩ = some (.int .i64 0) := (blk_cell BK271.out 2).trans rfl; have hcz65_3 : w61.cell? ⟨gb271, 3, none⟩ = some (.int .i64 0) := (blk_cell BK271.out 3).trans rfl; have hfz65_0 := blk_frozen BK271.out 0; have hfz65_1 := blk_frozen BK271.out 1; have hfz65_2 := blk_frozen BK271.out 2; have hfz65_3 := blk_frozen BK271.out 3; obtain ⟨Ao66, co66, eo66⟩ := Kd.R_slice HO268.out; subst eo66; have hnb67 := NB244_264.out; have hnc67 := NB264_244.out; have hcz68_0 : w61.cell? ⟨gb244, 0, none⟩ = some (.slice A1_0 l1_0.length c1_0) := (blk_cell BK244.out 0).trans rfl; have hfz68_0 := blk_frozen BK244.out 0) | ((with_reducible refine gate_callee (f := 27) rfl ?_); refine goesL_ (some 32) rfl rfl Try.func27 (by kernel_rfl) rfl #[.agg #[.slice A1_0 l1_0.length c1_0]] rfl (by (try simp only [List.map_toArray, List.map_cons, List.map_nil]); first | done | rfl | (simp only [List.length_drop, List.length_take]; rfl)) ?_; (with_reducible refine (laws_toFile.calls k _ _ l1_0 t272 _ ?side1 ?side2 A23.out).mono ?_); (case side1 => exact Kd.C_below HR1_0.out (bz HB)); (case side2 => exact HC1_0.out); rintro e w69 ⟨v273, rfl, ho0, hb⟩; refine ⟨_, rfl, ?_⟩; replace HO250 := Aside0.mk (Kd.R_below (by (with_reducible repeat (first | apply Kd.R_alloc | apply Kd.R_drewN | apply Kd.R_drew)); exact (Kd.R_mono (Kd.R_far (p := ⟨gb271, 3, none⟩) (Kd.R_far (p := ⟨gb271, 2, none⟩) (Kd.R_far (p := ⟨gb271, 1, none⟩) (Kd.R_far (p := ⟨gb271, 0, none⟩) (Kd.R_types HO250.out BK271.out (by decide)) (fun _ hk => hk.2) (.int .i64 t265)) (fun _ hk => hk.2) (.slice Ao66 t266.length co66)) (fun _ hk => hk.2) (.int .i64 t269)) (fun _ hk => hk.2) (.int .i64 t270)) (fun _ h_ => h_.1))) hb); replace HO261 := Aside0.mk (Kd.R_below (by (with_reducible repeat (first | apply Kd.R_alloc | apply Kd.R_drewN | apply Kd.R_drew)); exact (Kd.R_mono (Kd.R_far (p := ⟨gb271, 3, none⟩) (Kd.R_far (p := ⟨gb271, 2, none⟩) (Kd.R_far (p := ⟨gb271, 1, none⟩) (Kd.R_far (p := ⟨gb271, 0, none⟩) (Kd.R_types HO261.out BK271.out (by decide)) (fun _ hk => hk.2) (.int .i64 t265)) (fun _ hk => hk.2) (.slice Ao66 t266.length co66)) (fun _ hk => hk.2) (.int .i64 t269)) (fun _ hk => hk.2) (.int .i64 t270)) (fun _ h_ => h_.1))) hb); replace HO268 := Aside0.mk (Kd.R_below (by (with_reducible repeat (first | apply Kd.R_alloc | apply Kd.R_drewN | apply Kd.R_drew)); exact (Kd.R_mono (Kd.R_far (p := ⟨gb271, 3, none⟩) (Kd.R_far (p := ⟨gb271, 2, none⟩) (Kd.R_far (p := ⟨gb271, 1, none⟩) (Kd.R_far (p := ⟨gb271, 0, none⟩) (Kd.R_types HO268.out BK271.out (by decide)) (fun _ hk => hk.2) (.int .i64 t265)) (fun _ hk => hk.2) (.slice Ao66 t266.length co66)) (fun _ hk => hk.2) (.int .i64 t269)) (fun _ hk => hk.2) (.int .i64 t270)) (fun _ h_ => h_.1))) hb); have HO274 := Aside0.mk (Kd.R_lower (Kd.R_new' ho0 (Kd.R_lt (by (with_reducible repeat (first | apply Kd.R_alloc | apply Kd.R_drewN | apply Kd.R_drew)); exact (Kd.R_mono (Kd.R_far (p := ⟨gb271, 3, none⟩) (Kd.R_far (p := ⟨gb271, 2, none⟩) (Kd.R_far (p := ⟨gb271, 1, none⟩) (Kd.R_far (p := ⟨gb271, 0, none⟩) (Kd.R_types HO255.out BK271.out (by decide)) (fun _ hk => hk.2) (.int .i64 t265)) (fun _ hk => hk.2) (.slice Ao66 t266.length co66)) (fun _ hk => hk.2) (.int .i64 t269)) (fun _ hk => hk.2) (.int .i64 t270)) (fun _ h_ => h_.1))))) (below_size (bz HB))); replace HO255 := Aside0.mk (Kd.R_elder' (by (with_reducible repeat (first | apply Kd.R_alloc | apply Kd.R_drewN | apply Kd.R_drew)); exact (Kd.R_mono (Kd.R_far (p := ⟨gb271, 3, none⟩) (Kd.R_far (p := ⟨gb271, 2, none⟩) (Kd.R_far (p := ⟨gb271, 1, none⟩) (Kd.R_far (p := ⟨gb271, 0, none⟩) (Kd.R_types HO255.out BK271.out (by decide)) (fun _ hk => hk.2) (.int .i64 t265)) (fun _ hk => hk.2) (.slice Ao66 t266.length co66)) (fun _ hk => hk.2) (.int .i64 t269)) (fun _ hk => hk.2) (.int .i64 t270)) (fun _ h_ => h_.1))) (Kd.R_base ho0) hb); replace BK243 := Aside0.mk (blk_below (g := gb243) (o := .cells #[.int .i64 a0_0, .slice A0_1 l0_1.length c0_1, .int .i64 a0_2, .int .i64 a0_3] 24 (0, 0)) (by (with_reducible repeat (first | refine blk_drewN ?_ _ | refine blk_drew ?_ | refine blk_alloc ?_ _)); refine blk_far ?_ NB243_271.out _; refine blk_far ?_ NB243_271.out _; refine blk_far ?_ NB243_271.out _; refine blk_far ?_ NB243_271.out _; (with_reducible repeat (first | refine blk_drewN ?_ _ | refine blk_drew ?_ | refine blk_alloc ?_ _)); exact BK243.out) hb); replace BK244 := Aside0.mk (blk_below (g := gb244) (o := .cells #[.slice A1_0 l1_0.length c1_0] 42 (0, 0)) (by (with_reducible repeat (first | refine blk_drewN ?_ _ | refine blk_drew ?_ | refine blk_alloc ?_ _)); refine blk_far ?_ NB244_271.out _; refine blk_far ?_ NB244_271.out _; refine blk_far ?_ NB244_271.out _; refine blk_far ?_ NB244_271.out _; (with_reducible repeat (first | refine blk_drewN ?_ _ | refine blk_drew ?_ | refine blk_alloc ?_ _)); exact BK244.out) hb); replace BK264 := Aside0.mk (blk_below (g := gb264) (o := .cells #[.int .i64 t256, .int .i64 t257, .int .i64 t258, .slice Ao54 t259.length co54, .int .i64 t262, .int .i64 t263] 32 (0, 0)) (by (with_reducible repeat (first | refine blk_drewN ?_ _ | refine blk_drew ?_ | refine blk_alloc ?_ _)); refine blk_far ?_ NB264_271.out _; refine blk_far ?_ NB264_271.out _; refine blk_far ?_ NB264_271.out _; refine blk_far ?_ NB264_271.out _; (with_reducible repeat (first | refine blk_drewN ?_ _ | refine blk_drew ?_ | refine blk_alloc ?_ _)); exact BK264.out) hb); replace BK271 := Aside0.mk (blk_below (g := gb271) (o := .cells #[.int .i64 t265, .slice Ao66 t266.length co66, .int .i64 t269, .int .i64 t270] 27 (0, 0)) (by (with_reducible repeat (first | refine blk_drewN ?_ _ | refine blk_drew ?_ | refine blk_alloc ?_ _)); refine blk_put (cs := #[.int .i64 t265, .slice Ao66 t266.length co66, .int .i64 t269, .int .i64 0]) ?_ 3 _ rfl; refine blk_put (cs := #[.int .i64 t265, .slice Ao66 t266.length co66, .int .i64 0, .int .i64 0]) ?_ 2 _ rfl; refine blk_put (cs := #[.int .i64 t265, .slice none 0 0, .int .i64 0, .int .i64 0]) ?_ 1 _ rfl; refine blk_put (cs := #[.int .i64 0, .slice none 0 0, .int .i64 0, .int .i64 0]) ?_ 0 _ rfl; (with_reducible repeat (first | refine blk_drewN ?_ _ | refine blk_drew ?_ | refine blk_alloc ?_ _)); exact BK271.out) hb); replace HB := Aside0.mk (below_step (bz HB) hb); (try clear hb); (try clear hb2); (try clear hk); (try clear hi); (try clear ho0)) | ((with_reducible refine gate_dst (N := 8) rfl ?_); refine box_event ?hg (N := 8) ?hd (cs := #[.slice none 0 0]) (t := 45) ?hr ?_; (case hd => rfl); (case hg => rfl); (case hr => first | (go_simp; done) | (go_simp; rfl)); intro gb275 hg w70 hbox hb; replace HO250 := rb HO250 hb; replace HO255 := rb HO255 hb; replace HO261 := rb HO261 hb; replace HO268 := rb HO268 hb; replace HO274 := rb HO274 hb; have BK275 := Aside0.mk (hbox); have GW275 := Aside0.mk ((by rw [hg]; exact (below_size (bz HB)) : w.heap.size ≤ gb275)); have GE275 := Aside0.mk ((by rw [hg]; exact (below_size (bz HB)) : w.heap.size ≤ gb275)); replace HB := Aside0.mk (below_step (bz HB) hb); have NB243_275 := nb BK243 hg; have NB275_243 := nc BK243 hg; replace BK243 := bk BK243 hb; have NB244_275 := nb BK244 hg; have NB275_244 := nc BK244 hg; replace BK244 := bk BK244 hb; have NB264_275 := nb BK264 hg; have NB275_264 := nc BK264 hg; replace BK264 := bk BK264 hb; have NB271_275 := nb BK271 hg; have NB275_271 := nc BK271 hg; replace BK271 := bk BK271 hb; clear hb hbox hg; obtain ⟨Ao71, co71, eo71⟩ := Kd.R_slice HO274.out; subst eo71; have hnb72 := NB275_243.out; have hnc72 := NB243_275.out; have hnb73 := NB275_244.out; have hnc73 := NB244_275.out; have hnb74 := NB275_264.out; have hnc74 := NB264_275.out; have hnb75 := NB275_271.out; have hnc75 := NB271_275.out; have hcz76_0 : w70.cell? ⟨gb275, 0, none⟩ = some (.slice none 0 0) := (blk_cell BK275.out 0).trans rfl; have hfz76_0 := blk_frozen BK275.out 0; have hcz77_0 : w70.cell? ⟨gb271, 0, none⟩ = some (.int .i64 t265) := (blk_cell BK271.out 0).trans rfl; have hcz77_1 : w70.cell? ⟨gb271, 1, none⟩ = some (.slice Ao66 t266.length co66) := (blk_cell BK271.out 1).trans rfl; have hcz77_2 : w70.cell? ⟨gb271, 2, none⟩ = some (.int .i64 t269) := (blk_cell BK271.out 2).trans rfl; have hcz77_3 : w70.cell? ⟨gb271, 3, none⟩ = some (.int .i64 t270) := (blk_cell BK271.out 3).trans rfl; have hfz77_0 := blk_frozen BK271.out 0; have hfz77_1 := blk_frozen BK271.out 1; have hfz77_2 := blk_frozen BK271.out 2; have hfz77_3 := blk_frozen BK271.out 3) | ((with_reducible refine gate_callee (f := 31) rfl ?_); refine goesL_ (some 35) rfl rfl Try.func31 (by kernel_rfl) rfl #[.agg #[.int .i64 t265, .slice Ao66 t266.length co66, .int .i64 t269, .int .i64 t270], .agg #[.slice Ao71 t272.length co71]] rfl (by (try simp only [List.map_toArray, List.map_cons, List.map_nil]); first | done | rfl | (simp only [List.length_drop, List.length_take]; rfl)) ?_; (with_reducible refine (impl_ExtendIndex.calls k t265 _ _ t266 t269 t270 _ _ t272 t276 t277 t278 t279 t282 t283 _ ?side1 ?side2 ?side3 ?side4 A24.out).mono ?_); (case side1 => refine (Kd.R_reads' (e := 2) (base := w.heap.size) (ok := fun k_ => ((True ∧ some k_ ≠ (v249 : Value).ownBlock) ∧ some k_ ≠ (.slice Ao54 t259.length co54 : Value).ownBlock)) (n := t266.length) (c := co66) ?_).2.2; exact (by (with_reducible repeat (first | apply Kd.R_alloc | apply Kd.R_drewN | apply Kd.R_drew)); exact (Kd.R_mono (Kd.R_far (p := ⟨gb275, 0, none⟩) (Kd.R_types HO268.out BK275.out (by decide)) (fun _ hk => hk.2) (.slice Ao71 t272.length co71)) (fun _ h_ => h_.1)))); (case side2 => exact (Kd.R_reads' HO268.out).2.1); (case side3 => refine (Kd.R_reads' (e := 5) (base := w.heap.size) (ok := fun k_ => (True ∧ some k_ ≠ (v254 : Value).ownBlock)) (n := t272.length) (c := co71) ?_).2.2; exact (by (with_reducible repeat (first | apply Kd.R_alloc | apply Kd.R_drewN | apply Kd.R_drew)); exact (Kd.R_mono (Kd.R_far (p := ⟨gb275, 0, none⟩) (Kd.R_types HO274.out BK275.out (by decide)) (fun _ hk => hk.2) (.slice Ao71 t272.length co71)) (fun _ h_ => h_.1)))); (case side4 => exact (Kd.R_reads' HO274.out).2.1); rintro e w78 ⟨v280, rfl, ho0, hb⟩; refine ⟨_, rfl, ?_⟩; replace HO255 := Aside0.mk (Kd.R_below (by (with_reducible repeat (first | apply Kd.R_alloc | apply Kd.R_drewN | apply Kd.R_drew)); exact (Kd.R_mono (Kd.R_far (p := ⟨gb275, 0, none⟩) (Kd.R_types HO255.out BK275.out (by decide)) (fun _ hk => hk.2) (.slice Ao71 t272.length co71)) (fun _ h_ => h_.1))) hb); replace HO274 := Aside0.mk (Kd.R_below (by (with_reducible repeat (first | apply Kd.R_alloc | apply Kd.R_drewN | apply Kd.R_drew)); exact (Kd.R_mono (Kd.R_far (p := ⟨gb275, 0, none⟩) (Kd.R_types HO274.out BK275.out (by decide)) (fun _ hk => hk.2) (.slice Ao71 t272.length co71)) (fun _ h_ => h_.1))) hb); have HO281 := Aside0.mk (Kd.R_lower (Kd.R_new' (Kd.R_new' (Kd.R_new' ho0 (Kd.R_lt (by (with_reducible repeat (first | apply Kd.R_alloc | apply Kd.R_drewN | apply Kd.R_drew)); exact (Kd.R_mono (Kd.R_far (p := ⟨gb275, 0, none⟩) (Kd.R_types HO250.out BK275.out (by decide)) (fun _ hk => hk.2) (.slice Ao71 t272.length co71)) (fun _ h_ => h_.1))))) (Kd.R_lt (by (with_reducible repeat (first | apply Kd.R_alloc | apply Kd.R_drewN | apply Kd.R_drew)); exact (Kd.R_mono (Kd.R_far (p := ⟨gb275, 0, none⟩) (Kd.R_types HO261.out BK275.out (by decide)) (fun _ hk => hk.2) (.slice Ao71 t272.length co71)) (fun _ h_ => h_.1))))) (Kd.R_lt (by (with_reducible repeat (first | apply Kd.R_alloc | apply Kd.R_drewN | apply Kd.R_drew)); exact (Kd.R_mono (Kd.R_far (p := ⟨gb275, 0, none⟩) (Kd.R_types HO268.out BK275.out (by decide)) (fun _ hk => hk.2) (.slice Ao71 t272.length co71)) (fun _ h_ => h_.1))))) (below_size (bz HB))); replace HO250 := Aside0.mk (Kd.R_elder' (by (with_reducible repeat (first | apply Kd.R_alloc | apply Kd.R_drewN | apply Kd.R_drew)); exact (Kd.R_mono (Kd.R_far (p := ⟨gb275, 0, none⟩) (Kd.R_types HO250.out BK275.out (by decide)) (fun _ hk => hk.2) (.slice Ao71 t272.length co71)) (fun _ h_ => h_.1))) (Kd.R_base ho0) hb); replace HO261 := Aside0.mk (Kd.R_elder' (by (with_reducible repeat (first | apply Kd.R_alloc | apply Kd.R_drewN | apply Kd.R_drew)); exact (Kd.R_mono (Kd.R_far (p := ⟨gb275, 0, none⟩) (Kd.R_types HO261.out BK275.out (by decide)) (fun _ hk => hk.2) (.slice Ao71 t272.length co71)) (fun _ h_ => h_.1))) (Kd.R_base ho0) hb); replace HO268 := Aside0.mk (Kd.R_elder' (by (with_reducible repeat (first | apply Kd.R_alloc | apply Kd.R_drewN | apply Kd.R_drew)); exact (Kd.R_mono (Kd.R_far (p := ⟨gb275, 0, none⟩) (Kd.R_types HO268.out BK275.out (by decide)) (fun _ hk => hk.2) (.slice Ao71 t272.length co71)) (fun _ h_ => h_.1))) (Kd.R_base ho0) hb); replace BK243 := Aside0.mk (blk_below (g := gb243) (o := .cells #[.int .i64 a0_0, .slice A0_1 l0_1.length c0_1, .int .i64 a0_2, .int .i64 a0_3] 24 (0, 0)) (by (with_reducible repeat (first | refine blk_drewN ?_ _ | refine blk_drew ?_ | refine blk_alloc ?_ _)); refine blk_far ?_ NB243_275.out _; (with_reducible repeat (first | refine blk_drewN ?_ _ | refine blk_drew ?_ | refine blk_alloc ?_ _)); exact BK243.out) hb); replace BK244 := Aside0.mk (blk_below (g := gb244) (o := .cells #[.slice A1_0 l1_0.length c1_0] 42 (0, 0)) (by (with_reducible repeat (first | refine blk_drewN ?_ _ | refine blk_drew ?_ | refine blk_alloc ?_ _)); refine blk_far ?_ NB244_275.out _; (with_reducible repeat (first | refine blk_drewN ?_ _ | refine blk_drew ?_ | refine blk_alloc ?_ _)); exact BK244.out) hb); replace BK264 := Aside0.mk (blk_below (g := gb264) (o := .cells #[.int .i64 t256, .int .i64 t257, .int .i64 t258, .slice Ao54 t259.length co54, .int .i64 t262, .int .i64 t263] 32 (0, 0)) (by (with_reducible repeat (first | refine blk_drewN ?_ _ | refine blk_drew ?_ | refine blk_alloc ?_ _)); refine blk_far ?_ NB264_275.out _; (with_reducible repeat (first | refine blk_drewN ?_ _ | refine blk_drew ?_ | refine blk_alloc ?_ _)); exact BK264.out) hb); replace BK271 := Aside0.mk (blk_below (g := gb271) (o := .cells #[.int .i64 t265, .slice Ao66 t266.length co66, .int .i64 t269, .int .i64 t270] 27 (0, 0)) (by (with_reducible repeat (first | refine blk_drewN ?_ _ | refine blk_drew ?_ | refine blk_alloc ?_ _)); refine blk_far ?_ NB271_275.out _; (with_reducible repeat (first | refine blk_drewN ?_ _ | refine blk_drew ?_ | refine blk_alloc ?_ _)); exact BK271.out) hb); replace BK275 := Aside0.mk (blk_below (g := gb275) (o := .cells #[.slice Ao71 t272.length co71] 45 (0, 0)) (by (with_reducible repeat (first | refine blk_drewN ?_ _ | refine blk_drew ?_ | refine blk_alloc ?_ _)); refine blk_put (cs := #[.slice none 0 0]) ?_ 0 _ rfl; (with_reducible repeat (first | refine blk_drewN ?_ _ | refine blk_drew ?_ | refine blk_alloc ?_ _)); exact BK275.out) hb); replace HB := Aside0.mk (below_step (bz HB) hb); (try clear hb); (try clear hb2); (try clear hk); (try clear hi); (try clear ho0)) | ((with_reducible refine gate_dst (N := 9) rfl ?_); refine box_event ?hg (N := 9) ?hd (cs := #[.int .i64 0, .int .i64 0, .int .i64 0, .slice none 0 0, .int .i64 0, .int .i64 0]) (t := 32) ?hr ?_; (case hd => rfl); (case hg => rfl); (case hr => first | (go_simp; done) | (go_simp; rfl)); intro gb284 hg w79 hbox hb; replace HO250 := rb HO250 hb; replace HO255 := rb HO255 hb; replace HO261 := rb HO261 hb; replace HO268 := rb HO268 hb; replace HO274 := rb HO274 hb; replace HO281 := rb HO281 hb; have BK284 := Aside0.mk (hbox); have GW284 := Aside0.mk ((by rw [hg]; exact (below_size (bz HB)) : w.heap.size ≤ gb284)); have GE284 := Aside0.mk ((by rw [hg]; exact (below_size (bz HB)) : w.heap.size ≤ gb284)); replace HB := Aside0.mk (below_step (bz HB) hb); have NB243_284 := nb BK243 hg; have NB284_243 := nc BK243 hg; replace BK243 := bk BK243 hb; have NB244_284 := nb BK244 hg; have NB284_244 := nc BK244 hg; replace BK244 := bk BK244 hb; have NB264_284 := nb BK264 hg; have NB284_264 := nc BK264 hg; replace BK264 := bk BK264 hb; have NB271_284 := nb BK271 hg; have NB284_271 := nc BK271 hg; replace BK271 := bk BK271 hb; have NB275_284 := nb BK275 hg; have NB284_275 := nc BK275 hg; replace BK275 := bk BK275 hb; clear hb hbox hg; have hnb80 := NB284_243.out; have hnc80 := NB243_284.out; have hnb81 := NB284_244.out; have hnc81 := NB244_284.out; have hnb82 := NB284_264.out; have hnc82 := NB264_284.out; have hnb83 := NB284_271.out; have hnc83 := NB271_284.out; have hnb84 := NB284_275.out; have hnc84 := NB275_284.out; have hcz85_0 : w79.cell? ⟨gb284, 0, none⟩ = some (.int .i64 0) := (blk_cell BK284.out 0).trans rfl; have hcz85_1 : w79.cell? ⟨gb284, 1, none⟩ = some (.int .i64 0) := (blk_cell BK284.out 1).trans rfl; have hcz85_2 : w79.cell? ⟨gb284, 2, none⟩ = some (.int .i64 0) := (blk_cell BK284.out 2).trans rfl; have hcz85_3 : w79.cell? ⟨gb284, 3, none⟩ = some (.slice none 0 0) := (blk_cell BK284.out 3).trans rfl; have hcz85_4 : w79.cell? ⟨gb284, 4, none⟩ = some (.int .i64 0) := (blk_cell BK284.out 4).trans rfl; have hcz85_5 : w79.cell? ⟨gb284, 5, none⟩ = some (.int .i64 0) := (blk_cell BK284.out 5).trans rfl; have hfz85_0 := blk_frozen BK284.out 0; have hfz85_1 := blk_frozen BK284.out 1; have hfz85_2 := blk_frozen BK284.out 2; have hfz85_3 := blk_frozen BK284.out 3; have hfz85_4 := blk_frozen BK284.out 4; have hfz85_5 := blk_frozen BK284.out 5; obtain ⟨Ao86, co86, eo86⟩ := Kd.R_slice HO281.out; subst eo86; have hcz87_0 : w79.cell? ⟨gb264, 0, none⟩ = some (.int .i64 t256) := (blk_cell BK264.out 0).trans rfl; have hcz87_1 : w79.cell? ⟨gb264, 1, none⟩ = some (.int .i64 t257) := (blk_cell BK264.out 1).trans rfl; have hcz87_2 : w79.cell? ⟨gb264, 2, none⟩ = some (.int .i64 t258) := (blk_cell BK264.out 2).trans rfl; have hcz87_3 : w79.cell? ⟨gb264, 3, none⟩ = some (.slice Ao54 t259.length co54) := (blk_cell BK264.out 3).trans rfl; have hcz87_4 : w79.cell? ⟨gb264, 4, none⟩ = some (.int .i64 t262) := (blk_cell BK264.out 4).trans rfl; have hcz87_5 : w79.cell? ⟨gb264, 5, none⟩ = some (.int .i64 t263) := (blk_cell BK264.out 5).trans rfl; have hfz87_0 := blk_frozen BK264.out 0; have hfz87_1 := blk_frozen BK264.out 1; have hfz87_2 := blk_frozen BK264.out 2; have hfz87_3 := blk_frozen BK264.out 3; have hfz87_4 := blk_frozen BK264.out 4; have hfz87_5 := blk_frozen BK264.out 5) | ((with_reducible refine gate_callee (f := 19) rfl ?_); refine goesL_ (some 38) rfl rfl Try.func19 (by kernel_rfl) rfl #[.agg #[.int .i64 t276, .int .i64 t277, .int .i64 t278, .slice Ao86 t279.length co86, .int .i64 t282, .int .i64 t283], .agg #[.int .i64 t256, .int .i64 t257, .int .i64 t258, .slice Ao54 t259.length co54, .int .i64 t262, .int .i64 t263]] rfl (by (try simp only [List.map_toArray, List.map_cons, List.map_nil]); first | done | rfl | (simp only [List.length_drop, List.length_take]; rfl)) ?_; (with_reducible refine (laws_eqIndexResult.calls k t276 t277 t278 _ _ t279 t282 t283 t256 t257 t258 _ _ t259 t262 t263 true _ ?side1 ?side2 ?side3 ?side4 A25.out).mono ?_); (case side1 => refine (Kd.R_reads' (e := 2) (base := w.heap.size) (ok := fun k_ => (((True ∧ some k_ ≠ (v249 : Value).ownBlock) ∧ some k_ ≠ (.slice Ao54 t259.length co54 : Value).ownBlock) ∧ some k_ ≠ (.slice Ao66 t266.length co66 : Value).ownBlock)) (n := t279.length) (c := co86) ?_).2.2; exact (by (with_reducible repeat (first | apply Kd.R_alloc | apply Kd.R_drewN | apply Kd.R_drew)); exact (Kd.R_mono (Kd.R_far (p := ⟨gb284, 5, none⟩) (Kd.R_far (p := ⟨gb284, 4, none⟩) (Kd.R_far (p := ⟨gb284, 3, none⟩) (Kd.R_far (p := ⟨gb284, 2, none⟩) (Kd.R_far (p := ⟨gb284, 1, none⟩) (Kd.R_far (p := ⟨gb284, 0, none⟩) (Kd.R_types HO281.out BK284.out (by decide)) (fun _ hk => hk.2) (.int .i64 t276)) (fun _ hk => hk.2) (.int .i64 t277)) (fun _ hk => hk.2) (.int .i64 t278)) (fun _ hk => hk.2) (.slice Ao86 t279.length co86)) (fun _ hk => hk.2) (.int .i64 t282)) (fun _ hk => hk.2) (.int .i64 t283)) (fun _ h_ => h_.1)))); (case side2 => exact (Kd.R_reads' HO281.out).2.1); (case side3 => refine (Kd.R_reads' (e := 2) (base := w.heap.size) (ok := fun k_ => ((some k_ ≠ (v249 : Value).ownBlock ∧ some k_ ≠ (.slice Ao66 t266.length co66 : Value).ownBlock) ∧ some k_ ≠ (.slice Ao86 t279.length co86 : Value).ownBlock)) (n := t259.length) (c := co54) ?_).2.2; exact (by (with_reducible repeat (first | apply Kd.R_alloc | apply Kd.R_drewN | apply Kd.R_drew)); exact (Kd.R_mono (Kd.R_far (p := ⟨gb284, 5, none⟩) (Kd.R_far (p := ⟨gb284, 4, none⟩) (Kd.R_far (p := ⟨gb284, 3, none⟩) (Kd.R_far (p := ⟨gb284, 2, none⟩) (Kd.R_far (p := ⟨gb284, 1, none⟩) (Kd.R_far (p := ⟨gb284, 0, none⟩) (Kd.R_types HO261.out BK284.out (by decide)) (fun _ hk => hk.2) (.int .i64 t276)) (fun _ hk => hk.2) (.int .i64 t277)) (fun _ hk => hk.2) (.int .i64 t278)) (fun _ hk => hk.2) (.slice Ao86 t279.length co86)) (fun _ hk => hk.2) (.int .i64 t282)) (fun _ hk => hk.2) (.int .i64 t283)) (fun _ h_ => h_.1)))); (case side4 => exact (Kd.R_reads' HO261.out).2.1); rintro e w88 ⟨rfl, hb⟩; refine ⟨_, rfl, ?_⟩; replace HO250 := Aside0.mk (Kd.R_below (by (with_reducible repeat (first | apply Kd.R_alloc | apply Kd.R_drewN | apply Kd.R_drew)); exact (Kd.R_mono (Kd.R_far (p := ⟨gb284, 5, none⟩) (Kd.R_far (p := ⟨gb284, 4, none⟩) (Kd.R_far (p := ⟨gb284, 3, none⟩) (Kd.R_far (p := ⟨gb284, 2, none⟩) (Kd.R_far (p := ⟨gb284, 1, none⟩) (Kd.R_far (p := ⟨gb284, 0, none⟩) (Kd.R_types HO250.out BK284.out (by decide)) (fun _ hk => hk.2) (.int .i64 t276)) (fun _ hk => hk.2) (.int .i64 t277)) (fun _ hk => hk.2) (.int .i64 t278)) (fun _ hk => hk.2) (.slice Ao86 t279.length co86)) (fun _ hk => hk.2) (.int .i64 t282)) (fun _ hk => hk.2) (.int .i64 t283)) (fun _ h_ => h_.1))) hb); replace HO255 := Aside0.mk (Kd.R_below (by (with_reducible repeat (first | apply Kd.R_alloc | apply Kd.R_drewN | apply Kd.R_drew)); exact (Kd.R_mono (Kd.R_far (p := ⟨gb284, 5, none⟩) (Kd.R_far (p := ⟨gb284, 4, none⟩) (Kd.R_far (p := ⟨gb284, 3, none⟩) (Kd.R_far (p := ⟨gb284, 2, none⟩) (Kd.R_far (p := ⟨gb284, 1, none⟩) (Kd.R_far (p := ⟨gb284, 0, none⟩) (Kd.R_types HO255.out BK284.out (by decide)) (fun _ hk => hk.2) (.int .i64 t276)) (fun _ hk => hk.2) (.int .i64 t277)) (fun _ hk => hk.2) (.int .i64 t278)) (fun _ hk => hk.2) (.slice Ao86 t279.length co86)) (fun _ hk => hk.2) (.int .i64 t282)) (fun _ hk => hk.2) (.int .i64 t283)) (fun _ h_ => h_.1))) hb); replace HO261 := Aside0.mk (Kd.R_below (by (with_reducible repeat (first | apply Kd.R_alloc | apply Kd.R_drewN | apply Kd.R_drew)); exact (Kd.R_mono (Kd.R_far (p := ⟨gb284, 5, none⟩) (Kd.R_far (p := ⟨gb284, 4, none⟩) (Kd.R_far (p := ⟨gb284, 3, none⟩) (Kd.R_far (p := ⟨gb284, 2, none⟩) (Kd.R_far (p := ⟨gb284, 1, none⟩) (Kd.R_far (p := ⟨gb284, 0, none⟩) (Kd.R_types HO261.out BK284.out (by decide)) (fun _ hk => hk.2) (.int .i64 t276)) (fun _ hk => hk.2) (.int .i64 t277)) (fun _ hk => hk.2) (.int .i64 t278)) (fun _ hk => hk.2) (.slice Ao86 t279.length co86)) (fun _ hk => hk.2) (.int .i64 t282)) (fun _ hk => hk.2) (.int .i64 t283)) (fun _ h_ => h_.1))) hb); replace HO268 := Aside0.mk (Kd.R_below (by (with_reducible repeat (first | apply Kd.R_alloc | apply Kd.R_drewN | apply Kd.R_drew)); exact (Kd.R_mono (Kd.R_far (p := ⟨gb284, 5, none⟩) (Kd.R_far (p := ⟨gb284, 4, none⟩) (Kd.R_far (p := ⟨gb284, 3, none⟩) (Kd.R_far (p := ⟨gb284, 2, none⟩) (Kd.R_far (p := ⟨gb284, 1, none⟩) (Kd.R_far (p := ⟨gb284, 0, none⟩) (Kd.R_types HO268.out BK284.out (by decide)) (fun _ hk => hk.2) (.int .i64 t276)) (fun _ hk => hk.2) (.int .i64 t277)) (fun _ hk => hk.2) (.int .i64 t278)) (fun _ hk => hk.2) (.slice Ao86 t279.length co86)) (fun _ hk => hk.2) (.int .i64 t282)) (fun _ hk => hk.2) (.int .i64 t283)) (fun _ h_ => h_.1))) hb); replace HO274 := Aside0.mk (Kd.R_below (by (with_reducible repeat (first | apply Kd.R_alloc | apply Kd.R_drewN | apply Kd.R_drew)); exact (Kd.R_mono (Kd.R_far (p := ⟨gb284, 5, none⟩) (Kd.R_far (p := ⟨gb284, 4, none⟩) (Kd.R_far (p := ⟨gb284, 3, none⟩) (Kd.R_far (p := ⟨gb284, 2, none⟩) (Kd.R_far (p := ⟨gb284, 1, none⟩) (Kd.R_far (p := ⟨gb284, 0, none⟩) (Kd.R_types HO274.out BK284.out (by decide)) (fun _ hk => hk.2) (.int .i64 t276)) (fun _ hk => hk.2) (.int .i64 t277)) (fun _ hk => hk.2) (.int .i64 t278)) (fun _ hk => hk.2) (.slice Ao86 t279.length co86)) (fun _ hk => hk.2) (.int .i64 t282)) (fun _ hk => hk.2) (.int .i64 t283)) (fun _ h_ => h_.1))) hb); replace HO281 := Aside0.mk (Kd.R_below (by (with_reducible repeat (first | apply Kd.R_alloc | apply Kd.R_drewN | apply Kd.R_drew)); exact (Kd.R_mono (Kd.R_far (p := ⟨gb284, 5, none⟩) (Kd.R_far (p := ⟨gb284, 4, none⟩) (Kd.R_far (p := ⟨gb284, 3, none⟩) (Kd.R_far (p := ⟨gb284, 2, none⟩) (Kd.R_far (p := ⟨gb284, 1, none⟩) (Kd.R_far (p := ⟨gb284, 0, none⟩) (Kd.R_types HO281.out BK284.out (by decide)) (fun _ hk => hk.2) (.int .i64 t276)) (fun _ hk => hk.2) (.int .i64 t277)) (fun _ hk => hk.2) (.int .i64 t278)) (fun _ hk => hk.2) (.slice Ao86 t279.length co86)) (fun _ hk => hk.2) (.int .i64 t282)) (fun _ hk => hk.2) (.int .i64 t283)) (fun _ h_ => h_.1))) hb); replace BK243 := Aside0.mk (blk_below (g := gb243) (o := .cells #[.int .i64 a0_0, .slice A0_1 l0_1.length c0_1, .int .i64 a0_2, .int .i64 a0_3] 24 (0, 0)) (by (with_reducible repeat (first | refine blk_drewN ?_ _ | refine blk_drew ?_ | refine blk_alloc ?_ _)); refine blk_far ?_ NB243_284.out _; refine blk_far ?_ NB243_284.out _; refine blk_far ?_ NB243_284.out _; refine blk_far ?_ NB243_284.out _; refine blk_far ?_ NB243_284.out _; refine blk_far ?_ NB243_284.out _; (with_reducible repeat (first | refine blk_drewN ?_ _ | refine blk_drew ?_ | refine blk_alloc ?_ _)); exact BK243.out) hb); replace BK244 := Aside0.mk (blk_below (g := gb244) (o := .cells #[.slice A1_0 l1_0.length c1_0] 42 (0, 0)) (by (with_reducible repeat (first | refine blk_drewN ?_ _ | refine blk_drew ?_ | refine blk_alloc ?_ _)); refine blk_far ?_ NB244_284.out _; refine blk_far ?_ NB244_284.out _; refine blk_far ?_ NB244_284.out _; refine blk_far ?_ NB244_284.out _; refine blk_far ?_ NB244_284.out _; refine blk_far ?_ NB244_284.out _; (with_reducible repeat (first | refine blk_drewN ?_ _ | refine blk_drew ?_ | refine blk_alloc ?_ _)); exact BK244.out) hb); replace BK264 := Aside0.mk (blk_below (g := gb264) (o := .cells #[.int .i64 t256, .int .i64 t257, .int .i64 t258, .slice Ao54 t259.length co54, .int .i64 t262, .int .i64 t263] 32 (0, 0)) (by (with_reducible repeat (first | refine blk_drewN ?_ _ | refine blk_drew ?_ | refine blk_alloc ?_ _)); refine blk_far ?_ NB264_284.out _; refine blk_far ?_ NB264_284.out _; refine blk_far ?_ NB264_284.out _; refine blk_far ?_ NB264_284.out _; refine blk_far ?_ NB264_284.out _; refine blk_far ?_ NB264_284.out _; (with_reducible repeat (first | refine blk_drewN ?_ _ | refine blk_drew ?_ | refine blk_alloc ?_ _)); exact BK264.out) hb); replace BK271 := Aside0.mk (blk_below (g := gb271) (o := .cells #[.int .i64 t265, .slice Ao66 t266.length co66, .int .i64 t269, .int .i64 t270] 27 (0, 0)) (by (with_reducible repeat (first | refine blk_drewN ?_ _ | refine blk_drew ?_ | refine blk_alloc ?_ _)); refine blk_far ?_ NB271_284.out _; refine blk_far ?_ NB271_284.out _; refine blk_far ?_ NB271_284.out _; refine blk_far ?_ NB271_284.out _; refine blk_far ?_ NB271_284.out _; refine blk_far ?_ NB271_284.out _; (with_reducible repeat (first | refine blk_drewN ?_ _ | refine blk_drew ?_ | refine blk_alloc ?_ _)); exact BK271.out) hb); replace BK275 := Aside0.mk (blk_below (g := gb275) (o := .cells #[.slice Ao71 t272.length co71] 45 (0, 0)) (by (with_reducible repeat (first | refine blk_drewN ?_ _ | refine blk_drew ?_ | refine blk_alloc ?_ _)); refine blk_far ?_ NB275_284.out _; refine blk_far ?_ NB275_284.out _; refine blk_far ?_ NB275_284.out _; refine blk_far ?_ NB275_284.out _; refine blk_far ?_ NB275_284.out _; refine blk_far ?_ NB275_284.out _; (with_reducible repeat (first | refine blk_drewN ?_ _ | refine blk_drew ?_ | refine blk_alloc ?_ _)); exact BK275.out) hb); replace BK284 := Aside0.mk (blk_below (g := gb284) (o := .cells #[.int .i64 t276, .int .i64 t277, .int .i64 t278, .slice Ao86 t279.length co86, .int .i64 t282, .int .i64 t283] 32 (0, 0)) (by (with_reducible repeat (first | refine blk_drewN ?_ _ | refine blk_drew ?_ | refine blk_alloc ?_ _)); refine blk_put (cs := #[.int .i64 t276, .int .i64 t277, .int .i64 t278, .slice Ao86 t279.length co86, .int .i64 t282, .int .i64 0]) ?_ 5 _ rfl; refine blk_put (cs := #[.int .i64 t276, .int .i64 t277, .int .i64 t278, .slice Ao86 t279.length co86, .int .i64 0, .int .i64 0]) ?_ 4 _ rfl; refine blk_put (cs := #[.int .i64 t276, .int .i64 t277, .int .i64 t278, .slice none 0 0, .int .i64 0, .int .i64 0]) ?_ 3 _ rfl; refine blk_put (cs := #[.int .i64 t276, .int .i64 t277, .int .i64 0, .slice none 0 0, .int .i64 0, .int .i64 0]) ?_ 2 _ rfl; refine blk_put (cs := #[.int .i64 t276, .int .i64 0, .int .i64 0, .slice none 0 0, .int .i64 0, .int .i64 0]) ?_ 1 _ rfl; refine blk_put (cs := #[.int .i64 0, .int .i64 0, .int .i64 0, .slice none 0 0, .int .i64 0, .int .i64 0]) ?_ 0 _ rfl; (with_reducible repeat (first | refine blk_drewN ?_ _ | refine blk_drew ?_ | refine blk_alloc ?_ _)); exact BK284.out) hb); replace HB := Aside0.mk (below_step (bz HB) hb); (try clear hb); (try clear hb2); (try clear hk); (try clear hi)))
            replace HO250 := Aside0.mk (Kd.R_drew HO250.out)
            replace HO255 := Aside0.mk (Kd.R_drew HO255.out)
            replace HO261 := Aside0.mk (Kd.R_drew HO261.out)
            replace HO268 := Aside0.mk (Kd.R_drew HO268.out)
            replace HO274 := Aside0.mk (Kd.R_drew HO274.out)
            replace HO281 := Aside0.mk (Kd.R_drew HO281.out)
            replace BK243 := Aside0.mk (blk_drew BK243.out)
            replace BK244 := Aside0.mk (blk_drew BK244.out)
            replace BK264 := Aside0.mk (blk_drew BK264.out)
            replace BK271 := Aside0.mk (blk_drew BK271.out)
            replace BK275 := Aside0.mk (blk_drew BK275.out)
            replace BK284 := Aside0.mk (blk_drew BK284.out)
            replace HB := Aside0.mk (below_drew1 HB.out)
            refine start_ (n := 5) (S := fun w' => w'.cell? ⟨gb271, 0, none⟩ = some (.int .i64 t265) ∧ w'.cell? ⟨gb271, 1, none⟩ = some (.slice Ao66 t266.length co66) ∧ w'.cell? ⟨gb271, 2, none⟩ = some (.int .i64 t269) ∧ w'.cell? ⟨gb271, 3, none⟩ = some (.int .i64 t270) ∧ w'.cell? ⟨gb243, 0, none⟩ = some (.int .i64 a0_0) ∧ w'.cell? ⟨gb243, 1, none⟩ = some (.slice A0_1 l0_1.length c0_1) ∧ w'.cell? ⟨gb243, 2, none⟩ = some (.int .i64 a0_2) ∧ w'.cell? ⟨gb243, 3, none⟩ = some (.int .i64 a0_3)) (ds := []) #[false, false, false, false, false] (by kernel_rfl) rfl rfl ⟨(blk_cell BK271.out 0).trans rfl, (blk_cell BK271.out 1).trans rfl, (blk_cell BK271.out 2).trans rfl, (blk_cell BK271.out 3).trans rfl, (blk_cell BK243.out 0).trans rfl, (blk_cell BK243.out 1).trans rfl, (blk_cell BK243.out 2).trans rfl, (blk_cell BK243.out 3).trans rfl⟩ (fun hHeld => ?_)
            generalize w88.drew = w89 at HO250 HO255 HO261 HO268 HO274 HO281 BK243 BK244 BK264 BK271 BK275 BK284 HB hHeld ⊢
            refine take_ (i := 0) (N := some 40) (v := ?_) (a' := ?_) #[true, false, false, false, false] rfl rfl (by kernel_rfl) (fun _ _ _ h => h) (Or.inl ⟨by rfl, ?_⟩) hHeld ?_ ?_
            rotate_left
            · rintro w' ⟨s0, s1, s2, s3, s4, s5, s6, s7⟩
              go_simp
              with_reducible rfl
            rotate_left
            · simp only [Act.put, List.setIfInBounds_toArray, List.set_cons_zero, List.set_cons_succ, i64_w, i32_w]
              rfl
            refine take_ (i := 1) (N := some 41) (v := ?_) (a' := ?_) #[true, true, false, false, false] rfl rfl (by kernel_rfl) (fun _ _ _ h => h) (Or.inl ⟨by rfl, ?_⟩) hHeld ?_ ?_
            rotate_left
            · rintro w' ⟨s0, s1, s2, s3, s4, s5, s6, s7⟩
              go_simp
              with_reducible rfl
            rotate_left
            · simp only [Act.put, List.setIfInBounds_toArray, List.set_cons_zero, List.set_cons_succ, i64_w, i32_w]
              rfl
            refine one_ (i := 2) (N := some 42) #[true, true, true, false, false] rfl rfl (by kernel_rfl) (by decide) (fun K hK => ?_)
            refine goes_ Try.func14 (by kernel_rfl) rfl #[.agg #[.int .i64 a0_0, .slice A0_1 l0_1.length c0_1, .int .i64 a0_2, .int .i64 a0_3]] (by rfl) rfl rfl (by (try simp only [List.map_toArray, List.map_cons, List.map_nil]); first | done | rfl | (simp only [List.length_drop, List.length_take]; rfl)) ?_
            with_reducible refine (laws_toIndex.calls k a0_0 _ _ l0_1 a0_2 a0_3 t286 t287 t290 t291 _ ?side1 ?side2 A27.out).mono ?_
            (case side1 => repeat (first | exact (Kd.C_below HR0_1.out HB.out) | (with_reducible refine Kd.C_alloc ?_ _) | (with_reducible refine Kd.C_drewN ?_ _) | (with_reducible refine Kd.C_drew ?_)))
            (case side2 => exact HC0_1.out)
            rintro e w90 ⟨v288, rfl, ho0, hb⟩
            refine ⟨_, rfl, ?_⟩
            replace HO255 := rb HO255 hb
            replace HO274 := rb HO274 hb
            have HO289 := Aside0.mk (Kd.R_lower (Kd.R_new' (Kd.R_new' (Kd.R_new' (Kd.R_new' ho0 (Kd.R_lt (by (with_reducible repeat (first | apply Kd.R_alloc | apply Kd.R_drewN | apply Kd.R_drew)); exact HO250.out))) (Kd.R_lt (by (with_reducible repeat (first | apply Kd.R_alloc | apply Kd.R_drewN | apply Kd.R_drew)); exact HO261.out))) (Kd.R_lt (by (with_reducible repeat (first | apply Kd.R_alloc | apply Kd.R_drewN | apply Kd.R_drew)); exact HO268.out))) (Kd.R_lt (by (with_reducible repeat (first | apply Kd.R_alloc | apply Kd.R_drewN | apply Kd.R_drew)); exact HO281.out))) (below_size (bz HB)))
            replace HO250 := Aside0.mk (Kd.R_elder' (by (with_reducible repeat (first | apply Kd.R_alloc | apply Kd.R_drewN | apply Kd.R_drew)); exact HO250.out) (Kd.R_base ho0) hb)
            replace HO261 := Aside0.mk (Kd.R_elder' (by (with_reducible repeat (first | apply Kd.R_alloc | apply Kd.R_drewN | apply Kd.R_drew)); exact HO261.out) (Kd.R_base ho0) hb)
            replace HO268 := Aside0.mk (Kd.R_elder' (by (with_reducible repeat (first | apply Kd.R_alloc | apply Kd.R_drewN | apply Kd.R_drew)); exact HO268.out) (Kd.R_base ho0) hb)
            replace HO281 := Aside0.mk (Kd.R_elder' (by (with_reducible repeat (first | apply Kd.R_alloc | apply Kd.R_drewN | apply Kd.R_drew)); exact HO281.out) (Kd.R_base ho0) hb)
            replace BK243 := bk BK243 hb
            replace BK244 := bk BK244 hb
            replace BK264 := bk BK264 hb
            replace BK271 := bk BK271 hb
            replace BK275 := bk BK275 hb
            replace BK284 := bk BK284 hb
            replace HB := Aside0.mk (below_step (bz HB) hb)
            (try clear hb)
            (try clear hb2)
            (try clear hk)
            (try clear hi)
            (try clear ho0)
            obtain ⟨Ao91, co91, eo91⟩ := Kd.R_slice HO289.out
            (first | subst eo91 | (injection eo91 with f1_ f2_ f3_; have f4_ := f1_.symm; have f5_ := f3_.symm; clear f1_ f2_ f3_; subst f4_; subst f5_))
            refine hK.out _ _ ⟨(blk_cell BK271.out 0).trans rfl, (blk_cell BK271.out 1).trans rfl, (blk_cell BK271.out 2).trans rfl, (blk_cell BK271.out 3).trans rfl, (blk_cell BK243.out 0).trans rfl, (blk_cell BK243.out 1).trans rfl, (blk_cell BK243.out 2).trans rfl, (blk_cell BK243.out 3).trans rfl⟩ (fun hHeld => ?_)
            clear hK K
            refine norm_ (a' := ?_) ?_ ?_
            rotate_left
            · show Act.put _ (some 42) _ = _
              simp only [Act.put, List.setIfInBounds_toArray, List.set_cons_zero, List.set_cons_succ, i64_w, i32_w]
              rfl
            refine one_ (i := 3) (N := some 43) #[true, true, true, true, false] rfl rfl (by kernel_rfl) (by decide) (fun K hK => ?_)
            refine goes_ Try.func16 (by kernel_rfl) rfl #[.agg #[.int .i64 t265, .slice Ao66 t266.length co66, .int .i64 t269, .int .i64 t270], .agg #[.int .i64 t286, .slice Ao91 t287.length co91, .int .i64 t290, .int .i64 t291]] (by rfl) rfl rfl (by (try simp only [List.map_toArray, List.map_cons, List.map_nil]); first | done | rfl | (simp only [List.length_drop, List.length_take]; rfl)) ?_
            with_reducible refine (laws_eqIndex.calls k t265 _ _ t266 t269 t270 t286 _ _ t287 t290 t291 true _ ?side1 ?side2 ?side3 ?side4 A28.out).mono ?_
            (case side1 => repeat (first | exact (Kd.R_reads' HO268.out).2.2 | (with_reducible refine Kd.C_alloc ?_ _) | (with_reducible refine Kd.C_drewN ?_ _) | (with_reducible refine Kd.C_drew ?_)))
            (case side2 => exact (Kd.R_reads' HO268.out).2.1)
            (case side3 => repeat (first | exact (Kd.R_reads' HO289.out).2.2 | (with_reducible refine Kd.C_alloc ?_ _) | (with_reducible refine Kd.C_drewN ?_ _) | (with_reducible refine Kd.C_drew ?_)))
            (case side4 => exact (Kd.R_reads' HO289.out).2.1)
            rintro e w92 ⟨rfl, hb⟩
            refine ⟨_, rfl, ?_⟩
            replace HO250 := rb HO250 hb
            replace HO255 := rb HO255 hb
            replace HO261 := rb HO261 hb
            replace HO268 := rb HO268 hb
            replace HO274 := rb HO274 hb
            replace HO281 := rb HO281 hb
            replace HO289 := rb HO289 hb
            replace BK243 := bk BK243 hb
            replace BK244 := bk BK244 hb
            replace BK264 := bk BK264 hb
            replace BK271 := bk BK271 hb
            replace BK275 := bk BK275 hb
            replace BK284 := bk BK284 hb
            replace HB := Aside0.mk (below_step (bz HB) hb)
            (try clear hb)
            (try clear hb2)
            (try clear hk)
            (try clear hi)
            refine hK.out _ _ ⟨(blk_cell BK271.out 0).trans rfl, (blk_cell BK271.out 1).trans rfl, (blk_cell BK271.out 2).trans rfl, (blk_cell BK271.out 3).trans rfl, (blk_cell BK243.out 0).trans rfl, (blk_cell BK243.out 1).trans rfl, (blk_cell BK243.out 2).trans rfl, (blk_cell BK243.out 3).trans rfl⟩ (fun hHeld => ?_)
            clear hK K
            refine norm_ (a' := ?_) ?_ ?_
            rotate_left
            · show Act.put _ (some 43) _ = _
              simp only [Act.put, List.setIfInBounds_toArray, List.set_cons_zero, List.set_cons_succ, i64_w, i32_w]
              rfl
            refine pure_ (i := 4) (N := some 44) (v := ?_) (a' := ?_) #[true, true, true, true, true] rfl rfl (by kernel_rfl) (fun _ _ _ h => h) (Or.inl ⟨by rfl, ?_⟩) ?_ ?_
            rotate_left
            · intro w'
              go_simp
              with_reducible rfl
            rotate_left
            · simp only [Act.put, List.setIfInBounds_toArray, List.set_cons_zero, List.set_cons_succ, i64_w, i32_w]
              rfl
            refine done_ (by kernel_rfl) ?_
            try go_wp2
            replace HO250 := Aside0.mk (Kd.R_drew HO250.out)
            replace HO255 := Aside0.mk (Kd.R_drew HO255.out)
            replace HO261 := Aside0.mk (Kd.R_drew HO261.out)
            replace HO268 := Aside0.mk (Kd.R_drew HO268.out)
            replace HO274 := Aside0.mk (Kd.R_drew HO274.out)
            replace HO281 := Aside0.mk (Kd.R_drew HO281.out)
            replace HO289 := Aside0.mk (Kd.R_drew HO289.out)
            replace BK243 := Aside0.mk (blk_drew BK243.out)
            replace BK244 := Aside0.mk (blk_drew BK244.out)
            replace BK264 := Aside0.mk (blk_drew BK264.out)
            replace BK271 := Aside0.mk (blk_drew BK271.out)
            replace BK275 := Aside0.mk (blk_drew BK275.out)
            replace BK284 := Aside0.mk (blk_drew BK284.out)
            replace HB := Aside0.mk (below_drew1 HB.out)
            refine start_ (n := 5) (S := fun w' => w'.cell? ⟨gb275, 0, none⟩ = some (.slice Ao71 t272.length co71) ∧ w'.cell? ⟨gb244, 0, none⟩ = some (.slice A1_0 l1_0.length c1_0)) (ds := []) #[false, false, false, false, false] (by kernel_rfl) rfl rfl ⟨(blk_cell BK275.out 0).trans rfl, (blk_cell BK244.out 0).trans rfl⟩ (fun hHeld => ?_)
            generalize w92.drew = w93 at HO250 HO255 HO261 HO268 HO274 HO281 HO289 BK243 BK244 BK264 BK271 BK275 BK284 HB hHeld ⊢
            refine take_ (i := 0) (N := some 45) (v := ?_) (a' := ?_) #[true, false, false, false, false] rfl rfl (by kernel_rfl) (fun _ _ _ h => h) (Or.inl ⟨by rfl, ?_⟩) hHeld ?_ ?_
            rotate_left
            · rintro w' ⟨s0, s1⟩
              go_simp
              with_reducible rfl
            rotate_left
            · simp only [Act.put, List.setIfInBounds_toArray, List.set_cons_zero, List.set_cons_succ, i64_w, i32_w]
              rfl
            refine take_ (i := 1) (N := some 46) (v := ?_) (a' := ?_) #[true, true, false, false, false] rfl rfl (by kernel_rfl) (fun _ _ _ h => h) (Or.inl ⟨by rfl, ?_⟩) hHeld ?_ ?_
            rotate_left
            · rintro w' ⟨s0, s1⟩
              go_simp
              with_reducible rfl
            rotate_left
            · simp only [Act.put, List.setIfInBounds_toArray, List.set_cons_zero, List.set_cons_succ, i64_w, i32_w]
              rfl
            refine one_ (i := 2) (N := some 47) #[true, true, true, false, false] rfl rfl (by kernel_rfl) (by decide) (fun K hK => ?_)
            refine goes_ Try.func27 (by kernel_rfl) rfl #[.agg #[.slice A1_0 l1_0.length c1_0]] (by rfl) rfl rfl (by (try simp only [List.map_toArray, List.map_cons, List.map_nil]); first | done | rfl | (simp only [List.length_drop, List.length_take]; rfl)) ?_
            with_reducible refine (laws_toFile.calls k _ _ l1_0 t293 _ ?side1 ?side2 A30.out).mono ?_
            (case side1 => repeat (first | exact (Kd.C_below HR1_0.out HB.out) | (with_reducible refine Kd.C_alloc ?_ _) | (with_reducible refine Kd.C_drewN ?_ _) | (with_reducible refine Kd.C_drew ?_)))
            (case side2 => exact HC1_0.out)
            rintro e w94 ⟨v294, rfl, ho0, hb⟩
            refine ⟨_, rfl, ?_⟩
            replace HO250 := rb HO250 hb
            replace HO261 := rb HO261 hb
            replace HO268 := rb HO268 hb
            replace HO281 := rb HO281 hb
            replace HO289 := rb HO289 hb
            have HO295 := Aside0.mk (Kd.R_lower (Kd.R_new' (Kd.R_new' ho0 (Kd.R_lt (by (with_reducible repeat (first | apply Kd.R_alloc | apply Kd.R_drewN | apply Kd.R_drew)); exact HO255.out))) (Kd.R_lt (by (with_reducible repeat (first | apply Kd.R_alloc | apply Kd.R_drewN | apply Kd.R_drew)); exact HO274.out))) (below_size (bz HB)))
            replace HO255 := Aside0.mk (Kd.R_elder' (by (with_reducible repeat (first | apply Kd.R_alloc | apply Kd.R_drewN | apply Kd.R_drew)); exact HO255.out) (Kd.R_base ho0) hb)
            replace HO274 := Aside0.mk (Kd.R_elder' (by (with_reducible repeat (first | apply Kd.R_alloc | apply Kd.R_drewN | apply Kd.R_drew)); exact HO274.out) (Kd.R_base ho0) hb)
            replace BK243 := bk BK243 hb
            replace BK244 := bk BK244 hb
            replace BK264 := bk BK264 hb
            replace BK271 := bk BK271 hb
            replace BK275 := bk BK275 hb
            replace BK284 := bk BK284 hb
            replace HB := Aside0.mk (below_step (bz HB) hb)
            (try clear hb)
            (try clear hb2)
            (try clear hk)
            (try clear hi)
            (try clear ho0)
            obtain ⟨Ao95, co95, eo95⟩ := Kd.R_slice HO295.out
            (first | subst eo95 | (injection eo95 with f1_ f2_ f3_; have f4_ := f1_.symm; have f5_ := f3_.symm; clear f1_ f2_ f3_; subst f4_; subst f5_))
            refine hK.out _ _ ⟨(blk_cell BK275.out 0).trans rfl, (blk_cell BK244.out 0).trans rfl⟩ (fun hHeld => ?_)
            clear hK K
            refine norm_ (a' := ?_) ?_ ?_
            rotate_left
            · show Act.put _ (some 47) _ = _
              simp only [Act.put, List.setIfInBounds_toArray, List.set_cons_zero, List.set_cons_succ, i64_w, i32_w]
              rfl
            refine one_ (i := 3) (N := some 48) #[true, true, true, true, false] rfl rfl (by kernel_rfl) (by decide) (fun K hK => ?_)
            refine goes_ Try.func29 (by kernel_rfl) rfl #[.agg #[.slice Ao71 t272.length co71], .agg #[.slice Ao95 t293.length co95]] (by rfl) rfl rfl (by (try simp only [List.map_toArray, List.map_cons, List.map_nil]); first | done | rfl | (simp only [List.length_drop, List.length_take]; rfl)) ?_
            with_reducible refine (laws_eqFile.calls k _ _ t272 _ _ t293 true _ ?side1 ?side2 ?side3 ?side4 A31.out).mono ?_
            (case side1 => repeat (first | exact (Kd.R_reads' HO274.out).2.2 | (with_reducible refine Kd.C_alloc ?_ _) | (with_reducible refine Kd.C_drewN ?_ _) | (with_reducible refine Kd.C_drew ?_)))
            (case side2 => exact (Kd.R_reads' HO274.out).2.1)
            (case side3 => repeat (first | exact (Kd.R_reads' HO295.out).2.2 | (with_reducible refine Kd.C_alloc ?_ _) | (with_reducible refine Kd.C_drewN ?_ _) | (with_reducible refine Kd.C_drew ?_)))
            (case side4 => exact (Kd.R_reads' HO295.out).2.1)
            rintro e w96 ⟨rfl, hb⟩
            refine ⟨_, rfl, ?_⟩
            replace HO250 := rb HO250 hb
            replace HO255 := rb HO255 hb
            replace HO261 := rb HO261 hb
            replace HO268 := rb HO268 hb
            replace HO274 := rb HO274 hb
            replace HO281 := rb HO281 hb
            replace HO289 := rb HO289 hb
            replace HO295 := rb HO295 hb
            replace BK243 := bk BK243 hb
            replace BK244 := bk BK244 hb
            replace BK264 := bk BK264 hb
            replace BK271 := bk BK271 hb
            replace BK275 := bk BK275 hb
            replace BK284 := bk BK284 hb
            replace HB := Aside0.mk (below_step (bz HB) hb)
            (try clear hb)
            (try clear hb2)
            (try clear hk)
            (try clear hi)
            refine hK.out _ _ ⟨(blk_cell BK275.out 0).trans rfl, (blk_cell BK244.out 0).trans rfl⟩ (fun hHeld => ?_)
            clear hK K
            refine norm_ (a' := ?_) ?_ ?_
            rotate_left
            · show Act.put _ (some 48) _ = _
              simp only [Act.put, List.setIfInBounds_toArray, List.set_cons_zero, List.set_cons_succ, i64_w, i32_w]
              rfl
            refine pure_ (i := 4) (N := some 49) (v := ?_) (a' := ?_) #[true, true, true, true, true] rfl rfl (by kernel_rfl) (fun _ _ _ h => h) (Or.inl ⟨by rfl, ?_⟩) ?_ ?_
            rotate_left
            · intro w'
              go_simp
              with_reducible rfl
            rotate_left
            · simp only [Act.put, List.setIfInBounds_toArray, List.set_cons_zero, List.set_cons_succ, i64_w, i32_w]
              rfl
            refine done_ (by kernel_rfl) ?_
            have hcz97_0 : w96.cell? ⟨gb271, 0, none⟩ = some (.int .i64 t265) := (blk_cell BK271.out 0).trans rfl
            have hcz97_1 : w96.cell? ⟨gb271, 1, none⟩ = some (.slice Ao66 t266.length co66) := (blk_cell BK271.out 1).trans rfl
            have hcz97_2 : w96.cell? ⟨gb271, 2, none⟩ = some (.int .i64 t269) := (blk_cell BK271.out 2).trans rfl
            have hcz97_3 : w96.cell? ⟨gb271, 3, none⟩ = some (.int .i64 t270) := (blk_cell BK271.out 3).trans rfl
            have hfz97_0 := blk_frozen BK271.out 0
            have hfz97_1 := blk_frozen BK271.out 1
            have hfz97_2 := blk_frozen BK271.out 2
            have hfz97_3 := blk_frozen BK271.out 3
            go_upto_region 21 with (first | ((with_reducible refine gate_callee (f := 24) rfl ?_); refine goesL_ (some 52) rfl rfl Try.func24 (by kernel_rfl) rfl #[.agg #[.int .i64 t265, .slice Ao66 t266.length co66, .int .i64 t269, .int .i64 t270], .int .i64 1] rfl (by (try simp only [List.map_toArray, List.map_cons, List.map_nil]); first | done | rfl | (simp only [List.length_drop, List.length_take]; rfl)) ?_; (with_reducible refine (laws_markIndex.calls k t265 (fun k_ => some k_ = (.slice Ao66 t266.length co66 : Value).ownBlock) (.slice Ao66 t266.length co66) t266 t269 t270 1 t297 t298 w _ ?side1 ?side2 A33.out).mono ?_); (case side1 => repeat (first | (with_reducible first | exact HB.out | apply below_alloc | apply pw_below_drewN | apply below_drew1 | refine below_set ?_ GE243.out | refine below_set ?_ GE244.out | refine below_set ?_ GE264.out | refine below_set ?_ GE271.out | refine below_set ?_ GE275.out | refine below_set ?_ GE284.out) | exact HB.out)); (case side2 => exact Kd.R_tight rfl HO268.out); rintro e w98 ⟨rfl, hy0, hb, hkp⟩; refine ⟨_, rfl, ?_⟩; replace BK243 := Aside0.mk (blk_kept (by (with_reducible repeat (first | refine blk_drewN ?_ _ | refine blk_drew ?_ | refine blk_alloc ?_ _)); exact BK243.out) hkp (fun hs_ => (fun e_ => (Kd.R_ne HO268.out BK243.out (by decide)) e_) hs_)); replace BK244 := Aside0.mk (blk_kept (by (with_reducible repeat (first | refine blk_drewN ?_ _ | refine blk_drew ?_ | refine blk_alloc ?_ _)); exact BK244.out) hkp (fun hs_ => (fun e_ => (Kd.R_ne HO268.out BK244.out (by decide)) e_) hs_)); replace HO250 := Aside0.mk (Kd.R_mono (ok' := fun k_ => some k_ ≠ (.slice Ao54 t259.length co54 : Value).ownBlock ∧ some k_ ≠ (.slice Ao66 t266.length co66 : Value).ownBlock ∧ some k_ ≠ (.slice Ao86 t279.length co86 : Value).ownBlock ∧ some k_ ≠ (.slice Ao91 t287.length co91 : Value).ownBlock) (Kd.R_keptB (HO250.out) hkp (fun k_ hk_ hs_ => (hk_.1.1.2) hs_)) (fun k_ hk_ => ⟨hk_.1.1.1.1, hk_.1.1.1.2, hk_.1.1.2, hk_.1.2⟩)); replace HO255 := Aside0.mk (Kd.R_mono (ok' := fun k_ => some k_ ≠ (.slice Ao71 t272.length co71 : Value).ownBlock ∧ some k_ ≠ (.slice Ao95 t293.length co95 : Value).ownBlock) (Kd.R_keptB ((Kd.R_apart' HO255.out (Kd.R_typed HO268.out) (by decide))) hkp (fun k_ hk_ hs_ => (hk_.2) hs_)) (fun k_ hk_ => ⟨hk_.1.1.1.2, hk_.1.1.2⟩)); replace HO261 := Aside0.mk (Kd.R_mono (ok' := fun k_ => some k_ ≠ (v249 : Value).ownBlock ∧ some k_ ≠ (.slice Ao66 t266.length co66 : Value).ownBlock ∧ some k_ ≠ (.slice Ao86 t279.length co86 : Value).ownBlock ∧ some k_ ≠ (.slice Ao91 t287.length co91 : Value).ownBlock) (Kd.R_keptB (HO261.out) hkp (fun k_ hk_ hs_ => (hk_.1.1.2) hs_)) (fun k_ hk_ => ⟨hk_.1.1.1.1, hk_.1.1.1.2, hk_.1.1.2, hk_.1.2⟩)); replace BK264 := Aside0.mk (blk_kept (by (with_reducible repeat (first | refine blk_drewN ?_ _ | refine blk_drew ?_ | refine blk_alloc ?_ _)); exact BK264.out) hkp (fun hs_ => (fun e_ => (Kd.R_ne HO268.out BK264.out (by decide)) e_) hs_)); replace BK271 := Aside0.mk (blk_kept (by (with_reducible repeat (first | refine blk_drewN ?_ _ | refine blk_drew ?_ | refine blk_alloc ?_ _)); exact BK271.out) hkp (fun hs_ => (fun e_ => (Kd.R_ne HO268.out BK271.out (by decide)) e_) hs_)); replace HO274 := Aside0.mk (Kd.R_mono (ok' := fun k_ => some k_ ≠ (v254 : Value).ownBlock ∧ some k_ ≠ (.slice Ao95 t293.length co95 : Value).ownBlock) (Kd.R_keptB ((Kd.R_apart' HO274.out (Kd.R_typed HO268.out) (by decide))) hkp (fun k_ hk_ hs_ => (hk_.2) hs_)) (fun k_ hk_ => ⟨hk_.1.1.1.2, hk_.1.1.2⟩)); replace BK275 := Aside0.mk (blk_kept (by (with_reducible repeat (first | refine blk_drewN ?_ _ | refine blk_drew ?_ | refine blk_alloc ?_ _)); exact BK275.out) hkp (fun hs_ => (fun e_ => (Kd.R_ne HO268.out BK275.out (by decide)) e_) hs_)); replace HO281 := Aside0.mk (Kd.R_mono (ok' := fun k_ => some k_ ≠ (v249 : Value).ownBlock ∧ some k_ ≠ (.slice Ao54 t259.length co54 : Value).ownBlock ∧ some k_ ≠ (.slice Ao66 t266.length co66 : Value).ownBlock ∧ some k_ ≠ (.slice Ao91 t287.length co91 : Value).ownBlock) (Kd.R_keptB (HO281.out) hkp (fun k_ hk_ hs_ => (hk_.1.2) hs_)) (fun k_ hk_ => ⟨hk_.1.1.1.1.2, hk_.1.1.1.2, hk_.1.1.2, hk_.1.2⟩)); replace BK284 := Aside0.mk (blk_kept (by (with_reducible repeat (first | refine blk_drewN ?_ _ | refine blk_drew ?_ | refine blk_alloc ?_ _)); exact BK284.out) hkp (fun hs_ => (fun e_ => (Kd.R_ne HO268.out BK284.out (by decide)) e_) hs_)); replace HO289 := Aside0.mk (Kd.R_mono (ok' := fun k_ => some k_ ≠ (v249 : Value).ownBlock ∧ some k_ ≠ (.slice Ao54 t259.length co54 : Value).ownBlock ∧ some k_ ≠ (.slice Ao66 t266.length co66 : Value).ownBlock ∧ some k_ ≠ (.slice Ao86 t279.length co86 : Value).ownBlock) (Kd.R_keptB (HO289.out) hkp (fun k_ hk_ hs_ => (hk_.1.2) hs_)) (fun k_ hk_ => ⟨hk_.1.1.1.1.2, hk_.1.1.1.2, hk_.1.1.2, hk_.1.2⟩)); replace HO295 := Aside0.mk (Kd.R_mono (ok' := fun k_ => some k_ ≠ (v254 : Value).ownBlock ∧ some k_ ≠ (.slice Ao71 t272.length co71 : Value).ownBlock) (Kd.R_keptB ((Kd.R_apart' HO295.out (Kd.R_typed HO268.out) (by decide))) hkp (fun k_ hk_ hs_ => (hk_.2) hs_)) (fun k_ hk_ => ⟨hk_.1.1.1.2, hk_.1.1.2⟩)); replace HO268 := Aside0.mk (Kd.R_reok rfl hy0 (fun k_ e_ => HO268.out.1 k_ e_)); replace HB := Aside0.mk (hb); (try clear hb); (try clear hkp); (try clear hy0); have hcz99_0 : w98.cell? ⟨gb275, 0, none⟩ = some (.slice Ao71 t272.length co71) := (blk_cell BK275.out 0).trans rfl; have hfz99_0 := blk_frozen BK275.out 0) | ((with_reducible refine gate_callee (f := 32) rfl ?_); refine goesL_ (some 55) rfl rfl Try.func32 (by kernel_rfl) rfl #[.agg #[.slice Ao71 t272.length co71], .int .i64 t297] rfl (by (try simp only [List.map_toArray, List.map_cons, List.map_nil]); first | done | rfl | (simp only [List.length_drop, List.length_take]; rfl)) ?_; (with_reducible refine (laws_markFile.calls k (fun k_ => some k_ = (.slice Ao71 t272.length co71 : Value).ownBlock) (.slice Ao71 t272.length co71) t272 t297 t299 t300 w _ ?side1 ?side2 A34.out).mono ?_); (case side1 => repeat (first | (with_reducible first | exact HB.out | apply below_alloc | apply pw_below_drewN | apply below_drew1 | refine below_set ?_ GE243.out | refine below_set ?_ GE244.out | refine below_set ?_ GE264.out | refine below_set ?_ GE271.out | refine below_set ?_ GE275.out | refine below_set ?_ GE284.out) | exact HB.out)); (case side2 => exact Kd.R_tight rfl HO274.out); rintro e w100 ⟨rfl, hy0, hb, hkp⟩; refine ⟨_, rfl, ?_⟩; replace BK243 := Aside0.mk (blk_kept (by (with_reducible repeat (first | refine blk_drewN ?_ _ | refine blk_drew ?_ | refine blk_alloc ?_ _)); exact BK243.out) hkp (fun hs_ => (fun e_ => (Kd.R_ne HO274.out BK243.out (by decide)) e_) hs_)); replace BK244 := Aside0.mk (blk_kept (by (with_reducible repeat (first | refine blk_drewN ?_ _ | refine blk_drew ?_ | refine blk_alloc ?_ _)); exact BK244.out) hkp (fun hs_ => (fun e_ => (Kd.R_ne HO274.out BK244.out (by decide)) e_) hs_)); replace HO250 := Aside0.mk (Kd.R_mono (ok' := fun k_ => some k_ ≠ (.slice Ao54 t259.length co54 : Value).ownBlock ∧ some k_ ≠ (.slice Ao66 t266.length co66 : Value).ownBlock ∧ some k_ ≠ (.slice Ao86 t279.length co86 : Value).ownBlock ∧ some k_ ≠ (.slice Ao91 t287.length co91 : Value).ownBlock) (Kd.R_keptB ((Kd.R_apart' HO250.out (Kd.R_typed HO274.out) (by decide))) hkp (fun k_ hk_ hs_ => (hk_.2) hs_)) (fun k_ hk_ => ⟨hk_.1.1.1, hk_.1.1.2.1, hk_.1.1.2.2.1, hk_.1.1.2.2.2⟩)); replace HO255 := Aside0.mk (Kd.R_mono (ok' := fun k_ => some k_ ≠ (.slice Ao71 t272.length co71 : Value).ownBlock ∧ some k_ ≠ (.slice Ao95 t293.length co95 : Value).ownBlock) (Kd.R_keptB (HO255.out) hkp (fun k_ hk_ hs_ => (hk_.1) hs_)) (fun k_ hk_ => ⟨hk_.1.1, hk_.1.2⟩)); replace HO261 := Aside0.mk (Kd.R_mono (ok' := fun k_ => some k_ ≠ (v249 : Value).ownBlock ∧ some k_ ≠ (.slice Ao66 t266.length co66 : Value).ownBlock ∧ some k_ ≠ (.slice Ao86 t279.length co86 : Value).ownBlock ∧ some k_ ≠ (.slice Ao91 t287.length co91 : Value).ownBlock) (Kd.R_keptB ((Kd.R_apart' HO261.out (Kd.R_typed HO274.out) (by decide))) hkp (fun k_ hk_ hs_ => (hk_.2) hs_)) (fun k_ hk_ => ⟨hk_.1.1.1, hk_.1.1.2.1, hk_.1.1.2.2.1, hk_.1.1.2.2.2⟩)); replace BK264 := Aside0.mk (blk_kept (by (with_reducible repeat (first | refine blk_drewN ?_ _ | refine blk_drew ?_ | refine blk_alloc ?_ _)); exact BK264.out) hkp (fun hs_ => (fun e_ => (Kd.R_ne HO274.out BK264.out (by decide)) e_) hs_)); replace HO268 := Aside0.mk (Kd.R_mono (ok' := fun k_ => some k_ ≠ (v249 : Value).ownBlock ∧ some k_ ≠ (.slice Ao54 t259.length co54 : Value).ownBlock ∧ some k_ ≠ (.slice Ao86 t279.length co86 : Value).ownBlock ∧ some k_ ≠ (.slice Ao91 t287.length co91 : Value).ownBlock) (Kd.R_keptB ((Kd.R_apart' HO268.out (Kd.R_typed HO274.out) (by decide))) hkp (fun k_ hk_ hs_ => (hk_.2) hs_)) (fun k_ hk_ => ⟨hk_.1.1.1.1.1.2, hk_.1.1.1.1.2, hk_.1.1.1.2, hk_.1.1.2⟩)); replace BK271 := Aside0.mk (blk_kept (by (with_reducible repeat (first | refine blk_drewN ?_ _ | refine blk_drew ?_ | refine blk_alloc ?_ _)); exact BK271.out) hkp (fun hs_ => (fun e_ => (Kd.R_ne HO274.out BK271.out (by decide)) e_) hs_)); replace BK275 := Aside0.mk (blk_kept (by (with_reducible repeat (first | refine blk_drewN ?_ _ | refine blk_drew ?_ | refine blk_alloc ?_ _)); exact BK275.out) hkp (fun hs_ => (fun e_ => (Kd.R_ne HO274.out BK275.out (by decide)) e_) hs_)); replace HO281 := Aside0.mk (Kd.R_mono (ok' := fun k_ => some k_ ≠ (v249 : Value).ownBlock ∧ some k_ ≠ (.slice Ao54 t259.length co54 : Value).ownBlock ∧ some k_ ≠ (.slice Ao66 t266.length co66 : Value).ownBlock ∧ some k_ ≠ (.slice Ao91 t287.length co91 : Value).ownBlock) (Kd.R_keptB ((Kd.R_apart' HO281.out (Kd.R_typed HO274.out) (by decide))) hkp (fun k_ hk_ hs_ => (hk_.2) hs_)) (fun k_ hk_ => ⟨hk_.1.1.1, hk_.1.1.2.1, hk_.1.1.2.2.1, hk_.1.1.2.2.2⟩)); replace BK284 := Aside0.mk (blk_kept (by (with_reducible repeat (first | refine blk_drewN ?_ _ | refine blk_drew ?_ | refine blk_alloc ?_ _)); exact BK284.out) hkp (fun hs_ => (fun e_ => (Kd.R_ne HO274.out BK284.out (by decide)) e_) hs_)); replace HO289 := Aside0.mk (Kd.R_mono (ok' := fun k_ => some k_ ≠ (v249 : Value).ownBlock ∧ some k_ ≠ (.slice Ao54 t259.length co54 : Value).ownBlock ∧ some k_ ≠ (.slice Ao66 t266.length co66 : Value).ownBlock ∧ some k_ ≠ (.slice Ao86 t279.length co86 : Value).ownBlock) (Kd.R_keptB ((Kd.R_apart' HO289.out (Kd.R_typed HO274.out) (by decide))) hkp (fun k_ hk_ hs_ => (hk_.2) hs_)) (fun k_ hk_ => ⟨hk_.1.1.1, hk_.1.1.2.1, hk_.1.1.2.2.1, hk_.1.1.2.2.2⟩)); replace HO274 := Aside0.mk (Kd.R_reok rfl hy0 (fun k_ e_ => HO274.out.1 k_ e_)); replace HO295 := Aside0.mk (Kd.R_mono (ok' := fun k_ => some k_ ≠ (v254 : Value).ownBlock ∧ some k_ ≠ (.slice Ao71 t272.length co71 : Value).ownBlock) (Kd.R_keptB (HO295.out) hkp (fun k_ hk_ hs_ => (hk_.2) hs_)) (fun k_ hk_ => ⟨hk_.1.1, hk_.1.2⟩)); replace HB := Aside0.mk (hb); (try clear hb); (try clear hkp); (try clear hy0)))
            (try simp only [Act.put, List.setIfInBounds_toArray, List.set_cons_zero, List.set_cons_succ])
            go_cut [63] (fun v63 wc => ∃ (kq : Nat) (x63_34 : Bool), v63 = .bool x63_34 ∧ Aside0 (laws_FnExactExtendIndex.j0 kq x63_34 a0_0 l0_1 a0_2 a0_3 l1_0 t256 t257 t258 t259 t262 t263 t276 t277 t278 t279 t282 t283 = some r) ∧ Aside0 (kq ≤ k) ∧ Aside0 (Kd.R (Kd.int .i64) 2 wc w.heap.size (fun k_ => some k_ ≠ ((.slice Ao66 t266.length co66) : Value).ownBlock ∧ some k_ ≠ ((.slice Ao86 t279.length co86) : Value).ownBlock) (.slice Ao54 t259.length co54) t259) ∧ Aside0 (Kd.R (Kd.int .i64) 2 wc w.heap.size (fun k_ => some k_ ≠ ((.slice Ao54 t259.length co54) : Value).ownBlock ∧ some k_ ≠ ((.slice Ao86 t279.length co86) : Value).ownBlock) (.slice Ao66 t266.length co66) t298) ∧ Aside0 (Kd.R (Kd.int .u8) 5 wc w.heap.size (fun _ => True) (.slice Ao71 t272.length co71) t300) ∧ Aside0 (Kd.R (Kd.int .i64) 2 wc w.heap.size (fun k_ => some k_ ≠ ((.slice Ao54 t259.length co54) : Value).ownBlock ∧ some k_ ≠ ((.slice Ao66 t266.length co66) : Value).ownBlock) (.slice Ao86 t279.length co86) t279) ∧ Aside0 (wc.heap[gb243]? = some (.cells #[.int .i64 a0_0, (.slice A0_1 l0_1.length c0_1), .int .i64 a0_2, .int .i64 a0_3] 24 (0, 0))) ∧ Aside0 (wc.heap[gb244]? = some (.cells #[(.slice A1_0 l1_0.length c1_0)] 42 (0, 0))) ∧ Aside0 (wc.heap[gb264]? = some (.cells #[.int .i64 t256, .int .i64 t257, .int .i64 t258, (.slice Ao54 t259.length co54), .int .i64 t262, .int .i64 t263] 32 (0, 0))) ∧ Aside0 (wc.heap[gb271]? = some (.cells #[.int .i64 t265, (.slice Ao66 t266.length co66), .int .i64 t269, .int .i64 t270] 27 (0, 0))) ∧ Aside0 (wc.heap[gb275]? = some (.cells #[(.slice Ao71 t272.length co71)] 45 (0, 0))) ∧ Aside0 (wc.heap[gb284]? = some (.cells #[.int .i64 t276, .int .i64 t277, .int .i64 t278, (.slice Ao86 t279.length co86), .int .i64 t282, .int .i64 t283] 32 (0, 0))) ∧ Aside0 (Below w.heap.size w wc))
            case first =>
              have H := HC35.out
              clear HC35
              by_cases c101 : t299 < 0
              · rw [if_pos c101] at H
                have c101b0 : decide (t299 < 0) = true := decide_eq_true c101
                clear c101
                (first | rw [c101b0] | (simp only [i64_w, i32_w]; rw [c101b0]) | skip)
                have H' := Aside0.mk H
                clear H
                go_wp2
                go_meet
                case rel => exact ⟨_, (true), (by first | rfl | (simp; done) | (simp [*]; done)), H', ⟨by first | omega | exact Nat.le_refl _⟩, ⟨by (with_reducible repeat (first | apply Kd.R_alloc | apply Kd.R_drewN | apply Kd.R_drew)); exact Kd.R_mono HO261.out (fun _ hk => ⟨hk.2.1, hk.2.2.1⟩)⟩, ⟨by (with_reducible repeat (first | apply Kd.R_alloc | apply Kd.R_drewN | apply Kd.R_drew)); exact Kd.R_mono HO268.out (fun _ hk => ⟨hk.2.1, hk.2.2.1⟩)⟩, ⟨by (with_reducible repeat (first | apply Kd.R_alloc | apply Kd.R_drewN | apply Kd.R_drew)); exact Kd.R_mono HO274.out (fun _ hk => trivial)⟩, ⟨by (with_reducible repeat (first | apply Kd.R_alloc | apply Kd.R_drewN | apply Kd.R_drew)); exact Kd.R_mono HO281.out (fun _ hk => ⟨hk.2.1, hk.2.2.1⟩)⟩, ⟨by (with_reducible repeat (first | refine blk_drewN ?_ _ | refine blk_drew ?_ | refine blk_alloc ?_ _)); exact BK243.out⟩, ⟨by (with_reducible repeat (first | refine blk_drewN ?_ _ | refine blk_drew ?_ | refine blk_alloc ?_ _)); exact BK244.out⟩, ⟨by (with_reducible repeat (first | refine blk_drewN ?_ _ | refine blk_drew ?_ | refine blk_alloc ?_ _)); exact BK264.out⟩, ⟨by (with_reducible repeat (first | refine blk_drewN ?_ _ | refine blk_drew ?_ | refine blk_alloc ?_ _)); exact BK271.out⟩, ⟨by (with_reducible repeat (first | refine blk_drewN ?_ _ | refine blk_drew ?_ | refine blk_alloc ?_ _)); exact BK275.out⟩, ⟨by (with_reducible repeat (first | refine blk_drewN ?_ _ | refine blk_drew ?_ | refine blk_alloc ?_ _)); exact BK284.out⟩, ⟨by repeat (first | (with_reducible first | exact HB.out | apply below_alloc | apply pw_below_drewN | apply below_drew1 | refine below_set ?_ GE243.out | refine below_set ?_ GE244.out | refine below_set ?_ GE264.out | refine below_set ?_ GE271.out | refine below_set ?_ GE275.out | refine below_set ?_ GE284.out) | exact HB.out)⟩⟩
              · rw [if_neg c101] at H
                have c101b0 : decide (t299 < 0) = false := decide_eq_false c101
                clear c101
                (first | rw [c101b0] | (simp only [i64_w, i32_w]; rw [c101b0]) | skip)
                replace H := Option.bind_eq_some_iff.mp H
                obtain ⟨t301, A1020, H⟩ := H
                replace H : (laws_FnExactExtendIndex.j0 k (!t301) a0_0 l0_1 a0_2 a0_3 l1_0 t256 t257 t258 t259 t262 t263 t276 t277 t278 t279 t282 t283) = some r := H
                have A102 := Aside0.mk A1020
                clear A1020
                have H' := Aside0.mk H
                clear H
                have hnb103 := NB284_243.out
                have hnc103 := NB243_284.out
                have hnb104 := NB284_244.out
                have hnc104 := NB244_284.out
                have hnb105 := NB284_264.out
                have hnc105 := NB264_284.out
                have hnb106 := NB284_271.out
                have hnc106 := NB271_284.out
                have hnb107 := NB284_275.out
                have hnc107 := NB275_284.out
                have hcz108_0 : w100.cell? ⟨gb284, 0, none⟩ = some (.int .i64 t276) := (blk_cell BK284.out 0).trans rfl
                have hcz108_1 : w100.cell? ⟨gb284, 1, none⟩ = some (.int .i64 t277) := (blk_cell BK284.out 1).trans rfl
                have hcz108_2 : w100.cell? ⟨gb284, 2, none⟩ = some (.int .i64 t278) := (blk_cell BK284.out 2).trans rfl
                have hcz108_3 : w100.cell? ⟨gb284, 3, none⟩ = some (.slice Ao86 t279.length co86) := (blk_cell BK284.out 3).trans rfl
                have hcz108_4 : w100.cell? ⟨gb284, 4, none⟩ = some (.int .i64 t282) := (blk_cell BK284.out 4).trans rfl
                have hcz108_5 : w100.cell? ⟨gb284, 5, none⟩ = some (.int .i64 t283) := (blk_cell BK284.out 5).trans rfl
                have hfz108_0 := blk_frozen BK284.out 0
                have hfz108_1 := blk_frozen BK284.out 1
                have hfz108_2 := blk_frozen BK284.out 2
                have hfz108_3 := blk_frozen BK284.out 3
                have hfz108_4 := blk_frozen BK284.out 4
                have hfz108_5 := blk_frozen BK284.out 5
                have hnb109 := NB264_243.out
                have hnc109 := NB243_264.out
                have hnb110 := NB264_244.out
                have hnc110 := NB244_264.out
                have hnb111 := NB264_271.out
                have hnc111 := NB271_264.out
                have hnb112 := NB264_275.out
                have hnc112 := NB275_264.out
                have hcz113_0 : w100.cell? ⟨gb264, 0, none⟩ = some (.int .i64 t256) := (blk_cell BK264.out 0).trans rfl
                have hcz113_1 : w100.cell? ⟨gb264, 1, none⟩ = some (.int .i64 t257) := (blk_cell BK264.out 1).trans rfl
                have hcz113_2 : w100.cell? ⟨gb264, 2, none⟩ = some (.int .i64 t258) := (blk_cell BK264.out 2).trans rfl
                have hcz113_3 : w100.cell? ⟨gb264, 3, none⟩ = some (.slice Ao54 t259.length co54) := (blk_cell BK264.out 3).trans rfl
                have hcz113_4 : w100.cell? ⟨gb264, 4, none⟩ = some (.int .i64 t262) := (blk_cell BK264.out 4).trans rfl
                have hcz113_5 : w100.cell? ⟨gb264, 5, none⟩ = some (.int .i64 t263) := (blk_cell BK264.out 5).trans rfl
                have hfz113_0 := blk_frozen BK264.out 0
                have hfz113_1 := blk_frozen BK264.out 1
                have hfz113_2 := blk_frozen BK264.out 2
                have hfz113_3 := blk_frozen BK264.out 3
                have hfz113_4 := blk_frozen BK264.out 4
                have hfz113_5 := blk_frozen BK264.out 5
                go_wp2_with (first | (go_at_call 19; (with_reducible refine (laws_eqIndexResult.calls k t276 t277 t278 _ _ t279 t282 t283 t256 t257 t258 _ _ t259 t262 t263 t301 _ ?side1 ?side2 ?side3 ?side4 A102.out).mono ?_); (case side1 => repeat (first | exact (Kd.R_reads' HO281.out).2.2 | (with_reducible refine Kd.C_alloc ?_ _) | (with_reducible refine Kd.C_drewN ?_ _) | (with_reducible refine Kd.C_drew ?_))); (case side2 => exact (Kd.R_reads' HO281.out).2.1); (case side3 => repeat (first | exact (Kd.R_reads' HO261.out).2.2 | (with_reducible refine Kd.C_alloc ?_ _) | (with_reducible refine Kd.C_drewN ?_ _) | (with_reducible refine Kd.C_drew ?_))); (case side4 => exact (Kd.R_reads' HO261.out).2.1); rintro e w114 ⟨rfl, hb⟩; replace HO250 := rb HO250 hb; replace HO255 := rb HO255 hb; replace HO261 := rb HO261 hb; replace HO268 := rb HO268 hb; replace HO274 := rb HO274 hb; replace HO281 := rb HO281 hb; replace HO289 := rb HO289 hb; replace HO295 := rb HO295 hb; replace BK243 := bk BK243 hb; replace BK244 := bk BK244 hb; replace BK264 := bk BK264 hb; replace BK271 := bk BK271 hb; replace BK275 := bk BK275 hb; replace BK284 := bk BK284 hb; replace HB := Aside0.mk (below_step (bz HB) hb); (try clear hb); (try clear hb2); (try clear hk); (try clear hi)))
                go_meet
                case rel => exact ⟨_, (!t301), (by first | rfl | (simp; done) | (simp [*]; done)), H', ⟨by first | omega | exact Nat.le_refl _⟩, ⟨by (with_reducible repeat (first | apply Kd.R_alloc | apply Kd.R_drewN | apply Kd.R_drew)); exact Kd.R_mono HO261.out (fun _ hk => ⟨hk.2.1, hk.2.2.1⟩)⟩, ⟨by (with_reducible repeat (first | apply Kd.R_alloc | apply Kd.R_drewN | apply Kd.R_drew)); exact Kd.R_mono HO268.out (fun _ hk => ⟨hk.2.1, hk.2.2.1⟩)⟩, ⟨by (with_reducible repeat (first | apply Kd.R_alloc | apply Kd.R_drewN | apply Kd.R_drew)); exact Kd.R_mono HO274.out (fun _ hk => trivial)⟩, ⟨by (with_reducible repeat (first | apply Kd.R_alloc | apply Kd.R_drewN | apply Kd.R_drew)); exact Kd.R_mono HO281.out (fun _ hk => ⟨hk.2.1, hk.2.2.1⟩)⟩, ⟨by (with_reducible repeat (first | refine blk_drewN ?_ _ | refine blk_drew ?_ | refine blk_alloc ?_ _)); exact BK243.out⟩, ⟨by (with_reducible repeat (first | refine blk_drewN ?_ _ | refine blk_drew ?_ | refine blk_alloc ?_ _)); exact BK244.out⟩, ⟨by (with_reducible repeat (first | refine blk_drewN ?_ _ | refine blk_drew ?_ | refine blk_alloc ?_ _)); exact BK264.out⟩, ⟨by (with_reducible repeat (first | refine blk_drewN ?_ _ | refine blk_drew ?_ | refine blk_alloc ?_ _)); exact BK271.out⟩, ⟨by (with_reducible repeat (first | refine blk_drewN ?_ _ | refine blk_drew ?_ | refine blk_alloc ?_ _)); exact BK275.out⟩, ⟨by (with_reducible repeat (first | refine blk_drewN ?_ _ | refine blk_drew ?_ | refine blk_alloc ?_ _)); exact BK284.out⟩, ⟨by repeat (first | (with_reducible first | exact HB.out | apply below_alloc | apply pw_below_drewN | apply below_drew1 | refine below_set ?_ GE243.out | refine below_set ?_ GE244.out | refine below_set ?_ GE264.out | refine below_set ?_ GE271.out | refine below_set ?_ GE275.out | refine below_set ?_ GE284.out) | exact HB.out)⟩⟩
            case rest =>
              clear HC35
              try clear c1
              try clear c2
              try clear p2
              try clear c3
              try clear c5
              try clear c6
              try clear c7
              try clear c8
              try clear c10
              try clear c11
              try clear c14
              try clear c16
              try clear c19
              try clear c24
              try clear c27
              try clear c29
              try clear c31
              try clear c32
              try clear c58
              try clear c62
              try clear c63
              try clear c64
              try clear c67
              try clear c72
              try clear c73
              try clear c74
              try clear c75
              try clear c80
              try clear c81
              try clear c82
              try clear c83
              try clear c84
              try clear c101
              try clear c101b0
              try clear c103
              try clear c104
              try clear c105
              try clear c106
              try clear c107
              try clear c109
              try clear c110
              try clear c111
              try clear c112
              try clear hcz108_0
              try clear hcz108_1
              try clear hcz108_2
              try clear hcz108_3
              try clear hcz108_4
              try clear hcz108_5
              try clear hcz113_0
              try clear hcz113_1
              try clear hcz113_2
              try clear hcz113_3
              try clear hcz113_4
              try clear hcz113_5
              try clear hcz59_0
              try clear hcz59_1
              try clear hcz59_2
              try clear hcz59_3
              try clear hcz65_0
              try clear hcz65_1
              try clear hcz65_2
              try clear hcz65_3
              try clear hcz68_0
              try clear hcz76_0
              try clear hcz77_0
              try clear hcz77_1
              try clear hcz77_2
              try clear hcz77_3
              try clear hcz85_0
              try clear hcz85_1
              try clear hcz85_2
              try clear hcz85_3
              try clear hcz85_4
              try clear hcz85_5
              try clear hcz87_0
              try clear hcz87_1
              try clear hcz87_2
              try clear hcz87_3
              try clear hcz87_4
              try clear hcz87_5
              try clear hcz97_0
              try clear hcz97_1
              try clear hcz97_2
              try clear hcz97_3
              try clear hcz99_0
              try clear hfz108_0
              try clear hfz108_1
              try clear hfz108_2
              try clear hfz108_3
              try clear hfz108_4
              try clear hfz108_5
              try clear hfz113_0
              try clear hfz113_1
              try clear hfz113_2
              try clear hfz113_3
              try clear hfz113_4
              try clear hfz113_5
              try clear hfz59_0
              try clear hfz59_1
              try clear hfz59_2
              try clear hfz59_3
              try clear hfz65_0
              try clear hfz65_1
              try clear hfz65_2
              try clear hfz65_3
              try clear hfz68_0
              try clear hfz76_0
              try clear hfz77_0
              try clear hfz77_1
              try clear hfz77_2
              try clear hfz77_3
              try clear hfz85_0
              try clear hfz85_1
              try clear hfz85_2
              try clear hfz85_3
              try clear hfz85_4
              try clear hfz85_5
              try clear hfz87_0
              try clear hfz87_1
              try clear hfz87_2
              try clear hfz87_3
              try clear hfz87_4
              try clear hfz87_5
              try clear hfz97_0
              try clear hfz97_1
              try clear hfz97_2
              try clear hfz97_3
              try clear hfz99_0
              obtain ⟨kq, x63_34, rfl, HA, HJ34, HO_265003, HO_272001, HO_276000, HO_285003, BK243, BK244, BK264, BK271, BK275, BK284, HB⟩ := hcut
              have hl272001_34 := (Kd.R_reads' HO_272001.out).1
              rw [hl272001_34] at HO_272001
              (try simp only [hl272001_34])
              (try simp only [hl272001_34] at BK243)
              (try simp only [hl272001_34] at BK244)
              (try simp only [hl272001_34] at BK264)
              (try simp only [hl272001_34] at BK271)
              (try simp only [hl272001_34] at BK275)
              (try simp only [hl272001_34] at BK284)
              (try simp only [hl272001_34] at HO_265003)
              (try simp only [hl272001_34] at HO_276000)
              (try simp only [hl272001_34] at HO_285003)
              have hl276000_34 := (Kd.R_reads' HO_276000.out).1
              rw [hl276000_34] at HO_276000
              (try simp only [hl276000_34])
              (try simp only [hl276000_34] at BK243)
              (try simp only [hl276000_34] at BK244)
              (try simp only [hl276000_34] at BK264)
              (try simp only [hl276000_34] at BK271)
              (try simp only [hl276000_34] at BK275)
              (try simp only [hl276000_34] at BK284)
              (try simp only [hl276000_34] at HO_265003)
              (try simp only [hl276000_34] at HO_272001)
              (try simp only [hl276000_34] at HO_285003)
              cases kq with
              | zero => exact absurd HA.out (by simp [laws_FnExactExtendIndex.j0])
              | succ kj34 =>
                have H := HA.out
                clear HA
                simp only [laws_FnExactExtendIndex.j0] at H
                by_cases c115 : x63_34 = true
                · subst c115
                  have H1 : (some false) = some r := by rw [if_pos rfl] at H; exact H
                  clear H
                  have H := H1
                  clear H1
                  obtain rfl := Option.some.inj H
                  exact absurd HT.out (by decide)
                · replace c115 := Bool.eq_false_iff.mpr c115
                  subst c115
                  have H1 : ((laws_markIndexResult.f kj34 t276 t277 t278 t279 t282 t283 1).bind fun bt302 => ((laws_heldIndexResult.f kj34 t276 t277 t278 bt302.2 t282 t283 1).bind fun t304 => (if t304 < 0 then (some false) else (if t304 = bt302.1 then ((laws_toIndex.f kj34 a0_0 l0_1 a0_2 a0_3).bind fun bt305 => ((laws_toFile.f kj34 l1_0).bind fun t311 => ((impl_ExtendIndex.f kj34 bt305.1 bt305.2.1 bt305.2.2.1 bt305.2.2.2 t311).bind fun bt314 => ((laws_eqIndexResult.f kj34 bt314.1 bt314.2.1 bt314.2.2.1 bt314.2.2.2.1 bt314.2.2.2.2.1 bt314.2.2.2.2.2 t256 t257 t258 t259 t262 t263).bind fun t323 => (if t323 = true then ((laws_heldIndexResult.f kj34 t276 t277 t278 bt302.2 t282 t283 1).bind fun t324 => (if t324 < 0 then (some false) else (if t324 = bt302.1 then (some true) else (some false)))) else (some false)))))) else (some false))))) = some r := by rw [if_neg (show ¬ (false = true) by decide)] at H; exact H
                  clear H
                  have H := H1
                  clear H1
                  replace H := Option.bind_eq_some_iff.mp H
                  obtain ⟨⟨t302, t303⟩, A1160, H⟩ := H
                  replace H : ((laws_heldIndexResult.f kj34 t276 t277 t278 t303 t282 t283 1).bind fun t304 => (if t304 < 0 then (some false) else (if t304 = t302 then ((laws_toIndex.f kj34 a0_0 l0_1 a0_2 a0_3).bind fun bt305 => ((laws_toFile.f kj34 l1_0).bind fun t311 => ((impl_ExtendIndex.f kj34 bt305.1 bt305.2.1 bt305.2.2.1 bt305.2.2.2 t311).bind fun bt314 => ((laws_eqIndexResult.f kj34 bt314.1 bt314.2.1 bt314.2.2.1 bt314.2.2.2.1 bt314.2.2.2.2.1 bt314.2.2.2.2.2 t256 t257 t258 t259 t262 t263).bind fun t323 => (if t323 = true then ((laws_heldIndexResult.f kj34 t276 t277 t278 t303 t282 t283 1).bind fun t324 => (if t324 < 0 then (some false) else (if t324 = t302 then (some true) else (some false)))) else (some false)))))) else (some false)))) = some r := H
                  have A116 := Aside0.mk A1160
                  clear A1160
                  replace H := Option.bind_eq_some_iff.mp H
                  obtain ⟨t304, A1170, H⟩ := H
                  replace H : (if t304 < 0 then (some false) else (if t304 = t302 then ((laws_toIndex.f kj34 a0_0 l0_1 a0_2 a0_3).bind fun bt305 => ((laws_toFile.f kj34 l1_0).bind fun t311 => ((impl_ExtendIndex.f kj34 bt305.1 bt305.2.1 bt305.2.2.1 bt305.2.2.2 t311).bind fun bt314 => ((laws_eqIndexResult.f kj34 bt314.1 bt314.2.1 bt314.2.2.1 bt314.2.2.2.1 bt314.2.2.2.2.1 bt314.2.2.2.2.2 t256 t257 t258 t259 t262 t263).bind fun t323 => (if t323 = true then ((laws_heldIndexResult.f kj34 t276 t277 t278 t303 t282 t283 1).bind fun t324 => (if t324 < 0 then (some false) else (if t324 = t302 then (some true) else (some false)))) else (some false)))))) else (some false))) = some r := H
                  have A117 := Aside0.mk A1170
                  clear A1170
                  by_cases c118 : t304 < 0
                  · rw [if_pos c118] at H
                    have c118b0 : decide (t304 < 0) = true := decide_eq_true c118
                    clear c118
                    obtain rfl := Option.some.inj H
                    exact absurd HT.out (by decide)
                  · rw [if_neg c118] at H
                    have c118b0 : decide (t304 < 0) = false := decide_eq_false c118
                    clear c118
                    by_cases c119 : t304 = t302
                    · rw [if_pos c119] at H
                      have c119b0 : (t304 == t302) = true := beq_iff_eq.mpr c119
                      have c119b1 : (t304 != t302) = false := bne_eq_false_iff_eq.mpr c119
                      clear c119
                      replace H := Option.bind_eq_some_iff.mp H
                      obtain ⟨⟨t305, t306, t309, t310⟩, A1200, H⟩ := H
                      replace H : ((laws_toFile.f kj34 l1_0).bind fun t311 => ((impl_ExtendIndex.f kj34 t305 t306 t309 t310 t311).bind fun bt314 => ((laws_eqIndexResult.f kj34 bt314.1 bt314.2.1 bt314.2.2.1 bt314.2.2.2.1 bt314.2.2.2.2.1 bt314.2.2.2.2.2 t256 t257 t258 t259 t262 t263).bind fun t323 => (if t323 = true then ((laws_heldIndexResult.f kj34 t276 t277 t278 t303 t282 t283 1).bind fun t324 => (if t324 < 0 then (some false) else (if t324 = t302 then (some true) else (some false)))) else (some false))))) = some r := H
                      have A120 := Aside0.mk A1200
                      clear A1200
                      replace H := Option.bind_eq_some_iff.mp H
                      obtain ⟨t311, A1210, H⟩ := H
                      replace H : ((impl_ExtendIndex.f kj34 t305 t306 t309 t310 t311).bind fun bt314 => ((laws_eqIndexResult.f kj34 bt314.1 bt314.2.1 bt314.2.2.1 bt314.2.2.2.1 bt314.2.2.2.2.1 bt314.2.2.2.2.2 t256 t257 t258 t259 t262 t263).bind fun t323 => (if t323 = true then ((laws_heldIndexResult.f kj34 t276 t277 t278 t303 t282 t283 1).bind fun t324 => (if t324 < 0 then (some false) else (if t324 = t302 then (some true) else (some false)))) else (some false)))) = some r := H
                      have A121 := Aside0.mk A1210
                      clear A1210
                      replace H := Option.bind_eq_some_iff.mp H
                      obtain ⟨⟨t314, t315, t316, t317, t320, t321⟩, A1220, H⟩ := H
                      replace H : ((laws_eqIndexResult.f kj34 t314 t315 t316 t317 t320 t321 t256 t257 t258 t259 t262 t263).bind fun t323 => (if t323 = true then ((laws_heldIndexResult.f kj34 t276 t277 t278 t303 t282 t283 1).bind fun t324 => (if t324 < 0 then (some false) else (if t324 = t302 then (some true) else (some false)))) else (some false))) = some r := H
                      have A122 := Aside0.mk A1220
                      clear A1220
                      replace H := Option.bind_eq_some_iff.mp H
                      obtain ⟨t323, A1230, H⟩ := H
                      replace H : (if t323 = true then ((laws_heldIndexResult.f kj34 t276 t277 t278 t303 t282 t283 1).bind fun t324 => (if t324 < 0 then (some false) else (if t324 = t302 then (some true) else (some false)))) else (some false)) = some r := H
                      have A123 := Aside0.mk A1230
                      clear A1230
                      by_cases c124 : t323 = true
                      · subst c124
                        have H1 : ((laws_heldIndexResult.f kj34 t276 t277 t278 t303 t282 t283 1).bind fun t324 => (if t324 < 0 then (some false) else (if t324 = t302 then (some true) else (some false)))) = some r := by rw [if_pos rfl] at H; exact H
                        clear H
                        have H := H1
                        clear H1
                        replace H := Option.bind_eq_some_iff.mp H
                        obtain ⟨t324, A1250, H⟩ := H
                        replace H : (if t324 < 0 then (some false) else (if t324 = t302 then (some true) else (some false))) = some r := H
                        have A125 := Aside0.mk A1250
                        clear A1250
                        by_cases c126 : t324 < 0
                        · rw [if_pos c126] at H
                          have c126b0 : decide (t324 < 0) = true := decide_eq_true c126
                          clear c126
                          obtain rfl := Option.some.inj H
                          exact absurd HT.out (by decide)
                        · rw [if_neg c126] at H
                          have c126b0 : decide (t324 < 0) = false := decide_eq_false c126
                          clear c126
                          by_cases c127 : t324 = t302
                          · rw [if_pos c127] at H
                            have c127b0 : (t324 == t302) = true := beq_iff_eq.mpr c127
                            have c127b1 : (t324 != t302) = false := bne_eq_false_iff_eq.mpr c127
                            clear c127
                            obtain rfl := Option.some.inj H
                            have hnb128 := NB284_243.out
                            have hnc128 := NB243_284.out
                            have hnb129 := NB284_244.out
                            have hnc129 := NB244_284.out
                            have hnb130 := NB284_264.out
                            have hnc130 := NB264_284.out
                            have hnb131 := NB284_271.out
                            have hnc131 := NB271_284.out
                            have hnb132 := NB284_275.out
                            have hnc132 := NB275_284.out
                            have hcz133_0 : wc.cell? ⟨gb284, 0, none⟩ = some (.int .i64 t276) := (blk_cell BK284.out 0).trans rfl
                            have hcz133_1 : wc.cell? ⟨gb284, 1, none⟩ = some (.int .i64 t277) := (blk_cell BK284.out 1).trans rfl
                            have hcz133_2 : wc.cell? ⟨gb284, 2, none⟩ = some (.int .i64 t278) := (blk_cell BK284.out 2).trans rfl
                            have hcz133_3 : wc.cell? ⟨gb284, 3, none⟩ = some (.slice Ao86 t279.length co86) := (blk_cell BK284.out 3).trans rfl
                            have hcz133_4 : wc.cell? ⟨gb284, 4, none⟩ = some (.int .i64 t282) := (blk_cell BK284.out 4).trans rfl
                            have hcz133_5 : wc.cell? ⟨gb284, 5, none⟩ = some (.int .i64 t283) := (blk_cell BK284.out 5).trans rfl
                            have hfz133_0 := blk_frozen BK284.out 0
                            have hfz133_1 := blk_frozen BK284.out 1
                            have hfz133_2 := blk_frozen BK284.out 2
                            have hfz133_3 := blk_frozen BK284.out 3
                            have hfz133_4 := blk_frozen BK284.out 4
                            have hfz133_5 := blk_frozen BK284.out 5
                            try go_wp2_with (first | ((with_reducible refine gate_callee (f := 20) rfl ?_); refine goesL_ (some 66) rfl rfl Try.func20 (by kernel_rfl) rfl #[.agg #[.int .i64 t276, .int .i64 t277, .int .i64 t278, .slice Ao86 t279.length co86, .int .i64 t282, .int .i64 t283], .int .i64 1] rfl (by (try simp only [List.map_toArray, List.map_cons, List.map_nil]); first | done | rfl | (simp only [List.length_drop, List.length_take]; rfl)) ?_; (with_reducible refine (laws_markIndexResult.calls kj34 t276 t277 t278 (fun k_ => some k_ = (.slice Ao86 t279.length co86 : Value).ownBlock) (.slice Ao86 t279.length co86) t279 t282 t283 1 t302 t303 w _ ?side1 ?side2 A116.out).mono ?_); (case side1 => repeat (first | (with_reducible first | exact HB.out | apply below_alloc | apply pw_below_drewN | apply below_drew1 | refine below_set ?_ GE243.out | refine below_set ?_ GE244.out | refine below_set ?_ GE264.out | refine below_set ?_ GE271.out | refine below_set ?_ GE275.out | refine below_set ?_ GE284.out) | exact HB.out)); (case side2 => exact Kd.R_tight rfl HO_285003.out); rintro e w134 ⟨rfl, hy0, hb, hkp⟩; refine ⟨_, rfl, ?_⟩; replace HO_265003 := Aside0.mk (Kd.R_mono (ok' := fun k_ => some k_ ≠ (.slice Ao66 t298.length co66 : Value).ownBlock ∧ some k_ ≠ (.slice Ao86 t279.length co86 : Value).ownBlock) (Kd.R_keptB (HO_265003.out) hkp (fun k_ hk_ hs_ => (hk_.2) hs_)) (fun k_ hk_ => ⟨hk_.1.1, hk_.1.2⟩)); replace HO_272001 := Aside0.mk (Kd.R_mono (ok' := fun k_ => some k_ ≠ (.slice Ao54 t259.length co54 : Value).ownBlock ∧ some k_ ≠ (.slice Ao86 t279.length co86 : Value).ownBlock) (Kd.R_keptB (HO_272001.out) hkp (fun k_ hk_ hs_ => (hk_.2) hs_)) (fun k_ hk_ => ⟨hk_.1.1, hk_.1.2⟩)); replace HO_276000 := Aside0.mk (Kd.R_mono (ok' := fun k_ => True) (Kd.R_keptB ((Kd.R_apart' HO_276000.out (Kd.R_typed HO_285003.out) (by decide))) hkp (fun k_ hk_ hs_ => (hk_.2) hs_)) (fun k_ hk_ => trivial)); replace BK243 := Aside0.mk (blk_kept (by (with_reducible repeat (first | refine blk_drewN ?_ _ | refine blk_drew ?_ | refine blk_alloc ?_ _)); exact BK243.out) hkp (fun hs_ => (fun e_ => (Kd.R_ne HO_285003.out BK243.out (by decide)) e_) hs_)); replace BK244 := Aside0.mk (blk_kept (by (with_reducible repeat (first | refine blk_drewN ?_ _ | refine blk_drew ?_ | refine blk_alloc ?_ _)); exact BK244.out) hkp (fun hs_ => (fun e_ => (Kd.R_ne HO_285003.out BK244.out (by decide)) e_) hs_)); replace BK264 := Aside0.mk (blk_kept (by (with_reducible repeat (first | refine blk_drewN ?_ _ | refine blk_drew ?_ | refine blk_alloc ?_ _)); exact BK264.out) hkp (fun hs_ => (fun e_ => (Kd.R_ne HO_285003.out BK264.out (by decide)) e_) hs_)); replace BK271 := Aside0.mk (blk_kept (by (with_reducible repeat (first | refine blk_drewN ?_ _ | refine blk_drew ?_ | refine blk_alloc ?_ _)); exact BK271.out) hkp (fun hs_ => (fun e_ => (Kd.R_ne HO_285003.out BK271.out (by decide)) e_) hs_)); replace BK275 := Aside0.mk (blk_kept (by (with_reducible repeat (first | refine blk_drewN ?_ _ | refine blk_drew ?_ | refine blk_alloc ?_ _)); exact BK275.out) hkp (fun hs_ => (fun e_ => (Kd.R_ne HO_285003.out BK275.out (by decide)) e_) hs_)); replace BK284 := Aside0.mk (blk_kept (by (with_reducible repeat (first | refine blk_drewN ?_ _ | refine blk_drew ?_ | refine blk_alloc ?_ _)); exact BK284.out) hkp (fun hs_ => (fun e_ => (Kd.R_ne HO_285003.out BK284.out (by decide)) e_) hs_)); replace HO_285003 := Aside0.mk (Kd.R_reok rfl hy0 (fun k_ e_ => HO_285003.out.1 k_ e_)); replace HB := Aside0.mk (hb); (try clear hb); (try clear hkp); (try clear hy0); have hcz135_0 : w134.cell? ⟨gb284, 0, none⟩ = some (.int .i64 t276) := (blk_cell BK284.out 0).trans rfl; have hcz135_1 : w134.cell? ⟨gb284, 1, none⟩ = some (.int .i64 t277) := (blk_cell BK284.out 1).trans rfl; have hcz135_2 : w134.cell? ⟨gb284, 2, none⟩ = some (.int .i64 t278) := (blk_cell BK284.out 2).trans rfl; have hcz135_3 : w134.cell? ⟨gb284, 3, none⟩ = some (.slice Ao86 t279.length co86) := (blk_cell BK284.out 3).trans rfl; have hcz135_4 : w134.cell? ⟨gb284, 4, none⟩ = some (.int .i64 t282) := (blk_cell BK284.out 4).trans rfl; have hcz135_5 : w134.cell? ⟨gb284, 5, none⟩ = some (.int .i64 t283) := (blk_cell BK284.out 5).trans rfl; have hfz135_0 := blk_frozen BK284.out 0; have hfz135_1 := blk_frozen BK284.out 1; have hfz135_2 := blk_frozen BK284.out 2; have hfz135_3 := blk_frozen BK284.out 3; have hfz135_4 := blk_frozen BK284.out 4; have hfz135_5 := blk_frozen BK284.out 5) | ((with_reducible refine gate_callee (f := 21) rfl ?_); refine goesL_ (some 69) rfl rfl Try.func21 (by kernel_rfl) rfl #[.agg #[.int .i64 t276, .int .i64 t277, .int .i64 t278, .slice Ao86 t303.length co86, .int .i64 t282, .int .i64 t283], .int .i64 1] rfl (by (try simp only [List.map_toArray, List.map_cons, List.map_nil]); first | done | (rw [show t303.length = t279.length from (Kd.R_reads' HO_285003.out).1.symm] <;> rfl) | rfl | (simp only [List.length_drop, List.length_take]; rfl)) ?_; (with_reducible refine (laws_heldIndexResult.calls kj34 t276 t277 t278 _ _ t303 t282 t283 1 t304 _ ?side1 ?side2 A117.out).mono ?_); (case side1 => repeat (first | exact (Kd.R_reads' HO_285003.out).2.2 | (with_reducible refine Kd.C_alloc ?_ _) | (with_reducible refine Kd.C_drewN ?_ _) | (with_reducible refine Kd.C_drew ?_))); (case side2 => rw [show t303.length = t279.length from (Kd.R_reads' HO_285003.out).1.symm]; exact (Kd.R_reads' HO_285003.out).2.1); rintro e w136 ⟨rfl, hb⟩; refine ⟨_, rfl, ?_⟩; replace HO_265003 := rb HO_265003 hb; replace HO_272001 := rb HO_272001 hb; replace HO_276000 := rb HO_276000 hb; replace HO_285003 := rb HO_285003 hb; replace BK243 := bk BK243 hb; replace BK244 := bk BK244 hb; replace BK264 := bk BK264 hb; replace BK271 := bk BK271 hb; replace BK275 := bk BK275 hb; replace BK284 := bk BK284 hb; replace HB := Aside0.mk (below_step (bz HB) hb); (try clear hb); (try clear hb2); (try clear hk); (try clear hi)))
                            replace HO_265003 := Aside0.mk (Kd.R_drew HO_265003.out)
                            replace HO_272001 := Aside0.mk (Kd.R_drew HO_272001.out)
                            replace HO_276000 := Aside0.mk (Kd.R_drew HO_276000.out)
                            replace HO_285003 := Aside0.mk (Kd.R_drew HO_285003.out)
                            replace BK243 := Aside0.mk (blk_drew BK243.out)
                            replace BK244 := Aside0.mk (blk_drew BK244.out)
                            replace BK264 := Aside0.mk (blk_drew BK264.out)
                            replace BK271 := Aside0.mk (blk_drew BK271.out)
                            replace BK275 := Aside0.mk (blk_drew BK275.out)
                            replace BK284 := Aside0.mk (blk_drew BK284.out)
                            replace HB := Aside0.mk (below_drew1 HB.out)
                            refine start_ (n := 7) (S := fun w' => w'.cell? ⟨gb243, 0, none⟩ = some (.int .i64 a0_0) ∧ w'.cell? ⟨gb243, 1, none⟩ = some (.slice A0_1 l0_1.length c0_1) ∧ w'.cell? ⟨gb243, 2, none⟩ = some (.int .i64 a0_2) ∧ w'.cell? ⟨gb243, 3, none⟩ = some (.int .i64 a0_3) ∧ w'.cell? ⟨gb244, 0, none⟩ = some (.slice A1_0 l1_0.length c1_0)) (ds := []) #[false, false, false, false, false, false, false] (by kernel_rfl) rfl rfl ⟨(blk_cell BK243.out 0).trans rfl, (blk_cell BK243.out 1).trans rfl, (blk_cell BK243.out 2).trans rfl, (blk_cell BK243.out 3).trans rfl, (blk_cell BK244.out 0).trans rfl⟩ (fun hHeld => ?_)
                            generalize w136.drew = w137 at HO_265003 HO_272001 HO_276000 HO_285003 BK243 BK244 BK264 BK271 BK275 BK284 HB hHeld ⊢
                            refine take_ (i := 0) (N := some 75) (v := ?_) (a' := ?_) #[true, false, false, false, false, false, false] rfl rfl (by kernel_rfl) (fun _ _ _ h => h) (Or.inl ⟨by rfl, ?_⟩) hHeld ?_ ?_
                            rotate_left
                            · rintro w' ⟨s0, s1, s2, s3, s4⟩
                              go_simp
                              with_reducible rfl
                            rotate_left
                            · simp only [Act.put, List.setIfInBounds_toArray, List.set_cons_zero, List.set_cons_succ, i64_w, i32_w]
                              rfl
                            refine take_ (i := 2) (N := some 77) (v := ?_) (a' := ?_) #[true, false, true, false, false, false, false] rfl rfl (by kernel_rfl) (fun _ _ _ h => h) (Or.inl ⟨by rfl, ?_⟩) hHeld ?_ ?_
                            rotate_left
                            · rintro w' ⟨s0, s1, s2, s3, s4⟩
                              go_simp
                              with_reducible rfl
                            rotate_left
                            · simp only [Act.put, List.setIfInBounds_toArray, List.set_cons_zero, List.set_cons_succ, i64_w, i32_w]
                              rfl
                            refine join_ (σ := Value × Value × Value × Nat) 1 #[true, true, true, true, true, true, false] (fun s_ => [(76, .agg #[.int .i64 t305, s_.1, .int .i64 t309, .int .i64 t310]), (78, .agg #[s_.2.1]), (79, .agg #[.int .i64 t314, .int .i64 t315, .int .i64 t316, s_.2.2.1, .int .i64 t320, .int .i64 t321]), (13, .pointer (some ⟨s_.2.2.2, 0, none⟩))]) (fun s_ w' => (w'.cell? ⟨gb243, 0, none⟩ = some (.int .i64 a0_0) ∧ w'.cell? ⟨gb243, 1, none⟩ = some (.slice A0_1 l0_1.length c0_1) ∧ w'.cell? ⟨gb243, 2, none⟩ = some (.int .i64 a0_2) ∧ w'.cell? ⟨gb243, 3, none⟩ = some (.int .i64 a0_3) ∧ w'.cell? ⟨gb244, 0, none⟩ = some (.slice A1_0 l1_0.length c1_0)) ∧ (Kd.R (Kd.int .i64) 2 w' w.heap.size (fun k_ => some k_ ≠ (s_.2.2.1 : Value).ownBlock ∧ some k_ ≠ (.slice Ao54 t259.length co54 : Value).ownBlock ∧ some k_ ≠ (.slice Ao66 t298.length co66 : Value).ownBlock ∧ some k_ ≠ (.slice Ao86 t279.length co86 : Value).ownBlock) s_.1 t306) ∧ (Kd.R (Kd.int .u8) 5 w' w.heap.size (fun k_ => some k_ ≠ (.slice Ao71 t300.length co71 : Value).ownBlock) s_.2.1 t311) ∧ (Kd.R (Kd.int .i64) 2 w' w.heap.size (fun k_ => some k_ ≠ (s_.1 : Value).ownBlock ∧ some k_ ≠ (.slice Ao54 t259.length co54 : Value).ownBlock ∧ some k_ ≠ (.slice Ao66 t298.length co66 : Value).ownBlock ∧ some k_ ≠ (.slice Ao86 t279.length co86 : Value).ownBlock) s_.2.2.1 t317) ∧ (Kd.R (Kd.int .i64) 2 w' w.heap.size (fun k_ => some k_ ≠ (s_.1 : Value).ownBlock ∧ some k_ ≠ (s_.2.2.1 : Value).ownBlock ∧ some k_ ≠ (.slice Ao66 t298.length co66 : Value).ownBlock ∧ some k_ ≠ (.slice Ao86 t279.length co86 : Value).ownBlock) (.slice Ao54 t259.length co54) t259) ∧ (Kd.R (Kd.int .i64) 2 w' w.heap.size (fun k_ => some k_ ≠ (s_.1 : Value).ownBlock ∧ some k_ ≠ (s_.2.2.1 : Value).ownBlock ∧ some k_ ≠ (.slice Ao54 t259.length co54 : Value).ownBlock ∧ some k_ ≠ (.slice Ao86 t279.length co86 : Value).ownBlock) (.slice Ao66 t298.length co66) t298) ∧ (Kd.R (Kd.int .u8) 5 w' w.heap.size (fun k_ => some k_ ≠ (s_.2.1 : Value).ownBlock) (.slice Ao71 t300.length co71) t300) ∧ (Kd.R (Kd.int .i64) 2 w' w.heap.size (fun k_ => some k_ ≠ (s_.1 : Value).ownBlock ∧ some k_ ≠ (s_.2.2.1 : Value).ownBlock ∧ some k_ ≠ (.slice Ao54 t259.length co54 : Value).ownBlock ∧ some k_ ≠ (.slice Ao66 t298.length co66 : Value).ownBlock) (.slice Ao86 t279.length co86) t303) ∧ (w'.heap[gb243]? = some (.cells #[.int .i64 a0_0, .slice A0_1 l0_1.length c0_1, .int .i64 a0_2, .int .i64 a0_3] 24 (0, 0))) ∧ (w'.heap[gb244]? = some (.cells #[.slice A1_0 l1_0.length c1_0] 42 (0, 0))) ∧ (w'.heap[gb264]? = some (.cells #[.int .i64 t256, .int .i64 t257, .int .i64 t258, .slice Ao54 t259.length co54, .int .i64 t262, .int .i64 t263] 32 (0, 0))) ∧ (w'.heap[gb271]? = some (.cells #[.int .i64 t265, .slice Ao66 t298.length co66, .int .i64 t269, .int .i64 t270] 27 (0, 0))) ∧ (w'.heap[gb275]? = some (.cells #[.slice Ao71 t300.length co71] 45 (0, 0))) ∧ (w'.heap[gb284]? = some (.cells #[.int .i64 t276, .int .i64 t277, .int .i64 t278, .slice Ao86 t279.length co86, .int .i64 t282, .int .i64 t283] 32 (0, 0))) ∧ (w'.heap[s_.2.2.2]? = some (.cells #[.int .i64 0, .int .i64 0, .int .i64 0, .slice none 0 0, .int .i64 0, .int .i64 0] 32 (0, 0))) ∧ (w.heap.size ≤ s_.2.2.2) ∧ (w.heap.size ≤ s_.2.2.2) ∧ (gb243 ≠ s_.2.2.2) ∧ (s_.2.2.2 ≠ gb243) ∧ (gb244 ≠ s_.2.2.2) ∧ (s_.2.2.2 ≠ gb244) ∧ (gb264 ≠ s_.2.2.2) ∧ (s_.2.2.2 ≠ gb264) ∧ (gb271 ≠ s_.2.2.2) ∧ (s_.2.2.2 ≠ gb271) ∧ (gb275 ≠ s_.2.2.2) ∧ (s_.2.2.2 ≠ gb275) ∧ (gb284 ≠ s_.2.2.2) ∧ (s_.2.2.2 ≠ gb284) ∧ (Below w.heap.size w w')) ?_ ?_
                            rotate_left
                            · intro hCont
                              refine two_ (i := 1) (j := 5) (Ni := some 76) (Nj := some 13) #[true, true, true, false, false, false, false] #[true, false, true, false, false, true, false] rfl rfl rfl rfl (by kernel_rfl) (by decide) (by decide) (fun K hK => ?_) (fun K hK => ?_)
                              · skip
                                refine goes_ Try.func14 (by kernel_rfl) rfl #[.agg #[.int .i64 a0_0, .slice A0_1 l0_1.length c0_1, .int .i64 a0_2, .int .i64 a0_3]] (by rfl) rfl rfl (by (try simp only [List.map_toArray, List.map_cons, List.map_nil]); first | done | rfl | (simp only [List.length_drop, List.length_take]; rfl)) ?_
                                with_reducible refine (laws_toIndex.calls kj34 a0_0 _ _ l0_1 a0_2 a0_3 t305 t306 t309 t310 _ ?side1 ?side2 A120.out).mono ?_
                                (case side1 => repeat (first | exact (Kd.C_below HR0_1.out HB.out) | (with_reducible refine Kd.C_alloc ?_ _) | (with_reducible refine Kd.C_drewN ?_ _) | (with_reducible refine Kd.C_drew ?_)))
                                (case side2 => exact HC0_1.out)
                                rintro e w138 ⟨v307, rfl, ho0, hb⟩
                                refine ⟨_, rfl, ?_⟩
                                replace HO_276000 := rb HO_276000 hb
                                have HO308 := Aside0.mk (Kd.R_lower (Kd.R_new' (Kd.R_new' (Kd.R_new' ho0 (Kd.R_lt (by (with_reducible repeat (first | apply Kd.R_alloc | apply Kd.R_drewN | apply Kd.R_drew)); exact HO_265003.out))) (Kd.R_lt (by (with_reducible repeat (first | apply Kd.R_alloc | apply Kd.R_drewN | apply Kd.R_drew)); exact HO_272001.out))) (Kd.R_lt (by (with_reducible repeat (first | apply Kd.R_alloc | apply Kd.R_drewN | apply Kd.R_drew)); exact HO_285003.out))) (below_size (bz HB)))
                                replace HO_265003 := Aside0.mk (Kd.R_elder' (by (with_reducible repeat (first | apply Kd.R_alloc | apply Kd.R_drewN | apply Kd.R_drew)); exact HO_265003.out) (Kd.R_base ho0) hb)
                                replace HO_272001 := Aside0.mk (Kd.R_elder' (by (with_reducible repeat (first | apply Kd.R_alloc | apply Kd.R_drewN | apply Kd.R_drew)); exact HO_272001.out) (Kd.R_base ho0) hb)
                                replace HO_285003 := Aside0.mk (Kd.R_elder' (by (with_reducible repeat (first | apply Kd.R_alloc | apply Kd.R_drewN | apply Kd.R_drew)); exact HO_285003.out) (Kd.R_base ho0) hb)
                                replace BK243 := bk BK243 hb
                                replace BK244 := bk BK244 hb
                                replace BK264 := bk BK264 hb
                                replace BK271 := bk BK271 hb
                                replace BK275 := bk BK275 hb
                                replace BK284 := bk BK284 hb
                                replace HB := Aside0.mk (below_step (bz HB) hb)
                                (try clear hb)
                                (try clear hb2)
                                (try clear hk)
                                (try clear hi)
                                (try clear ho0)
                                refine hK.out _ _ ⟨(blk_cell BK243.out 0).trans rfl, (blk_cell BK243.out 1).trans rfl, (blk_cell BK243.out 2).trans rfl, (blk_cell BK243.out 3).trans rfl, (blk_cell BK244.out 0).trans rfl⟩ (fun hHeld => ?_)
                                clear hK K
                                refine norm_ (a' := ?_) ?_ ?_
                                rotate_left
                                · show Act.put _ (some 76) _ = _
                                  simp only [Act.put, List.setIfInBounds_toArray, List.set_cons_zero, List.set_cons_succ, i64_w, i32_w]
                                  rfl
                                refine two_ (i := 3) (j := 5) (Ni := some 78) (Nj := some 13) #[true, true, true, true, false, false, false] #[true, true, true, false, false, true, false] rfl rfl rfl rfl (by kernel_rfl) (by decide) (by decide) (fun K hK => ?_) (fun K hK => ?_)
                                · skip
                                  refine goes_ Try.func27 (by kernel_rfl) rfl #[.agg #[.slice A1_0 l1_0.length c1_0]] (by rfl) rfl rfl (by (try simp only [List.map_toArray, List.map_cons, List.map_nil]); first | done | rfl | (simp only [List.length_drop, List.length_take]; rfl)) ?_
                                  with_reducible refine (laws_toFile.calls kj34 _ _ l1_0 t311 _ ?side1 ?side2 A121.out).mono ?_
                                  (case side1 => repeat (first | exact (Kd.C_below HR1_0.out HB.out) | (with_reducible refine Kd.C_alloc ?_ _) | (with_reducible refine Kd.C_drewN ?_ _) | (with_reducible refine Kd.C_drew ?_)))
                                  (case side2 => exact HC1_0.out)
                                  rintro e w139 ⟨v312, rfl, ho0, hb⟩
                                  refine ⟨_, rfl, ?_⟩
                                  replace HO_265003 := rb HO_265003 hb
                                  replace HO_272001 := rb HO_272001 hb
                                  replace HO_285003 := rb HO_285003 hb
                                  replace HO308 := rb HO308 hb
                                  have HO313 := Aside0.mk (Kd.R_lower (Kd.R_new' ho0 (Kd.R_lt (by (with_reducible repeat (first | apply Kd.R_alloc | apply Kd.R_drewN | apply Kd.R_drew)); exact HO_276000.out))) (below_size (bz HB)))
                                  replace HO_276000 := Aside0.mk (Kd.R_elder' (by (with_reducible repeat (first | apply Kd.R_alloc | apply Kd.R_drewN | apply Kd.R_drew)); exact HO_276000.out) (Kd.R_base ho0) hb)
                                  replace BK243 := bk BK243 hb
                                  replace BK244 := bk BK244 hb
                                  replace BK264 := bk BK264 hb
                                  replace BK271 := bk BK271 hb
                                  replace BK275 := bk BK275 hb
                                  replace BK284 := bk BK284 hb
                                  replace HB := Aside0.mk (below_step (bz HB) hb)
                                  (try clear hb)
                                  (try clear hb2)
                                  (try clear hk)
                                  (try clear hi)
                                  (try clear ho0)
                                  obtain ⟨Ao140, co140, eo140⟩ := Kd.R_slice HO308.out
                                  (first | subst eo140 | (injection eo140 with f1_ f2_ f3_; have f4_ := f1_.symm; have f5_ := f3_.symm; clear f1_ f2_ f3_; subst f4_; subst f5_))
                                  obtain ⟨Ao141, co141, eo141⟩ := Kd.R_slice HO313.out
                                  (first | subst eo141 | (injection eo141 with f1_ f2_ f3_; have f4_ := f1_.symm; have f5_ := f3_.symm; clear f1_ f2_ f3_; subst f4_; subst f5_))
                                  refine hK.out _ _ ⟨(blk_cell BK243.out 0).trans rfl, (blk_cell BK243.out 1).trans rfl, (blk_cell BK243.out 2).trans rfl, (blk_cell BK243.out 3).trans rfl, (blk_cell BK244.out 0).trans rfl⟩ (fun hHeld => ?_)
                                  clear hK K
                                  refine norm_ (a' := ?_) ?_ ?_
                                  rotate_left
                                  · show Act.put _ (some 78) _ = _
                                    simp only [Act.put, List.setIfInBounds_toArray, List.set_cons_zero, List.set_cons_succ, i64_w, i32_w]
                                    rfl
                                  refine two_ (i := 4) (j := 5) (Ni := some 79) (Nj := some 13) #[true, true, true, true, true, false, false] #[true, true, true, true, false, true, false] rfl rfl rfl rfl (by kernel_rfl) (by decide) (by decide) (fun K hK => ?_) (fun K hK => ?_)
                                  · skip
                                    refine goes_ Try.func31 (by kernel_rfl) rfl #[.agg #[.int .i64 t305, .slice Ao140 t306.length co140, .int .i64 t309, .int .i64 t310], .agg #[.slice Ao141 t311.length co141]] (by rfl) rfl rfl (by (try simp only [List.map_toArray, List.map_cons, List.map_nil]); first | done | rfl | (simp only [List.length_drop, List.length_take]; rfl)) ?_
                                    with_reducible refine (impl_ExtendIndex.calls kj34 t305 _ _ t306 t309 t310 _ _ t311 t314 t315 t316 t317 t320 t321 _ ?side1 ?side2 ?side3 ?side4 A122.out).mono ?_
                                    (case side1 => repeat (first | exact (Kd.R_reads' HO308.out).2.2 | (with_reducible refine Kd.C_alloc ?_ _) | (with_reducible refine Kd.C_drewN ?_ _) | (with_reducible refine Kd.C_drew ?_)))
                                    (case side2 => exact (Kd.R_reads' HO308.out).2.1)
                                    (case side3 => repeat (first | exact (Kd.R_reads' HO313.out).2.2 | (with_reducible refine Kd.C_alloc ?_ _) | (with_reducible refine Kd.C_drewN ?_ _) | (with_reducible refine Kd.C_drew ?_)))
                                    (case side4 => exact (Kd.R_reads' HO313.out).2.1)
                                    rintro e w142 ⟨v318, rfl, ho0, hb⟩
                                    refine ⟨_, rfl, ?_⟩
                                    replace HO_276000 := rb HO_276000 hb
                                    replace HO313 := rb HO313 hb
                                    have HO319 := Aside0.mk (Kd.R_lower (Kd.R_new' (Kd.R_new' (Kd.R_new' (Kd.R_new' ho0 (Kd.R_lt (by (with_reducible repeat (first | apply Kd.R_alloc | apply Kd.R_drewN | apply Kd.R_drew)); exact HO_265003.out))) (Kd.R_lt (by (with_reducible repeat (first | apply Kd.R_alloc | apply Kd.R_drewN | apply Kd.R_drew)); exact HO_272001.out))) (Kd.R_lt (by (with_reducible repeat (first | apply Kd.R_alloc | apply Kd.R_drewN | apply Kd.R_drew)); exact HO_285003.out))) (Kd.R_lt (by (with_reducible repeat (first | apply Kd.R_alloc | apply Kd.R_drewN | apply Kd.R_drew)); exact HO308.out))) (below_size (bz HB)))
                                    replace HO_265003 := Aside0.mk (Kd.R_elder' (by (with_reducible repeat (first | apply Kd.R_alloc | apply Kd.R_drewN | apply Kd.R_drew)); exact HO_265003.out) (Kd.R_base ho0) hb)
                                    replace HO_272001 := Aside0.mk (Kd.R_elder' (by (with_reducible repeat (first | apply Kd.R_alloc | apply Kd.R_drewN | apply Kd.R_drew)); exact HO_272001.out) (Kd.R_base ho0) hb)
                                    replace HO_285003 := Aside0.mk (Kd.R_elder' (by (with_reducible repeat (first | apply Kd.R_alloc | apply Kd.R_drewN | apply Kd.R_drew)); exact HO_285003.out) (Kd.R_base ho0) hb)
                                    replace HO308 := Aside0.mk (Kd.R_elder' (by (with_reducible repeat (first | apply Kd.R_alloc | apply Kd.R_drewN | apply Kd.R_drew)); exact HO308.out) (Kd.R_base ho0) hb)
                                    replace BK243 := bk BK243 hb
                                    replace BK244 := bk BK244 hb
                                    replace BK264 := bk BK264 hb
                                    replace BK271 := bk BK271 hb
                                    replace BK275 := bk BK275 hb
                                    replace BK284 := bk BK284 hb
                                    replace HB := Aside0.mk (below_step (bz HB) hb)
                                    (try clear hb)
                                    (try clear hb2)
                                    (try clear hk)
                                    (try clear hi)
                                    (try clear ho0)
                                    refine hK.out _ _ ⟨(blk_cell BK243.out 0).trans rfl, (blk_cell BK243.out 1).trans rfl, (blk_cell BK243.out 2).trans rfl, (blk_cell BK243.out 3).trans rfl, (blk_cell BK244.out 0).trans rfl⟩ (fun hHeld => ?_)
                                    clear hK K
                                    refine norm_ (a' := ?_) ?_ ?_
                                    rotate_left
                                    · show Act.put _ (some 79) _ = _
                                      simp only [Act.put, List.setIfInBounds_toArray, List.set_cons_zero, List.set_cons_succ, i64_w, i32_w]
                                      rfl
                                    refine one_ (i := 5) (N := some 13) #[true, true, true, true, true, true, false] rfl rfl (by kernel_rfl) (by decide) (fun K hK => ?_)
                                    refine box_step ?hg (N := 13) ?hd (cs := #[.int .i64 0, .int .i64 0, .int .i64 0, .slice none 0 0, .int .i64 0, .int .i64 0]) (t := 32) ?hr ?_; (case hd => rfl); (case hg => rfl); (case hr => first | (go_simp; done) | (go_simp; rfl))
                                    intro gb322 hg w143 hbox hb
                                    replace HO_265003 := rb HO_265003 hb
                                    replace HO_272001 := rb HO_272001 hb
                                    replace HO_276000 := rb HO_276000 hb
                                    replace HO_285003 := rb HO_285003 hb
                                    replace HO308 := rb HO308 hb
                                    replace HO313 := rb HO313 hb
                                    replace HO319 := rb HO319 hb
                                    have BK322 := Aside0.mk (hbox)
                                    have GW322 := Aside0.mk ((by rw [hg]; exact (below_size (bz HB)) : w.heap.size ≤ gb322))
                                    have GE322 := Aside0.mk ((by rw [hg]; exact (below_size (bz HB)) : w.heap.size ≤ gb322))
                                    replace HB := Aside0.mk (below_step (bz HB) hb)
                                    have NB243_322 := nb BK243 hg
                                    have NB322_243 := nc BK243 hg
                                    replace BK243 := bk BK243 hb
                                    have NB244_322 := nb BK244 hg
                                    have NB322_244 := nc BK244 hg
                                    replace BK244 := bk BK244 hb
                                    have NB264_322 := nb BK264 hg
                                    have NB322_264 := nc BK264 hg
                                    replace BK264 := bk BK264 hb
                                    have NB271_322 := nb BK271 hg
                                    have NB322_271 := nc BK271 hg
                                    replace BK271 := bk BK271 hb
                                    have NB275_322 := nb BK275 hg
                                    have NB322_275 := nc BK275 hg
                                    replace BK275 := bk BK275 hb
                                    have NB284_322 := nb BK284 hg
                                    have NB322_284 := nc BK284 hg
                                    replace BK284 := bk BK284 hb
                                    clear hb hbox hg
                                    refine hK.out _ _ ⟨(blk_cell BK243.out 0).trans rfl, (blk_cell BK243.out 1).trans rfl, (blk_cell BK243.out 2).trans rfl, (blk_cell BK243.out 3).trans rfl, (blk_cell BK244.out 0).trans rfl⟩ (fun hHeld => ?_)
                                    clear hK K
                                    refine norm_ (a' := ?_) ?_ ?_
                                    rotate_left
                                    · show Act.put _ (some 13) _ = _
                                      simp only [Act.put, List.setIfInBounds_toArray, List.set_cons_zero, List.set_cons_succ, i64_w, i32_w]
                                      rfl
                                    exact norm_ (by simp only [putAll, Act.put, List.setIfInBounds_toArray, List.set_cons_zero, List.set_cons_succ]) (hCont (.slice Ao140 t306.length co140, .slice Ao141 t311.length co141, v318, gb322) _ ⟨hHeld, (by (with_reducible repeat (first | apply Kd.R_alloc | apply Kd.R_drewN | apply Kd.R_drew)); exact Kd.R_mono HO308.out (fun _ hk => ⟨hk.2, ⟨hk.1.1.1.2, ⟨hk.1.1.2, hk.1.2⟩⟩⟩)), (by (with_reducible repeat (first | apply Kd.R_alloc | apply Kd.R_drewN | apply Kd.R_drew)); exact Kd.R_mono HO313.out (fun _ hk => hk.2)), (by (with_reducible repeat (first | apply Kd.R_alloc | apply Kd.R_drewN | apply Kd.R_drew)); exact Kd.R_mono HO319.out (fun _ hk => ⟨hk.2, ⟨hk.1.1.1.2, ⟨hk.1.1.2, hk.1.2⟩⟩⟩)), (by (with_reducible repeat (first | apply Kd.R_alloc | apply Kd.R_drewN | apply Kd.R_drew)); exact Kd.R_mono HO_265003.out (fun _ hk => ⟨hk.1.2, ⟨hk.2, ⟨hk.1.1.1, hk.1.1.2⟩⟩⟩)), (by (with_reducible repeat (first | apply Kd.R_alloc | apply Kd.R_drewN | apply Kd.R_drew)); exact Kd.R_mono HO_272001.out (fun _ hk => ⟨hk.1.2, ⟨hk.2, ⟨hk.1.1.1, hk.1.1.2⟩⟩⟩)), (by (with_reducible repeat (first | apply Kd.R_alloc | apply Kd.R_drewN | apply Kd.R_drew)); exact Kd.R_mono HO_276000.out (fun _ hk => hk.2)), (by (with_reducible repeat (first | apply Kd.R_alloc | apply Kd.R_drewN | apply Kd.R_drew)); exact Kd.R_mono HO_285003.out (fun _ hk => ⟨hk.1.2, ⟨hk.2, ⟨hk.1.1.1, hk.1.1.2⟩⟩⟩)), (by (with_reducible repeat (first | refine blk_drewN ?_ _ | refine blk_drew ?_ | refine blk_alloc ?_ _)); exact BK243.out), (by (with_reducible repeat (first | refine blk_drewN ?_ _ | refine blk_drew ?_ | refine blk_alloc ?_ _)); exact BK244.out), (by (with_reducible repeat (first | refine blk_drewN ?_ _ | refine blk_drew ?_ | refine blk_alloc ?_ _)); exact BK264.out), (by (with_reducible repeat (first | refine blk_drewN ?_ _ | refine blk_drew ?_ | refine blk_alloc ?_ _)); exact BK271.out), (by (with_reducible repeat (first | refine blk_drewN ?_ _ | refine blk_drew ?_ | refine blk_alloc ?_ _)); exact BK275.out), (by (with_reducible repeat (first | refine blk_drewN ?_ _ | refine blk_drew ?_ | refine blk_alloc ?_ _)); exact BK284.out), (by (with_reducible repeat (first | refine blk_drewN ?_ _ | refine blk_drew ?_ | refine blk_alloc ?_ _)); exact BK322.out), GW322.out, GE322.out, NB243_322.out, NB322_243.out, NB244_322.out, NB322_244.out, NB264_322.out, NB322_264.out, NB271_322.out, NB322_271.out, NB275_322.out, NB322_275.out, NB284_322.out, NB322_284.out, (bz HB)⟩)
                                  · skip
                                    refine box_step ?hg (N := 13) ?hd (cs := #[.int .i64 0, .int .i64 0, .int .i64 0, .slice none 0 0, .int .i64 0, .int .i64 0]) (t := 32) ?hr ?_; (case hd => rfl); (case hg => rfl); (case hr => first | (go_simp; done) | (go_simp; rfl))
                                    intro gb322 hg w140 hbox hb
                                    replace HO_265003 := rb HO_265003 hb
                                    replace HO_272001 := rb HO_272001 hb
                                    replace HO_276000 := rb HO_276000 hb
                                    replace HO_285003 := rb HO_285003 hb
                                    replace HO308 := rb HO308 hb
                                    replace HO313 := rb HO313 hb
                                    have BK322 := Aside0.mk (hbox)
                                    have GW322 := Aside0.mk ((by rw [hg]; exact (below_size (bz HB)) : w.heap.size ≤ gb322))
                                    have GE322 := Aside0.mk ((by rw [hg]; exact (below_size (bz HB)) : w.heap.size ≤ gb322))
                                    replace HB := Aside0.mk (below_step (bz HB) hb)
                                    have NB243_322 := nb BK243 hg
                                    have NB322_243 := nc BK243 hg
                                    replace BK243 := bk BK243 hb
                                    have NB244_322 := nb BK244 hg
                                    have NB322_244 := nc BK244 hg
                                    replace BK244 := bk BK244 hb
                                    have NB264_322 := nb BK264 hg
                                    have NB322_264 := nc BK264 hg
                                    replace BK264 := bk BK264 hb
                                    have NB271_322 := nb BK271 hg
                                    have NB322_271 := nc BK271 hg
                                    replace BK271 := bk BK271 hb
                                    have NB275_322 := nb BK275 hg
                                    have NB322_275 := nc BK275 hg
                                    replace BK275 := bk BK275 hb
                                    have NB284_322 := nb BK284 hg
                                    have NB322_284 := nc BK284 hg
                                    replace BK284 := bk BK284 hb
                                    clear hb hbox hg
                                    obtain ⟨Ao141, co141, eo141⟩ := Kd.R_slice HO308.out
                                    (first | subst eo141 | (injection eo141 with f1_ f2_ f3_; have f4_ := f1_.symm; have f5_ := f3_.symm; clear f1_ f2_ f3_; subst f4_; subst f5_))
                                    obtain ⟨Ao142, co142, eo142⟩ := Kd.R_slice HO313.out
                                    (first | subst eo142 | (injection eo142 with f1_ f2_ f3_; have f4_ := f1_.symm; have f5_ := f3_.symm; clear f1_ f2_ f3_; subst f4_; subst f5_))
                                    refine hK.out _ _ ⟨(blk_cell BK243.out 0).trans rfl, (blk_cell BK243.out 1).trans rfl, (blk_cell BK243.out 2).trans rfl, (blk_cell BK243.out 3).trans rfl, (blk_cell BK244.out 0).trans rfl⟩ (fun hHeld => ?_)
                                    clear hK K
                                    refine norm_ (a' := ?_) ?_ ?_
                                    rotate_left
                                    · show Act.put _ (some 13) _ = _
                                      simp only [Act.put, List.setIfInBounds_toArray, List.set_cons_zero, List.set_cons_succ, i64_w, i32_w]
                                      rfl
                                    refine one_ (i := 4) (N := some 79) #[true, true, true, true, true, true, false] rfl rfl (by kernel_rfl) (by decide) (fun K hK => ?_)
                                    refine goes_ Try.func31 (by kernel_rfl) rfl #[.agg #[.int .i64 t305, .slice Ao141 t306.length co141, .int .i64 t309, .int .i64 t310], .agg #[.slice Ao142 t311.length co142]] (by rfl) rfl rfl (by (try simp only [List.map_toArray, List.map_cons, List.map_nil]); first | done | rfl | (simp only [List.length_drop, List.length_take]; rfl)) ?_
                                    with_reducible refine (impl_ExtendIndex.calls kj34 t305 _ _ t306 t309 t310 _ _ t311 t314 t315 t316 t317 t320 t321 _ ?side1 ?side2 ?side3 ?side4 A122.out).mono ?_
                                    (case side1 => repeat (first | exact (Kd.R_reads' HO308.out).2.2 | (with_reducible refine Kd.C_alloc ?_ _) | (with_reducible refine Kd.C_drewN ?_ _) | (with_reducible refine Kd.C_drew ?_)))
                                    (case side2 => exact (Kd.R_reads' HO308.out).2.1)
                                    (case side3 => repeat (first | exact (Kd.R_reads' HO313.out).2.2 | (with_reducible refine Kd.C_alloc ?_ _) | (with_reducible refine Kd.C_drewN ?_ _) | (with_reducible refine Kd.C_drew ?_)))
                                    (case side4 => exact (Kd.R_reads' HO313.out).2.1)
                                    rintro e w143 ⟨v318, rfl, ho0, hb⟩
                                    refine ⟨_, rfl, ?_⟩
                                    replace HO_276000 := rb HO_276000 hb
                                    replace HO313 := rb HO313 hb
                                    have HO319 := Aside0.mk (Kd.R_lower (Kd.R_new' (Kd.R_new' (Kd.R_new' (Kd.R_new' ho0 (Kd.R_lt (by (with_reducible repeat (first | apply Kd.R_alloc | apply Kd.R_drewN | apply Kd.R_drew)); exact HO_265003.out))) (Kd.R_lt (by (with_reducible repeat (first | apply Kd.R_alloc | apply Kd.R_drewN | apply Kd.R_drew)); exact HO_272001.out))) (Kd.R_lt (by (with_reducible repeat (first | apply Kd.R_alloc | apply Kd.R_drewN | apply Kd.R_drew)); exact HO_285003.out))) (Kd.R_lt (by (with_reducible repeat (first | apply Kd.R_alloc | apply Kd.R_drewN | apply Kd.R_drew)); exact HO308.out))) (below_size (bz HB)))
                                    replace HO_265003 := Aside0.mk (Kd.R_elder' (by (with_reducible repeat (first | apply Kd.R_alloc | apply Kd.R_drewN | apply Kd.R_drew)); exact HO_265003.out) (Kd.R_base ho0) hb)
                                    replace HO_272001 := Aside0.mk (Kd.R_elder' (by (with_reducible repeat (first | apply Kd.R_alloc | apply Kd.R_drewN | apply Kd.R_drew)); exact HO_272001.out) (Kd.R_base ho0) hb)
                                    replace HO_285003 := Aside0.mk (Kd.R_elder' (by (with_reducible repeat (first | apply Kd.R_alloc | apply Kd.R_drewN | apply Kd.R_drew)); exact HO_285003.out) (Kd.R_base ho0) hb)
                                    replace HO308 := Aside0.mk (Kd.R_elder' (by (with_reducible repeat (first | apply Kd.R_alloc | apply Kd.R_drewN | apply Kd.R_drew)); exact HO308.out) (Kd.R_base ho0) hb)
                                    replace BK243 := bk BK243 hb
                                    replace BK244 := bk BK244 hb
                                    replace BK264 := bk BK264 hb
                                    replace BK271 := bk BK271 hb
                                    replace BK275 := bk BK275 hb
                                    replace BK284 := bk BK284 hb
                                    replace BK322 := bk BK322 hb
                                    replace HB := Aside0.mk (below_step (bz HB) hb)
                                    (try clear hb)
                                    (try clear hb2)
                                    (try clear hk)
                                    (try clear hi)
                                    (try clear ho0)
                                    refine hK.out _ _ ⟨(blk_cell BK243.out 0).trans rfl, (blk_cell BK243.out 1).trans rfl, (blk_cell BK243.out 2).trans rfl, (blk_cell BK243.out 3).trans rfl, (blk_cell BK244.out 0).trans rfl⟩ (fun hHeld => ?_)
                                    clear hK K
                                    refine norm_ (a' := ?_) ?_ ?_
                                    rotate_left
                                    · show Act.put _ (some 79) _ = _
                                      simp only [Act.put, List.setIfInBounds_toArray, List.set_cons_zero, List.set_cons_succ, i64_w, i32_w]
                                      rfl
                                    exact norm_ (by simp only [putAll, Act.put, List.setIfInBounds_toArray, List.set_cons_zero, List.set_cons_succ]) (hCont (.slice Ao141 t306.length co141, .slice Ao142 t311.length co142, v318, gb322) _ ⟨hHeld, (by (with_reducible repeat (first | apply Kd.R_alloc | apply Kd.R_drewN | apply Kd.R_drew)); exact Kd.R_mono HO308.out (fun _ hk => ⟨hk.2, ⟨hk.1.1.1.2, ⟨hk.1.1.2, hk.1.2⟩⟩⟩)), (by (with_reducible repeat (first | apply Kd.R_alloc | apply Kd.R_drewN | apply Kd.R_drew)); exact Kd.R_mono HO313.out (fun _ hk => hk.2)), (by (with_reducible repeat (first | apply Kd.R_alloc | apply Kd.R_drewN | apply Kd.R_drew)); exact Kd.R_mono HO319.out (fun _ hk => ⟨hk.2, ⟨hk.1.1.1.2, ⟨hk.1.1.2, hk.1.2⟩⟩⟩)), (by (with_reducible repeat (first | apply Kd.R_alloc | apply Kd.R_drewN | apply Kd.R_drew)); exact Kd.R_mono HO_265003.out (fun _ hk => ⟨hk.1.2, ⟨hk.2, ⟨hk.1.1.1, hk.1.1.2⟩⟩⟩)), (by (with_reducible repeat (first | apply Kd.R_alloc | apply Kd.R_drewN | apply Kd.R_drew)); exact Kd.R_mono HO_272001.out (fun _ hk => ⟨hk.1.2, ⟨hk.2, ⟨hk.1.1.1, hk.1.1.2⟩⟩⟩)), (by (with_reducible repeat (first | apply Kd.R_alloc | apply Kd.R_drewN | apply Kd.R_drew)); exact Kd.R_mono HO_276000.out (fun _ hk => hk.2)), (by (with_reducible repeat (first | apply Kd.R_alloc | apply Kd.R_drewN | apply Kd.R_drew)); exact Kd.R_mono HO_285003.out (fun _ hk => ⟨hk.1.2, ⟨hk.2, ⟨hk.1.1.1, hk.1.1.2⟩⟩⟩)), (by (with_reducible repeat (first | refine blk_drewN ?_ _ | refine blk_drew ?_ | refine blk_alloc ?_ _)); exact BK243.out), (by (with_reducible repeat (first | refine blk_drewN ?_ _ | refine blk_drew ?_ | refine blk_alloc ?_ _)); exact BK244.out), (by (with_reducible repeat (first | refine blk_drewN ?_ _ | refine blk_drew ?_ | refine blk_alloc ?_ _)); exact BK264.out), (by (with_reducible repeat (first | refine blk_drewN ?_ _ | refine blk_drew ?_ | refine blk_alloc ?_ _)); exact BK271.out), (by (with_reducible repeat (first | refine blk_drewN ?_ _ | refine blk_drew ?_ | refine blk_alloc ?_ _)); exact BK275.out), (by (with_reducible repeat (first | refine blk_drewN ?_ _ | refine blk_drew ?_ | refine blk_alloc ?_ _)); exact BK284.out), (by (with_reducible repeat (first | refine blk_drewN ?_ _ | refine blk_drew ?_ | refine blk_alloc ?_ _)); exact BK322.out), GW322.out, GE322.out, NB243_322.out, NB322_243.out, NB244_322.out, NB322_244.out, NB264_322.out, NB322_264.out, NB271_322.out, NB322_271.out, NB275_322.out, NB322_275.out, NB284_322.out, NB322_284.out, (bz HB)⟩)
                                · skip
                                  refine box_step ?hg (N := 13) ?hd (cs := #[.int .i64 0, .int .i64 0, .int .i64 0, .slice none 0 0, .int .i64 0, .int .i64 0]) (t := 32) ?hr ?_; (case hd => rfl); (case hg => rfl); (case hr => first | (go_simp; done) | (go_simp; rfl))
                                  intro gb322 hg w139 hbox hb
                                  replace HO_265003 := rb HO_265003 hb
                                  replace HO_272001 := rb HO_272001 hb
                                  replace HO_276000 := rb HO_276000 hb
                                  replace HO_285003 := rb HO_285003 hb
                                  replace HO308 := rb HO308 hb
                                  have BK322 := Aside0.mk (hbox)
                                  have GW322 := Aside0.mk ((by rw [hg]; exact (below_size (bz HB)) : w.heap.size ≤ gb322))
                                  have GE322 := Aside0.mk ((by rw [hg]; exact (below_size (bz HB)) : w.heap.size ≤ gb322))
                                  replace HB := Aside0.mk (below_step (bz HB) hb)
                                  have NB243_322 := nb BK243 hg
                                  have NB322_243 := nc BK243 hg
                                  replace BK243 := bk BK243 hb
                                  have NB244_322 := nb BK244 hg
                                  have NB322_244 := nc BK244 hg
                                  replace BK244 := bk BK244 hb
                                  have NB264_322 := nb BK264 hg
                                  have NB322_264 := nc BK264 hg
                                  replace BK264 := bk BK264 hb
                                  have NB271_322 := nb BK271 hg
                                  have NB322_271 := nc BK271 hg
                                  replace BK271 := bk BK271 hb
                                  have NB275_322 := nb BK275 hg
                                  have NB322_275 := nc BK275 hg
                                  replace BK275 := bk BK275 hb
                                  have NB284_322 := nb BK284 hg
                                  have NB322_284 := nc BK284 hg
                                  replace BK284 := bk BK284 hb
                                  clear hb hbox hg
                                  refine hK.out _ _ ⟨(blk_cell BK243.out 0).trans rfl, (blk_cell BK243.out 1).trans rfl, (blk_cell BK243.out 2).trans rfl, (blk_cell BK243.out 3).trans rfl, (blk_cell BK244.out 0).trans rfl⟩ (fun hHeld => ?_)
                                  clear hK K
                                  refine norm_ (a' := ?_) ?_ ?_
                                  rotate_left
                                  · show Act.put _ (some 13) _ = _
                                    simp only [Act.put, List.setIfInBounds_toArray, List.set_cons_zero, List.set_cons_succ, i64_w, i32_w]
                                    rfl
                                  refine one_ (i := 3) (N := some 78) #[true, true, true, true, false, true, false] rfl rfl (by kernel_rfl) (by decide) (fun K hK => ?_)
                                  refine goes_ Try.func27 (by kernel_rfl) rfl #[.agg #[.slice A1_0 l1_0.length c1_0]] (by rfl) rfl rfl (by (try simp only [List.map_toArray, List.map_cons, List.map_nil]); first | done | rfl | (simp only [List.length_drop, List.length_take]; rfl)) ?_
                                  with_reducible refine (laws_toFile.calls kj34 _ _ l1_0 t311 _ ?side1 ?side2 A121.out).mono ?_
                                  (case side1 => repeat (first | exact (Kd.C_below HR1_0.out HB.out) | (with_reducible refine Kd.C_alloc ?_ _) | (with_reducible refine Kd.C_drewN ?_ _) | (with_reducible refine Kd.C_drew ?_)))
                                  (case side2 => exact HC1_0.out)
                                  rintro e w140 ⟨v312, rfl, ho0, hb⟩
                                  refine ⟨_, rfl, ?_⟩
                                  replace HO_265003 := rb HO_265003 hb
                                  replace HO_272001 := rb HO_272001 hb
                                  replace HO_285003 := rb HO_285003 hb
                                  replace HO308 := rb HO308 hb
                                  have HO313 := Aside0.mk (Kd.R_lower (Kd.R_new' ho0 (Kd.R_lt (by (with_reducible repeat (first | apply Kd.R_alloc | apply Kd.R_drewN | apply Kd.R_drew)); exact HO_276000.out))) (below_size (bz HB)))
                                  replace HO_276000 := Aside0.mk (Kd.R_elder' (by (with_reducible repeat (first | apply Kd.R_alloc | apply Kd.R_drewN | apply Kd.R_drew)); exact HO_276000.out) (Kd.R_base ho0) hb)
                                  replace BK243 := bk BK243 hb
                                  replace BK244 := bk BK244 hb
                                  replace BK264 := bk BK264 hb
                                  replace BK271 := bk BK271 hb
                                  replace BK275 := bk BK275 hb
                                  replace BK284 := bk BK284 hb
                                  replace BK322 := bk BK322 hb
                                  replace HB := Aside0.mk (below_step (bz HB) hb)
                                  (try clear hb)
                                  (try clear hb2)
                                  (try clear hk)
                                  (try clear hi)
                                  (try clear ho0)
                                  obtain ⟨Ao141, co141, eo141⟩ := Kd.R_slice HO308.out
                                  (first | subst eo141 | (injection eo141 with f1_ f2_ f3_; have f4_ := f1_.symm; have f5_ := f3_.symm; clear f1_ f2_ f3_; subst f4_; subst f5_))
                                  obtain ⟨Ao142, co142, eo142⟩ := Kd.R_slice HO313.out
                                  (first | subst eo142 | (injection eo142 with f1_ f2_ f3_; have f4_ := f1_.symm; have f5_ := f3_.symm; clear f1_ f2_ f3_; subst f4_; subst f5_))
                                  refine hK.out _ _ ⟨(blk_cell BK243.out 0).trans rfl, (blk_cell BK243.out 1).trans rfl, (blk_cell BK243.out 2).trans rfl, (blk_cell BK243.out 3).trans rfl, (blk_cell BK244.out 0).trans rfl⟩ (fun hHeld => ?_)
                                  clear hK K
                                  refine norm_ (a' := ?_) ?_ ?_
                                  rotate_left
                                  · show Act.put _ (some 78) _ = _
                                    simp only [Act.put, List.setIfInBounds_toArray, List.set_cons_zero, List.set_cons_succ, i64_w, i32_w]
                                    rfl
                                  refine one_ (i := 4) (N := some 79) #[true, true, true, true, true, true, false] rfl rfl (by kernel_rfl) (by decide) (fun K hK => ?_)
                                  refine goes_ Try.func31 (by kernel_rfl) rfl #[.agg #[.int .i64 t305, .slice Ao141 t306.length co141, .int .i64 t309, .int .i64 t310], .agg #[.slice Ao142 t311.length co142]] (by rfl) rfl rfl (by (try simp only [List.map_toArray, List.map_cons, List.map_nil]); first | done | rfl | (simp only [List.length_drop, List.length_take]; rfl)) ?_
                                  with_reducible refine (impl_ExtendIndex.calls kj34 t305 _ _ t306 t309 t310 _ _ t311 t314 t315 t316 t317 t320 t321 _ ?side1 ?side2 ?side3 ?side4 A122.out).mono ?_
                                  (case side1 => repeat (first | exact (Kd.R_reads' HO308.out).2.2 | (with_reducible refine Kd.C_alloc ?_ _) | (with_reducible refine Kd.C_drewN ?_ _) | (with_reducible refine Kd.C_drew ?_)))
                                  (case side2 => exact (Kd.R_reads' HO308.out).2.1)
                                  (case side3 => repeat (first | exact (Kd.R_reads' HO313.out).2.2 | (with_reducible refine Kd.C_alloc ?_ _) | (with_reducible refine Kd.C_drewN ?_ _) | (with_reducible refine Kd.C_drew ?_)))
                                  (case side4 => exact (Kd.R_reads' HO313.out).2.1)
                                  rintro e w143 ⟨v318, rfl, ho0, hb⟩
                                  refine ⟨_, rfl, ?_⟩
                                  replace HO_276000 := rb HO_276000 hb
                                  replace HO313 := rb HO313 hb
                                  have HO319 := Aside0.mk (Kd.R_lower (Kd.R_new' (Kd.R_new' (Kd.R_new' (Kd.R_new' ho0 (Kd.R_lt (by (with_reducible repeat (first | apply Kd.R_alloc | apply Kd.R_drewN | apply Kd.R_drew)); exact HO_265003.out))) (Kd.R_lt (by (with_reducible repeat (first | apply Kd.R_alloc | apply Kd.R_drewN | apply Kd.R_drew)); exact HO_272001.out))) (Kd.R_lt (by (with_reducible repeat (first | apply Kd.R_alloc | apply Kd.R_drewN | apply Kd.R_drew)); exact HO_285003.out))) (Kd.R_lt (by (with_reducible repeat (first | apply Kd.R_alloc | apply Kd.R_drewN | apply Kd.R_drew)); exact HO308.out))) (below_size (bz HB)))
                                  replace HO_265003 := Aside0.mk (Kd.R_elder' (by (with_reducible repeat (first | apply Kd.R_alloc | apply Kd.R_drewN | apply Kd.R_drew)); exact HO_265003.out) (Kd.R_base ho0) hb)
                                  replace HO_272001 := Aside0.mk (Kd.R_elder' (by (with_reducible repeat (first | apply Kd.R_alloc | apply Kd.R_drewN | apply Kd.R_drew)); exact HO_272001.out) (Kd.R_base ho0) hb)
                                  replace HO_285003 := Aside0.mk (Kd.R_elder' (by (with_reducible repeat (first | apply Kd.R_alloc | apply Kd.R_drewN | apply Kd.R_drew)); exact HO_285003.out) (Kd.R_base ho0) hb)
                                  replace HO308 := Aside0.mk (Kd.R_elder' (by (with_reducible repeat (first | apply Kd.R_alloc | apply Kd.R_drewN | apply Kd.R_drew)); exact HO308.out) (Kd.R_base ho0) hb)
                                  replace BK243 := bk BK243 hb
                                  replace BK244 := bk BK244 hb
                                  replace BK264 := bk BK264 hb
                                  replace BK271 := bk BK271 hb
                                  replace BK275 := bk BK275 hb
                                  replace BK284 := bk BK284 hb
                                  replace BK322 := bk BK322 hb
                                  replace HB := Aside0.mk (below_step (bz HB) hb)
                                  (try clear hb)
                                  (try clear hb2)
                                  (try clear hk)
                                  (try clear hi)
                                  (try clear ho0)
                                  refine hK.out _ _ ⟨(blk_cell BK243.out 0).trans rfl, (blk_cell BK243.out 1).trans rfl, (blk_cell BK243.out 2).trans rfl, (blk_cell BK243.out 3).trans rfl, (blk_cell BK244.out 0).trans rfl⟩ (fun hHeld => ?_)
                                  clear hK K
                                  refine norm_ (a' := ?_) ?_ ?_
                                  rotate_left
                                  · show Act.put _ (some 79) _ = _
                                    simp only [Act.put, List.setIfInBounds_toArray, List.set_cons_zero, List.set_cons_succ, i64_w, i32_w]
                                    rfl
                                  exact norm_ (by simp only [putAll, Act.put, List.setIfInBounds_toArray, List.set_cons_zero, List.set_cons_succ]) (hCont (.slice Ao141 t306.length co141, .slice Ao142 t311.length co142, v318, gb322) _ ⟨hHeld, (by (with_reducible repeat (first | apply Kd.R_alloc | apply Kd.R_drewN | apply Kd.R_drew)); exact Kd.R_mono HO308.out (fun _ hk => ⟨hk.2, ⟨hk.1.1.1.2, ⟨hk.1.1.2, hk.1.2⟩⟩⟩)), (by (with_reducible repeat (first | apply Kd.R_alloc | apply Kd.R_drewN | apply Kd.R_drew)); exact Kd.R_mono HO313.out (fun _ hk => hk.2)), (by (with_reducible repeat (first | apply Kd.R_alloc | apply Kd.R_drewN | apply Kd.R_drew)); exact Kd.R_mono HO319.out (fun _ hk => ⟨hk.2, ⟨hk.1.1.1.2, ⟨hk.1.1.2, hk.1.2⟩⟩⟩)), (by (with_reducible repeat (first | apply Kd.R_alloc | apply Kd.R_drewN | apply Kd.R_drew)); exact Kd.R_mono HO_265003.out (fun _ hk => ⟨hk.1.2, ⟨hk.2, ⟨hk.1.1.1, hk.1.1.2⟩⟩⟩)), (by (with_reducible repeat (first | apply Kd.R_alloc | apply Kd.R_drewN | apply Kd.R_drew)); exact Kd.R_mono HO_272001.out (fun _ hk => ⟨hk.1.2, ⟨hk.2, ⟨hk.1.1.1, hk.1.1.2⟩⟩⟩)), (by (with_reducible repeat (first | apply Kd.R_alloc | apply Kd.R_drewN | apply Kd.R_drew)); exact Kd.R_mono HO_276000.out (fun _ hk => hk.2)), (by (with_reducible repeat (first | apply Kd.R_alloc | apply Kd.R_drewN | apply Kd.R_drew)); exact Kd.R_mono HO_285003.out (fun _ hk => ⟨hk.1.2, ⟨hk.2, ⟨hk.1.1.1, hk.1.1.2⟩⟩⟩)), (by (with_reducible repeat (first | refine blk_drewN ?_ _ | refine blk_drew ?_ | refine blk_alloc ?_ _)); exact BK243.out), (by (with_reducible repeat (first | refine blk_drewN ?_ _ | refine blk_drew ?_ | refine blk_alloc ?_ _)); exact BK244.out), (by (with_reducible repeat (first | refine blk_drewN ?_ _ | refine blk_drew ?_ | refine blk_alloc ?_ _)); exact BK264.out), (by (with_reducible repeat (first | refine blk_drewN ?_ _ | refine blk_drew ?_ | refine blk_alloc ?_ _)); exact BK271.out), (by (with_reducible repeat (first | refine blk_drewN ?_ _ | refine blk_drew ?_ | refine blk_alloc ?_ _)); exact BK275.out), (by (with_reducible repeat (first | refine blk_drewN ?_ _ | refine blk_drew ?_ | refine blk_alloc ?_ _)); exact BK284.out), (by (with_reducible repeat (first | refine blk_drewN ?_ _ | refine blk_drew ?_ | refine blk_alloc ?_ _)); exact BK322.out), GW322.out, GE322.out, NB243_322.out, NB322_243.out, NB244_322.out, NB322_244.out, NB264_322.out, NB322_264.out, NB271_322.out, NB322_271.out, NB275_322.out, NB322_275.out, NB284_322.out, NB322_284.out, (bz HB)⟩)
                              · skip
                                refine box_step ?hg (N := 13) ?hd (cs := #[.int .i64 0, .int .i64 0, .int .i64 0, .slice none 0 0, .int .i64 0, .int .i64 0]) (t := 32) ?hr ?_; (case hd => rfl); (case hg => rfl); (case hr => first | (go_simp; done) | (go_simp; rfl))
                                intro gb322 hg w138 hbox hb
                                replace HO_265003 := rb HO_265003 hb
                                replace HO_272001 := rb HO_272001 hb
                                replace HO_276000 := rb HO_276000 hb
                                replace HO_285003 := rb HO_285003 hb
                                have BK322 := Aside0.mk (hbox)
                                have GW322 := Aside0.mk ((by rw [hg]; exact (below_size (bz HB)) : w.heap.size ≤ gb322))
                                have GE322 := Aside0.mk ((by rw [hg]; exact (below_size (bz HB)) : w.heap.size ≤ gb322))
                                replace HB := Aside0.mk (below_step (bz HB) hb)
                                have NB243_322 := nb BK243 hg
                                have NB322_243 := nc BK243 hg
                                replace BK243 := bk BK243 hb
                                have NB244_322 := nb BK244 hg
                                have NB322_244 := nc BK244 hg
                                replace BK244 := bk BK244 hb
                                have NB264_322 := nb BK264 hg
                                have NB322_264 := nc BK264 hg
                                replace BK264 := bk BK264 hb
                                have NB271_322 := nb BK271 hg
                                have NB322_271 := nc BK271 hg
                                replace BK271 := bk BK271 hb
                                have NB275_322 := nb BK275 hg
                                have NB322_275 := nc BK275 hg
                                replace BK275 := bk BK275 hb
                                have NB284_322 := nb BK284 hg
                                have NB322_284 := nc BK284 hg
                                replace BK284 := bk BK284 hb
                                clear hb hbox hg
                                refine hK.out _ _ ⟨(blk_cell BK243.out 0).trans rfl, (blk_cell BK243.out 1).trans rfl, (blk_cell BK243.out 2).trans rfl, (blk_cell BK243.out 3).trans rfl, (blk_cell BK244.out 0).trans rfl⟩ (fun hHeld => ?_)
                                clear hK K
                                refine norm_ (a' := ?_) ?_ ?_
                                rotate_left
                                · show Act.put _ (some 13) _ = _
                                  simp only [Act.put, List.setIfInBounds_toArray, List.set_cons_zero, List.set_cons_succ, i64_w, i32_w]
                                  rfl
                                refine one_ (i := 1) (N := some 76) #[true, true, true, false, false, true, false] rfl rfl (by kernel_rfl) (by decide) (fun K hK => ?_)
                                refine goes_ Try.func14 (by kernel_rfl) rfl #[.agg #[.int .i64 a0_0, .slice A0_1 l0_1.length c0_1, .int .i64 a0_2, .int .i64 a0_3]] (by rfl) rfl rfl (by (try simp only [List.map_toArray, List.map_cons, List.map_nil]); first | done | rfl | (simp only [List.length_drop, List.length_take]; rfl)) ?_
                                with_reducible refine (laws_toIndex.calls kj34 a0_0 _ _ l0_1 a0_2 a0_3 t305 t306 t309 t310 _ ?side1 ?side2 A120.out).mono ?_
                                (case side1 => repeat (first | exact (Kd.C_below HR0_1.out HB.out) | (with_reducible refine Kd.C_alloc ?_ _) | (with_reducible refine Kd.C_drewN ?_ _) | (with_reducible refine Kd.C_drew ?_)))
                                (case side2 => exact HC0_1.out)
                                rintro e w139 ⟨v307, rfl, ho0, hb⟩
                                refine ⟨_, rfl, ?_⟩
                                replace HO_276000 := rb HO_276000 hb
                                have HO308 := Aside0.mk (Kd.R_lower (Kd.R_new' (Kd.R_new' (Kd.R_new' ho0 (Kd.R_lt (by (with_reducible repeat (first | apply Kd.R_alloc | apply Kd.R_drewN | apply Kd.R_drew)); exact HO_265003.out))) (Kd.R_lt (by (with_reducible repeat (first | apply Kd.R_alloc | apply Kd.R_drewN | apply Kd.R_drew)); exact HO_272001.out))) (Kd.R_lt (by (with_reducible repeat (first | apply Kd.R_alloc | apply Kd.R_drewN | apply Kd.R_drew)); exact HO_285003.out))) (below_size (bz HB)))
                                replace HO_265003 := Aside0.mk (Kd.R_elder' (by (with_reducible repeat (first | apply Kd.R_alloc | apply Kd.R_drewN | apply Kd.R_drew)); exact HO_265003.out) (Kd.R_base ho0) hb)
                                replace HO_272001 := Aside0.mk (Kd.R_elder' (by (with_reducible repeat (first | apply Kd.R_alloc | apply Kd.R_drewN | apply Kd.R_drew)); exact HO_272001.out) (Kd.R_base ho0) hb)
                                replace HO_285003 := Aside0.mk (Kd.R_elder' (by (with_reducible repeat (first | apply Kd.R_alloc | apply Kd.R_drewN | apply Kd.R_drew)); exact HO_285003.out) (Kd.R_base ho0) hb)
                                replace BK243 := bk BK243 hb
                                replace BK244 := bk BK244 hb
                                replace BK264 := bk BK264 hb
                                replace BK271 := bk BK271 hb
                                replace BK275 := bk BK275 hb
                                replace BK284 := bk BK284 hb
                                replace BK322 := bk BK322 hb
                                replace HB := Aside0.mk (below_step (bz HB) hb)
                                (try clear hb)
                                (try clear hb2)
                                (try clear hk)
                                (try clear hi)
                                (try clear ho0)
                                refine hK.out _ _ ⟨(blk_cell BK243.out 0).trans rfl, (blk_cell BK243.out 1).trans rfl, (blk_cell BK243.out 2).trans rfl, (blk_cell BK243.out 3).trans rfl, (blk_cell BK244.out 0).trans rfl⟩ (fun hHeld => ?_)
                                clear hK K
                                refine norm_ (a' := ?_) ?_ ?_
                                rotate_left
                                · show Act.put _ (some 76) _ = _
                                  simp only [Act.put, List.setIfInBounds_toArray, List.set_cons_zero, List.set_cons_succ, i64_w, i32_w]
                                  rfl
                                refine one_ (i := 3) (N := some 78) #[true, true, true, true, false, true, false] rfl rfl (by kernel_rfl) (by decide) (fun K hK => ?_)
                                refine goes_ Try.func27 (by kernel_rfl) rfl #[.agg #[.slice A1_0 l1_0.length c1_0]] (by rfl) rfl rfl (by (try simp only [List.map_toArray, List.map_cons, List.map_nil]); first | done | rfl | (simp only [List.length_drop, List.length_take]; rfl)) ?_
                                with_reducible refine (laws_toFile.calls kj34 _ _ l1_0 t311 _ ?side1 ?side2 A121.out).mono ?_
                                (case side1 => repeat (first | exact (Kd.C_below HR1_0.out HB.out) | (with_reducible refine Kd.C_alloc ?_ _) | (with_reducible refine Kd.C_drewN ?_ _) | (with_reducible refine Kd.C_drew ?_)))
                                (case side2 => exact HC1_0.out)
                                rintro e w140 ⟨v312, rfl, ho0, hb⟩
                                refine ⟨_, rfl, ?_⟩
                                replace HO_265003 := rb HO_265003 hb
                                replace HO_272001 := rb HO_272001 hb
                                replace HO_285003 := rb HO_285003 hb
                                replace HO308 := rb HO308 hb
                                have HO313 := Aside0.mk (Kd.R_lower (Kd.R_new' ho0 (Kd.R_lt (by (with_reducible repeat (first | apply Kd.R_alloc | apply Kd.R_drewN | apply Kd.R_drew)); exact HO_276000.out))) (below_size (bz HB)))
                                replace HO_276000 := Aside0.mk (Kd.R_elder' (by (with_reducible repeat (first | apply Kd.R_alloc | apply Kd.R_drewN | apply Kd.R_drew)); exact HO_276000.out) (Kd.R_base ho0) hb)
                                replace BK243 := bk BK243 hb
                                replace BK244 := bk BK244 hb
                                replace BK264 := bk BK264 hb
                                replace BK271 := bk BK271 hb
                                replace BK275 := bk BK275 hb
                                replace BK284 := bk BK284 hb
                                replace BK322 := bk BK322 hb
                                replace HB := Aside0.mk (below_step (bz HB) hb)
                                (try clear hb)
                                (try clear hb2)
                                (try clear hk)
                                (try clear hi)
                                (try clear ho0)
                                obtain ⟨Ao141, co141, eo141⟩ := Kd.R_slice HO308.out
                                (first | subst eo141 | (injection eo141 with f1_ f2_ f3_; have f4_ := f1_.symm; have f5_ := f3_.symm; clear f1_ f2_ f3_; subst f4_; subst f5_))
                                obtain ⟨Ao142, co142, eo142⟩ := Kd.R_slice HO313.out
                                (first | subst eo142 | (injection eo142 with f1_ f2_ f3_; have f4_ := f1_.symm; have f5_ := f3_.symm; clear f1_ f2_ f3_; subst f4_; subst f5_))
                                refine hK.out _ _ ⟨(blk_cell BK243.out 0).trans rfl, (blk_cell BK243.out 1).trans rfl, (blk_cell BK243.out 2).trans rfl, (blk_cell BK243.out 3).trans rfl, (blk_cell BK244.out 0).trans rfl⟩ (fun hHeld => ?_)
                                clear hK K
                                refine norm_ (a' := ?_) ?_ ?_
                                rotate_left
                                · show Act.put _ (some 78) _ = _
                                  simp only [Act.put, List.setIfInBounds_toArray, List.set_cons_zero, List.set_cons_succ, i64_w, i32_w]
                                  rfl
                                refine one_ (i := 4) (N := some 79) #[true, true, true, true, true, true, false] rfl rfl (by kernel_rfl) (by decide) (fun K hK => ?_)
                                refine goes_ Try.func31 (by kernel_rfl) rfl #[.agg #[.int .i64 t305, .slice Ao141 t306.length co141, .int .i64 t309, .int .i64 t310], .agg #[.slice Ao142 t311.length co142]] (by rfl) rfl rfl (by (try simp only [List.map_toArray, List.map_cons, List.map_nil]); first | done | rfl | (simp only [List.length_drop, List.length_take]; rfl)) ?_
                                with_reducible refine (impl_ExtendIndex.calls kj34 t305 _ _ t306 t309 t310 _ _ t311 t314 t315 t316 t317 t320 t321 _ ?side1 ?side2 ?side3 ?side4 A122.out).mono ?_
                                (case side1 => repeat (first | exact (Kd.R_reads' HO308.out).2.2 | (with_reducible refine Kd.C_alloc ?_ _) | (with_reducible refine Kd.C_drewN ?_ _) | (with_reducible refine Kd.C_drew ?_)))
                                (case side2 => exact (Kd.R_reads' HO308.out).2.1)
                                (case side3 => repeat (first | exact (Kd.R_reads' HO313.out).2.2 | (with_reducible refine Kd.C_alloc ?_ _) | (with_reducible refine Kd.C_drewN ?_ _) | (with_reducible refine Kd.C_drew ?_)))
                                (case side4 => exact (Kd.R_reads' HO313.out).2.1)
                                rintro e w143 ⟨v318, rfl, ho0, hb⟩
                                refine ⟨_, rfl, ?_⟩
                                replace HO_276000 := rb HO_276000 hb
                                replace HO313 := rb HO313 hb
                                have HO319 := Aside0.mk (Kd.R_lower (Kd.R_new' (Kd.R_new' (Kd.R_new' (Kd.R_new' ho0 (Kd.R_lt (by (with_reducible repeat (first | apply Kd.R_alloc | apply Kd.R_drewN | apply Kd.R_drew)); exact HO_265003.out))) (Kd.R_lt (by (with_reducible repeat (first | apply Kd.R_alloc | apply Kd.R_drewN | apply Kd.R_drew)); exact HO_272001.out))) (Kd.R_lt (by (with_reducible repeat (first | apply Kd.R_alloc | apply Kd.R_drewN | apply Kd.R_drew)); exact HO_285003.out))) (Kd.R_lt (by (with_reducible repeat (first | apply Kd.R_alloc | apply Kd.R_drewN | apply Kd.R_drew)); exact HO308.out))) (below_size (bz HB)))
                                replace HO_265003 := Aside0.mk (Kd.R_elder' (by (with_reducible repeat (first | apply Kd.R_alloc | apply Kd.R_drewN | apply Kd.R_drew)); exact HO_265003.out) (Kd.R_base ho0) hb)
                                replace HO_272001 := Aside0.mk (Kd.R_elder' (by (with_reducible repeat (first | apply Kd.R_alloc | apply Kd.R_drewN | apply Kd.R_drew)); exact HO_272001.out) (Kd.R_base ho0) hb)
                                replace HO_285003 := Aside0.mk (Kd.R_elder' (by (with_reducible repeat (first | apply Kd.R_alloc | apply Kd.R_drewN | apply Kd.R_drew)); exact HO_285003.out) (Kd.R_base ho0) hb)
                                replace HO308 := Aside0.mk (Kd.R_elder' (by (with_reducible repeat (first | apply Kd.R_alloc | apply Kd.R_drewN | apply Kd.R_drew)); exact HO308.out) (Kd.R_base ho0) hb)
                                replace BK243 := bk BK243 hb
                                replace BK244 := bk BK244 hb
                                replace BK264 := bk BK264 hb
                                replace BK271 := bk BK271 hb
                                replace BK275 := bk BK275 hb
                                replace BK284 := bk BK284 hb
                                replace BK322 := bk BK322 hb
                                replace HB := Aside0.mk (below_step (bz HB) hb)
                                (try clear hb)
                                (try clear hb2)
                                (try clear hk)
                                (try clear hi)
                                (try clear ho0)
                                refine hK.out _ _ ⟨(blk_cell BK243.out 0).trans rfl, (blk_cell BK243.out 1).trans rfl, (blk_cell BK243.out 2).trans rfl, (blk_cell BK243.out 3).trans rfl, (blk_cell BK244.out 0).trans rfl⟩ (fun hHeld => ?_)
                                clear hK K
                                refine norm_ (a' := ?_) ?_ ?_
                                rotate_left
                                · show Act.put _ (some 79) _ = _
                                  simp only [Act.put, List.setIfInBounds_toArray, List.set_cons_zero, List.set_cons_succ, i64_w, i32_w]
                                  rfl
                                exact norm_ (by simp only [putAll, Act.put, List.setIfInBounds_toArray, List.set_cons_zero, List.set_cons_succ]) (hCont (.slice Ao141 t306.length co141, .slice Ao142 t311.length co142, v318, gb322) _ ⟨hHeld, (by (with_reducible repeat (first | apply Kd.R_alloc | apply Kd.R_drewN | apply Kd.R_drew)); exact Kd.R_mono HO308.out (fun _ hk => ⟨hk.2, ⟨hk.1.1.1.2, ⟨hk.1.1.2, hk.1.2⟩⟩⟩)), (by (with_reducible repeat (first | apply Kd.R_alloc | apply Kd.R_drewN | apply Kd.R_drew)); exact Kd.R_mono HO313.out (fun _ hk => hk.2)), (by (with_reducible repeat (first | apply Kd.R_alloc | apply Kd.R_drewN | apply Kd.R_drew)); exact Kd.R_mono HO319.out (fun _ hk => ⟨hk.2, ⟨hk.1.1.1.2, ⟨hk.1.1.2, hk.1.2⟩⟩⟩)), (by (with_reducible repeat (first | apply Kd.R_alloc | apply Kd.R_drewN | apply Kd.R_drew)); exact Kd.R_mono HO_265003.out (fun _ hk => ⟨hk.1.2, ⟨hk.2, ⟨hk.1.1.1, hk.1.1.2⟩⟩⟩)), (by (with_reducible repeat (first | apply Kd.R_alloc | apply Kd.R_drewN | apply Kd.R_drew)); exact Kd.R_mono HO_272001.out (fun _ hk => ⟨hk.1.2, ⟨hk.2, ⟨hk.1.1.1, hk.1.1.2⟩⟩⟩)), (by (with_reducible repeat (first | apply Kd.R_alloc | apply Kd.R_drewN | apply Kd.R_drew)); exact Kd.R_mono HO_276000.out (fun _ hk => hk.2)), (by (with_reducible repeat (first | apply Kd.R_alloc | apply Kd.R_drewN | apply Kd.R_drew)); exact Kd.R_mono HO_285003.out (fun _ hk => ⟨hk.1.2, ⟨hk.2, ⟨hk.1.1.1, hk.1.1.2⟩⟩⟩)), (by (with_reducible repeat (first | refine blk_drewN ?_ _ | refine blk_drew ?_ | refine blk_alloc ?_ _)); exact BK243.out), (by (with_reducible repeat (first | refine blk_drewN ?_ _ | refine blk_drew ?_ | refine blk_alloc ?_ _)); exact BK244.out), (by (with_reducible repeat (first | refine blk_drewN ?_ _ | refine blk_drew ?_ | refine blk_alloc ?_ _)); exact BK264.out), (by (with_reducible repeat (first | refine blk_drewN ?_ _ | refine blk_drew ?_ | refine blk_alloc ?_ _)); exact BK271.out), (by (with_reducible repeat (first | refine blk_drewN ?_ _ | refine blk_drew ?_ | refine blk_alloc ?_ _)); exact BK275.out), (by (with_reducible repeat (first | refine blk_drewN ?_ _ | refine blk_drew ?_ | refine blk_alloc ?_ _)); exact BK284.out), (by (with_reducible repeat (first | refine blk_drewN ?_ _ | refine blk_drew ?_ | refine blk_alloc ?_ _)); exact BK322.out), GW322.out, GE322.out, NB243_322.out, NB322_243.out, NB244_322.out, NB322_244.out, NB264_322.out, NB322_264.out, NB271_322.out, NB322_271.out, NB275_322.out, NB322_275.out, NB284_322.out, NB322_284.out, (bz HB)⟩)
                            rintro ⟨v307, v312, v318, gb322⟩ w144 ⟨hS_, h0_, h1_, h2_, h3_, h4_, h5_, h6_, h7_, h8_, h9_, h10_, h11_, h12_, h13_, h14_, h15_, h16_, h17_, h18_, h19_, h20_, h21_, h22_, h23_, h24_, h25_, h26_, h27_, h28_⟩
                            have n0_ : Aside0 (Kd.R (Kd.int .i64) 2 w144 w.heap.size (fun k_ => some k_ ≠ (v318 : Value).ownBlock ∧ some k_ ≠ (.slice Ao54 t259.length co54 : Value).ownBlock ∧ some k_ ≠ (.slice Ao66 t298.length co66 : Value).ownBlock ∧ some k_ ≠ (.slice Ao86 t279.length co86 : Value).ownBlock) v307 t306) := ⟨h0_⟩
                            have n1_ : Aside0 (Kd.R (Kd.int .u8) 5 w144 w.heap.size (fun k_ => some k_ ≠ (.slice Ao71 t300.length co71 : Value).ownBlock) v312 t311) := ⟨h1_⟩
                            have n2_ : Aside0 (Kd.R (Kd.int .i64) 2 w144 w.heap.size (fun k_ => some k_ ≠ (v307 : Value).ownBlock ∧ some k_ ≠ (.slice Ao54 t259.length co54 : Value).ownBlock ∧ some k_ ≠ (.slice Ao66 t298.length co66 : Value).ownBlock ∧ some k_ ≠ (.slice Ao86 t279.length co86 : Value).ownBlock) v318 t317) := ⟨h2_⟩
                            have n3_ : Aside0 (Kd.R (Kd.int .i64) 2 w144 w.heap.size (fun k_ => some k_ ≠ (v307 : Value).ownBlock ∧ some k_ ≠ (v318 : Value).ownBlock ∧ some k_ ≠ (.slice Ao66 t298.length co66 : Value).ownBlock ∧ some k_ ≠ (.slice Ao86 t279.length co86 : Value).ownBlock) (.slice Ao54 t259.length co54) t259) := ⟨h3_⟩
                            have n4_ : Aside0 (Kd.R (Kd.int .i64) 2 w144 w.heap.size (fun k_ => some k_ ≠ (v307 : Value).ownBlock ∧ some k_ ≠ (v318 : Value).ownBlock ∧ some k_ ≠ (.slice Ao54 t259.length co54 : Value).ownBlock ∧ some k_ ≠ (.slice Ao86 t279.length co86 : Value).ownBlock) (.slice Ao66 t298.length co66) t298) := ⟨h4_⟩
                            have n5_ : Aside0 (Kd.R (Kd.int .u8) 5 w144 w.heap.size (fun k_ => some k_ ≠ (v312 : Value).ownBlock) (.slice Ao71 t300.length co71) t300) := ⟨h5_⟩
                            have n6_ : Aside0 (Kd.R (Kd.int .i64) 2 w144 w.heap.size (fun k_ => some k_ ≠ (v307 : Value).ownBlock ∧ some k_ ≠ (v318 : Value).ownBlock ∧ some k_ ≠ (.slice Ao54 t259.length co54 : Value).ownBlock ∧ some k_ ≠ (.slice Ao66 t298.length co66 : Value).ownBlock) (.slice Ao86 t279.length co86) t303) := ⟨h6_⟩
                            have n7_ : Aside0 (w144.heap[gb243]? = some (.cells #[.int .i64 a0_0, .slice A0_1 l0_1.length c0_1, .int .i64 a0_2, .int .i64 a0_3] 24 (0, 0))) := ⟨h7_⟩
                            have n8_ : Aside0 (w144.heap[gb244]? = some (.cells #[.slice A1_0 l1_0.length c1_0] 42 (0, 0))) := ⟨h8_⟩
                            have n9_ : Aside0 (w144.heap[gb264]? = some (.cells #[.int .i64 t256, .int .i64 t257, .int .i64 t258, .slice Ao54 t259.length co54, .int .i64 t262, .int .i64 t263] 32 (0, 0))) := ⟨h9_⟩
                            have n10_ : Aside0 (w144.heap[gb271]? = some (.cells #[.int .i64 t265, .slice Ao66 t298.length co66, .int .i64 t269, .int .i64 t270] 27 (0, 0))) := ⟨h10_⟩
                            have n11_ : Aside0 (w144.heap[gb275]? = some (.cells #[.slice Ao71 t300.length co71] 45 (0, 0))) := ⟨h11_⟩
                            have n12_ : Aside0 (w144.heap[gb284]? = some (.cells #[.int .i64 t276, .int .i64 t277, .int .i64 t278, .slice Ao86 t279.length co86, .int .i64 t282, .int .i64 t283] 32 (0, 0))) := ⟨h12_⟩
                            have n13_ : Aside0 (w144.heap[gb322]? = some (.cells #[.int .i64 0, .int .i64 0, .int .i64 0, .slice none 0 0, .int .i64 0, .int .i64 0] 32 (0, 0))) := ⟨h13_⟩
                            have n14_ : Aside0 (w.heap.size ≤ gb322) := ⟨h14_⟩
                            have n15_ : Aside0 (w.heap.size ≤ gb322) := ⟨h15_⟩
                            have n16_ : Aside0 (gb243 ≠ gb322) := ⟨h16_⟩
                            have n17_ : Aside0 (gb322 ≠ gb243) := ⟨h17_⟩
                            have n18_ : Aside0 (gb244 ≠ gb322) := ⟨h18_⟩
                            have n19_ : Aside0 (gb322 ≠ gb244) := ⟨h19_⟩
                            have n20_ : Aside0 (gb264 ≠ gb322) := ⟨h20_⟩
                            have n21_ : Aside0 (gb322 ≠ gb264) := ⟨h21_⟩
                            have n22_ : Aside0 (gb271 ≠ gb322) := ⟨h22_⟩
                            have n23_ : Aside0 (gb322 ≠ gb271) := ⟨h23_⟩
                            have n24_ : Aside0 (gb275 ≠ gb322) := ⟨h24_⟩
                            have n25_ : Aside0 (gb322 ≠ gb275) := ⟨h25_⟩
                            have n26_ : Aside0 (gb284 ≠ gb322) := ⟨h26_⟩
                            have n27_ : Aside0 (gb322 ≠ gb284) := ⟨h27_⟩
                            have n28_ : Aside0 (Below w.heap.size w w144) := ⟨h28_⟩
                            clear HO_265003
                            clear HO_272001
                            clear HO_276000
                            clear HO_285003
                            clear BK243
                            clear BK244
                            clear BK264
                            clear BK271
                            clear BK275
                            clear BK284
                            clear HB
                            clear h0_ h1_ h2_ h3_ h4_ h5_ h6_ h7_ h8_ h9_ h10_ h11_ h12_ h13_ h14_ h15_ h16_ h17_ h18_ h19_ h20_ h21_ h22_ h23_ h24_ h25_ h26_ h27_ h28_
                            have HO308 := n0_
                            have HO313 := n1_
                            have HO319 := n2_
                            have HO_265003 := n3_
                            have HO_272001 := n4_
                            have HO_276000 := n5_
                            have HO_285003 := n6_
                            have BK243 := n7_
                            have BK244 := n8_
                            have BK264 := n9_
                            have BK271 := n10_
                            have BK275 := n11_
                            have BK284 := n12_
                            have BK322 := n13_
                            have GW322 := n14_
                            have GE322 := n15_
                            have NB243_322 := n16_
                            have NB322_243 := n17_
                            have NB244_322 := n18_
                            have NB322_244 := n19_
                            have NB264_322 := n20_
                            have NB322_264 := n21_
                            have NB271_322 := n22_
                            have NB322_271 := n23_
                            have NB275_322 := n24_
                            have NB322_275 := n25_
                            have NB284_322 := n26_
                            have NB322_284 := n27_
                            have HB := n28_
                            clear n0_ n1_ n2_ n3_ n4_ n5_ n6_ n7_ n8_ n9_ n10_ n11_ n12_ n13_ n14_ n15_ n16_ n17_ n18_ n19_ n20_ n21_ n22_ n23_ n24_ n25_ n26_ n27_ n28_
                            have hHeld : w144.cell? ⟨gb243, 0, none⟩ = some (.int .i64 a0_0) ∧ w144.cell? ⟨gb243, 1, none⟩ = some (.slice A0_1 l0_1.length c0_1) ∧ w144.cell? ⟨gb243, 2, none⟩ = some (.int .i64 a0_2) ∧ w144.cell? ⟨gb243, 3, none⟩ = some (.int .i64 a0_3) ∧ w144.cell? ⟨gb244, 0, none⟩ = some (.slice A1_0 l1_0.length c1_0) := hS_
                            obtain ⟨Ao148, co148, eo148⟩ := Kd.R_slice HO319.out
                            (first | subst eo148 | (injection eo148 with f1_ f2_ f3_; have f4_ := f1_.symm; have f5_ := f3_.symm; clear f1_ f2_ f3_; subst f4_; subst f5_))
                            refine norm_ (a' := ?_) ?_ ?_
                            rotate_left
                            · simp only [putAll, Act.put, List.setIfInBounds_toArray, List.set_cons_zero, List.set_cons_succ]
                              rfl
                            refine one_ (i := 6) (N := none) #[true, true, true, true, true, true, true] rfl rfl (by kernel_rfl) (by decide) (fun K hK => ?_)
                            have hs145 : w144.cell? ⟨gb322, 0, none⟩ = some (.int .i64 0) := (blk_cell BK322.out 0).trans rfl
                            have hfs145 := blk_frozen BK322.out 0
                            have hns145_0 := NB243_322.out
                            have hns145_1 := NB244_322.out
                            have hns145_2 := NB264_322.out
                            have hns145_3 := NB271_322.out
                            have hns145_4 := NB275_322.out
                            have hns145_5 := NB284_322.out
                            have hms145_0 := NB322_243.out
                            have hms145_1 := NB322_244.out
                            have hms145_2 := NB322_264.out
                            have hms145_3 := NB322_271.out
                            have hms145_4 := NB322_275.out
                            have hms145_5 := NB322_284.out
                            have hs146 : w144.cell? ⟨gb322, 1, none⟩ = some (.int .i64 0) := (blk_cell BK322.out 1).trans rfl
                            have hfs146 := blk_frozen BK322.out 1
                            have hns146_0 := NB243_322.out
                            have hns146_1 := NB244_322.out
                            have hns146_2 := NB264_322.out
                            have hns146_3 := NB271_322.out
                            have hns146_4 := NB275_322.out
                            have hns146_5 := NB284_322.out
                            have hms146_0 := NB322_243.out
                            have hms146_1 := NB322_244.out
                            have hms146_2 := NB322_264.out
                            have hms146_3 := NB322_271.out
                            have hms146_4 := NB322_275.out
                            have hms146_5 := NB322_284.out
                            have hs147 : w144.cell? ⟨gb322, 2, none⟩ = some (.int .i64 0) := (blk_cell BK322.out 2).trans rfl
                            have hfs147 := blk_frozen BK322.out 2
                            have hns147_0 := NB243_322.out
                            have hns147_1 := NB244_322.out
                            have hns147_2 := NB264_322.out
                            have hns147_3 := NB271_322.out
                            have hns147_4 := NB275_322.out
                            have hns147_5 := NB284_322.out
                            have hms147_0 := NB322_243.out
                            have hms147_1 := NB322_244.out
                            have hms147_2 := NB322_264.out
                            have hms147_3 := NB322_271.out
                            have hms147_4 := NB322_275.out
                            have hms147_5 := NB322_284.out
                            have hs149 : w144.cell? ⟨gb322, 3, none⟩ = some (.slice none 0 0) := (blk_cell BK322.out 3).trans rfl
                            have hfs149 := blk_frozen BK322.out 3
                            have hns149_0 := NB243_322.out
                            have hns149_1 := NB244_322.out
                            have hns149_2 := NB264_322.out
                            have hns149_3 := NB271_322.out
                            have hns149_4 := NB275_322.out
                            have hns149_5 := NB284_322.out
                            have hms149_0 := NB322_243.out
                            have hms149_1 := NB322_244.out
                            have hms149_2 := NB322_264.out
                            have hms149_3 := NB322_271.out
                            have hms149_4 := NB322_275.out
                            have hms149_5 := NB322_284.out
                            have hs150 : w144.cell? ⟨gb322, 4, none⟩ = some (.int .i64 0) := (blk_cell BK322.out 4).trans rfl
                            have hfs150 := blk_frozen BK322.out 4
                            have hns150_0 := NB243_322.out
                            have hns150_1 := NB244_322.out
                            have hns150_2 := NB264_322.out
                            have hns150_3 := NB271_322.out
                            have hns150_4 := NB275_322.out
                            have hns150_5 := NB284_322.out
                            have hms150_0 := NB322_243.out
                            have hms150_1 := NB322_244.out
                            have hms150_2 := NB322_264.out
                            have hms150_3 := NB322_271.out
                            have hms150_4 := NB322_275.out
                            have hms150_5 := NB322_284.out
                            have hs151 : w144.cell? ⟨gb322, 5, none⟩ = some (.int .i64 0) := (blk_cell BK322.out 5).trans rfl
                            have hfs151 := blk_frozen BK322.out 5
                            have hns151_0 := NB243_322.out
                            have hns151_1 := NB244_322.out
                            have hns151_2 := NB264_322.out
                            have hns151_3 := NB271_322.out
                            have hns151_4 := NB275_322.out
                            have hns151_5 := NB284_322.out
                            have hms151_0 := NB322_243.out
                            have hms151_1 := NB322_244.out
                            have hms151_2 := NB322_264.out
                            have hms151_3 := NB322_271.out
                            have hms151_4 := NB322_275.out
                            have hms151_5 := NB322_284.out
                            refine skip_ (w1 := ?_) (by rfl) rfl ?_ ?_
                            rotate_left
                            · go_simp
                              rfl
                            refine hK.out _ _ ⟨((cell_far (p := ⟨gb322, _, none⟩) NB243_322.out _).trans (((cell_far (p := ⟨gb322, _, none⟩) NB243_322.out _).trans (((cell_far (p := ⟨gb322, _, none⟩) NB243_322.out _).trans (((cell_far (p := ⟨gb322, _, none⟩) NB243_322.out _).trans (((cell_far (p := ⟨gb322, _, none⟩) NB243_322.out _).trans (((cell_far (p := ⟨gb322, _, none⟩) NB243_322.out _).trans (hHeld.1)))))))))))), ((cell_far (p := ⟨gb322, _, none⟩) NB243_322.out _).trans (((cell_far (p := ⟨gb322, _, none⟩) NB243_322.out _).trans (((cell_far (p := ⟨gb322, _, none⟩) NB243_322.out _).trans (((cell_far (p := ⟨gb322, _, none⟩) NB243_322.out _).trans (((cell_far (p := ⟨gb322, _, none⟩) NB243_322.out _).trans (((cell_far (p := ⟨gb322, _, none⟩) NB243_322.out _).trans (hHeld.2.1)))))))))))), ((cell_far (p := ⟨gb322, _, none⟩) NB243_322.out _).trans (((cell_far (p := ⟨gb322, _, none⟩) NB243_322.out _).trans (((cell_far (p := ⟨gb322, _, none⟩) NB243_322.out _).trans (((cell_far (p := ⟨gb322, _, none⟩) NB243_322.out _).trans (((cell_far (p := ⟨gb322, _, none⟩) NB243_322.out _).trans (((cell_far (p := ⟨gb322, _, none⟩) NB243_322.out _).trans (hHeld.2.2.1)))))))))))), ((cell_far (p := ⟨gb322, _, none⟩) NB243_322.out _).trans (((cell_far (p := ⟨gb322, _, none⟩) NB243_322.out _).trans (((cell_far (p := ⟨gb322, _, none⟩) NB243_322.out _).trans (((cell_far (p := ⟨gb322, _, none⟩) NB243_322.out _).trans (((cell_far (p := ⟨gb322, _, none⟩) NB243_322.out _).trans (((cell_far (p := ⟨gb322, _, none⟩) NB243_322.out _).trans (hHeld.2.2.2.1)))))))))))), ((cell_far (p := ⟨gb322, _, none⟩) NB244_322.out _).trans (((cell_far (p := ⟨gb322, _, none⟩) NB244_322.out _).trans (((cell_far (p := ⟨gb322, _, none⟩) NB244_322.out _).trans (((cell_far (p := ⟨gb322, _, none⟩) NB244_322.out _).trans (((cell_far (p := ⟨gb322, _, none⟩) NB244_322.out _).trans (((cell_far (p := ⟨gb322, _, none⟩) NB244_322.out _).trans (hHeld.2.2.2.2))))))))))))⟩ (fun hHeld => ?_)
                            clear hK K
                            refine done_ (by kernel_rfl) ?_
                            have hnb152 := NB322_243.out
                            have hnc152 := NB243_322.out
                            have hnb153 := NB322_244.out
                            have hnc153 := NB244_322.out
                            have hnb154 := NB322_264.out
                            have hnc154 := NB264_322.out
                            have hnb155 := NB322_271.out
                            have hnc155 := NB271_322.out
                            have hnb156 := NB322_275.out
                            have hnc156 := NB275_322.out
                            have hnb157 := NB322_284.out
                            have hnc157 := NB284_322.out
                            have hcz158_0 : w144.cell? ⟨gb322, 0, none⟩ = some (.int .i64 0) := (blk_cell BK322.out 0).trans rfl
                            have hcz158_1 : w144.cell? ⟨gb322, 1, none⟩ = some (.int .i64 0) := (blk_cell BK322.out 1).trans rfl
                            have hcz158_2 : w144.cell? ⟨gb322, 2, none⟩ = some (.int .i64 0) := (blk_cell BK322.out 2).trans rfl
                            have hcz158_3 : w144.cell? ⟨gb322, 3, none⟩ = some (.slice none 0 0) := (blk_cell BK322.out 3).trans rfl
                            have hcz158_4 : w144.cell? ⟨gb322, 4, none⟩ = some (.int .i64 0) := (blk_cell BK322.out 4).trans rfl
                            have hcz158_5 : w144.cell? ⟨gb322, 5, none⟩ = some (.int .i64 0) := (blk_cell BK322.out 5).trans rfl
                            have hfz158_0 := blk_frozen BK322.out 0
                            have hfz158_1 := blk_frozen BK322.out 1
                            have hfz158_2 := blk_frozen BK322.out 2
                            have hfz158_3 := blk_frozen BK322.out 3
                            have hfz158_4 := blk_frozen BK322.out 4
                            have hfz158_5 := blk_frozen BK322.out 5
                            have hnb159 := NB264_243.out
                            have hnc159 := NB243_264.out
                            have hnb160 := NB264_244.out
                            have hnc160 := NB244_264.out
                            have hnb161 := NB264_271.out
                            have hnc161 := NB271_264.out
                            have hnb162 := NB264_275.out
                            have hnc162 := NB275_264.out
                            have hcz163_0 : w144.cell? ⟨gb264, 0, none⟩ = some (.int .i64 t256) := (blk_cell BK264.out 0).trans rfl
                            have hcz163_1 : w144.cell? ⟨gb264, 1, none⟩ = some (.int .i64 t257) := (blk_cell BK264.out 1).trans rfl
                            have hcz163_2 : w144.cell? ⟨gb264, 2, none⟩ = some (.int .i64 t258) := (blk_cell BK264.out 2).trans rfl
                            have hcz163_3 : w144.cell? ⟨gb264, 3, none⟩ = some (.slice Ao54 t259.length co54) := (blk_cell BK264.out 3).trans rfl
                            have hcz163_4 : w144.cell? ⟨gb264, 4, none⟩ = some (.int .i64 t262) := (blk_cell BK264.out 4).trans rfl
                            have hcz163_5 : w144.cell? ⟨gb264, 5, none⟩ = some (.int .i64 t263) := (blk_cell BK264.out 5).trans rfl
                            have hfz163_0 := blk_frozen BK264.out 0
                            have hfz163_1 := blk_frozen BK264.out 1
                            have hfz163_2 := blk_frozen BK264.out 2
                            have hfz163_3 := blk_frozen BK264.out 3
                            have hfz163_4 := blk_frozen BK264.out 4
                            have hfz163_5 := blk_frozen BK264.out 5
                            try go_wp2_with (first | ((with_reducible refine gate_callee (f := 19) rfl ?_); refine goesL_ (some 82) rfl rfl Try.func19 (by kernel_rfl) rfl #[.agg #[.int .i64 t314, .int .i64 t315, .int .i64 t316, .slice Ao148 t317.length co148, .int .i64 t320, .int .i64 t321], .agg #[.int .i64 t256, .int .i64 t257, .int .i64 t258, .slice Ao54 t259.length co54, .int .i64 t262, .int .i64 t263]] rfl (by (try simp only [List.map_toArray, List.map_cons, List.map_nil]); first | done | rfl | (simp only [List.length_drop, List.length_take]; rfl)) ?_; (with_reducible refine (laws_eqIndexResult.calls kj34 t314 t315 t316 _ _ t317 t320 t321 t256 t257 t258 _ _ t259 t262 t263 true _ ?side1 ?side2 ?side3 ?side4 A123.out).mono ?_); (case side1 => refine (Kd.R_reads' (e := 2) (base := w.heap.size) (ok := fun k_ => (some k_ ≠ (v307 : Value).ownBlock ∧ (some k_ ≠ (.slice Ao54 t259.length co54 : Value).ownBlock ∧ (some k_ ≠ (.slice Ao66 t298.length co66 : Value).ownBlock ∧ some k_ ≠ (.slice Ao86 t279.length co86 : Value).ownBlock)))) (n := t317.length) (c := co148) ?_).2.2; exact (by (with_reducible repeat (first | apply Kd.R_alloc | apply Kd.R_drewN | apply Kd.R_drew)); exact (Kd.R_mono (Kd.R_far (p := ⟨gb322, 5, none⟩) (Kd.R_far (p := ⟨gb322, 4, none⟩) (Kd.R_far (p := ⟨gb322, 3, none⟩) (Kd.R_far (p := ⟨gb322, 2, none⟩) (Kd.R_far (p := ⟨gb322, 1, none⟩) (Kd.R_far (p := ⟨gb322, 0, none⟩) (Kd.R_types HO319.out BK322.out (by decide)) (fun _ hk => hk.2) (.int .i64 t314)) (fun _ hk => hk.2) (.int .i64 t315)) (fun _ hk => hk.2) (.int .i64 t316)) (fun _ hk => hk.2) (.slice Ao148 t317.length co148)) (fun _ hk => hk.2) (.int .i64 t320)) (fun _ hk => hk.2) (.int .i64 t321)) (fun _ h_ => h_.1)))); (case side2 => exact (Kd.R_reads' HO319.out).2.1); (case side3 => refine (Kd.R_reads' (e := 2) (base := w.heap.size) (ok := fun k_ => (some k_ ≠ (v307 : Value).ownBlock ∧ (some k_ ≠ (.slice Ao148 t317.length co148 : Value).ownBlock ∧ (some k_ ≠ (.slice Ao66 t298.length co66 : Value).ownBlock ∧ some k_ ≠ (.slice Ao86 t279.length co86 : Value).ownBlock)))) (n := t259.length) (c := co54) ?_).2.2; exact (by (with_reducible repeat (first | apply Kd.R_alloc | apply Kd.R_drewN | apply Kd.R_drew)); exact (Kd.R_mono (Kd.R_far (p := ⟨gb322, 5, none⟩) (Kd.R_far (p := ⟨gb322, 4, none⟩) (Kd.R_far (p := ⟨gb322, 3, none⟩) (Kd.R_far (p := ⟨gb322, 2, none⟩) (Kd.R_far (p := ⟨gb322, 1, none⟩) (Kd.R_far (p := ⟨gb322, 0, none⟩) (Kd.R_types HO_265003.out BK322.out (by decide)) (fun _ hk => hk.2) (.int .i64 t314)) (fun _ hk => hk.2) (.int .i64 t315)) (fun _ hk => hk.2) (.int .i64 t316)) (fun _ hk => hk.2) (.slice Ao148 t317.length co148)) (fun _ hk => hk.2) (.int .i64 t320)) (fun _ hk => hk.2) (.int .i64 t321)) (fun _ h_ => h_.1)))); (case side4 => exact (Kd.R_reads' HO_265003.out).2.1); rintro e w164 ⟨rfl, hb⟩; refine ⟨_, rfl, ?_⟩; replace HO_265003 := Aside0.mk (Kd.R_below (by (with_reducible repeat (first | apply Kd.R_alloc | apply Kd.R_drewN | apply Kd.R_drew)); exact (Kd.R_mono (Kd.R_far (p := ⟨gb322, 5, none⟩) (Kd.R_far (p := ⟨gb322, 4, none⟩) (Kd.R_far (p := ⟨gb322, 3, none⟩) (Kd.R_far (p := ⟨gb322, 2, none⟩) (Kd.R_far (p := ⟨gb322, 1, none⟩) (Kd.R_far (p := ⟨gb322, 0, none⟩) (Kd.R_types HO_265003.out BK322.out (by decide)) (fun _ hk => hk.2) (.int .i64 t314)) (fun _ hk => hk.2) (.int .i64 t315)) (fun _ hk => hk.2) (.int .i64 t316)) (fun _ hk => hk.2) (.slice Ao148 t317.length co148)) (fun _ hk => hk.2) (.int .i64 t320)) (fun _ hk => hk.2) (.int .i64 t321)) (fun _ h_ => h_.1))) hb); replace HO_272001 := Aside0.mk (Kd.R_below (by (with_reducible repeat (first | apply Kd.R_alloc | apply Kd.R_drewN | apply Kd.R_drew)); exact (Kd.R_mono (Kd.R_far (p := ⟨gb322, 5, none⟩) (Kd.R_far (p := ⟨gb322, 4, none⟩) (Kd.R_far (p := ⟨gb322, 3, none⟩) (Kd.R_far (p := ⟨gb322, 2, none⟩) (Kd.R_far (p := ⟨gb322, 1, none⟩) (Kd.R_far (p := ⟨gb322, 0, none⟩) (Kd.R_types HO_272001.out BK322.out (by decide)) (fun _ hk => hk.2) (.int .i64 t314)) (fun _ hk => hk.2) (.int .i64 t315)) (fun _ hk => hk.2) (.int .i64 t316)) (fun _ hk => hk.2) (.slice Ao148 t317.length co148)) (fun _ hk => hk.2) (.int .i64 t320)) (fun _ hk => hk.2) (.int .i64 t321)) (fun _ h_ => h_.1))) hb); replace HO_276000 := Aside0.mk (Kd.R_below (by (with_reducible repeat (first | apply Kd.R_alloc | apply Kd.R_drewN | apply Kd.R_drew)); exact (Kd.R_mono (Kd.R_far (p := ⟨gb322, 5, none⟩) (Kd.R_far (p := ⟨gb322, 4, none⟩) (Kd.R_far (p := ⟨gb322, 3, none⟩) (Kd.R_far (p := ⟨gb322, 2, none⟩) (Kd.R_far (p := ⟨gb322, 1, none⟩) (Kd.R_far (p := ⟨gb322, 0, none⟩) (Kd.R_types HO_276000.out BK322.out (by decide)) (fun _ hk => hk.2) (.int .i64 t314)) (fun _ hk => hk.2) (.int .i64 t315)) (fun _ hk => hk.2) (.int .i64 t316)) (fun _ hk => hk.2) (.slice Ao148 t317.length co148)) (fun _ hk => hk.2) (.int .i64 t320)) (fun _ hk => hk.2) (.int .i64 t321)) (fun _ h_ => h_.1))) hb); replace HO_285003 := Aside0.mk (Kd.R_below (by (with_reducible repeat (first | apply Kd.R_alloc | apply Kd.R_drewN | apply Kd.R_drew)); exact (Kd.R_mono (Kd.R_far (p := ⟨gb322, 5, none⟩) (Kd.R_far (p := ⟨gb322, 4, none⟩) (Kd.R_far (p := ⟨gb322, 3, none⟩) (Kd.R_far (p := ⟨gb322, 2, none⟩) (Kd.R_far (p := ⟨gb322, 1, none⟩) (Kd.R_far (p := ⟨gb322, 0, none⟩) (Kd.R_types HO_285003.out BK322.out (by decide)) (fun _ hk => hk.2) (.int .i64 t314)) (fun _ hk => hk.2) (.int .i64 t315)) (fun _ hk => hk.2) (.int .i64 t316)) (fun _ hk => hk.2) (.slice Ao148 t317.length co148)) (fun _ hk => hk.2) (.int .i64 t320)) (fun _ hk => hk.2) (.int .i64 t321)) (fun _ h_ => h_.1))) hb); replace HO308 := Aside0.mk (Kd.R_below (by (with_reducible repeat (first | apply Kd.R_alloc | apply Kd.R_drewN | apply Kd.R_drew)); exact (Kd.R_mono (Kd.R_far (p := ⟨gb322, 5, none⟩) (Kd.R_far (p := ⟨gb322, 4, none⟩) (Kd.R_far (p := ⟨gb322, 3, none⟩) (Kd.R_far (p := ⟨gb322, 2, none⟩) (Kd.R_far (p := ⟨gb322, 1, none⟩) (Kd.R_far (p := ⟨gb322, 0, none⟩) (Kd.R_types HO308.out BK322.out (by decide)) (fun _ hk => hk.2) (.int .i64 t314)) (fun _ hk => hk.2) (.int .i64 t315)) (fun _ hk => hk.2) (.int .i64 t316)) (fun _ hk => hk.2) (.slice Ao148 t317.length co148)) (fun _ hk => hk.2) (.int .i64 t320)) (fun _ hk => hk.2) (.int .i64 t321)) (fun _ h_ => h_.1))) hb); replace HO313 := Aside0.mk (Kd.R_below (by (with_reducible repeat (first | apply Kd.R_alloc | apply Kd.R_drewN | apply Kd.R_drew)); exact (Kd.R_mono (Kd.R_far (p := ⟨gb322, 5, none⟩) (Kd.R_far (p := ⟨gb322, 4, none⟩) (Kd.R_far (p := ⟨gb322, 3, none⟩) (Kd.R_far (p := ⟨gb322, 2, none⟩) (Kd.R_far (p := ⟨gb322, 1, none⟩) (Kd.R_far (p := ⟨gb322, 0, none⟩) (Kd.R_types HO313.out BK322.out (by decide)) (fun _ hk => hk.2) (.int .i64 t314)) (fun _ hk => hk.2) (.int .i64 t315)) (fun _ hk => hk.2) (.int .i64 t316)) (fun _ hk => hk.2) (.slice Ao148 t317.length co148)) (fun _ hk => hk.2) (.int .i64 t320)) (fun _ hk => hk.2) (.int .i64 t321)) (fun _ h_ => h_.1))) hb); replace HO319 := Aside0.mk (Kd.R_below (by (with_reducible repeat (first | apply Kd.R_alloc | apply Kd.R_drewN | apply Kd.R_drew)); exact (Kd.R_mono (Kd.R_far (p := ⟨gb322, 5, none⟩) (Kd.R_far (p := ⟨gb322, 4, none⟩) (Kd.R_far (p := ⟨gb322, 3, none⟩) (Kd.R_far (p := ⟨gb322, 2, none⟩) (Kd.R_far (p := ⟨gb322, 1, none⟩) (Kd.R_far (p := ⟨gb322, 0, none⟩) (Kd.R_types HO319.out BK322.out (by decide)) (fun _ hk => hk.2) (.int .i64 t314)) (fun _ hk => hk.2) (.int .i64 t315)) (fun _ hk => hk.2) (.int .i64 t316)) (fun _ hk => hk.2) (.slice Ao148 t317.length co148)) (fun _ hk => hk.2) (.int .i64 t320)) (fun _ hk => hk.2) (.int .i64 t321)) (fun _ h_ => h_.1))) hb); replace BK243 := Aside0.mk (blk_below (g := gb243) (o := .cells #[.int .i64 a0_0, .slice A0_1 l0_1.length c0_1, .int .i64 a0_2, .int .i64 a0_3] 24 (0, 0)) (by (with_reducible repeat (first | refine blk_drewN ?_ _ | refine blk_drew ?_ | refine blk_alloc ?_ _)); refine blk_far ?_ NB243_322.out _; refine blk_far ?_ NB243_322.out _; refine blk_far ?_ NB243_322.out _; refine blk_far ?_ NB243_322.out _; refine blk_far ?_ NB243_322.out _; refine blk_far ?_ NB243_322.out _; (with_reducible repeat (first | refine blk_drewN ?_ _ | refine blk_drew ?_ | refine blk_alloc ?_ _)); exact BK243.out) hb); replace BK244 := Aside0.mk (blk_below (g := gb244) (o := .cells #[.slice A1_0 l1_0.length c1_0] 42 (0, 0)) (by (with_reducible repeat (first | refine blk_drewN ?_ _ | refine blk_drew ?_ | refine blk_alloc ?_ _)); refine blk_far ?_ NB244_322.out _; refine blk_far ?_ NB244_322.out _; refine blk_far ?_ NB244_322.out _; refine blk_far ?_ NB244_322.out _; refine blk_far ?_ NB244_322.out _; refine blk_far ?_ NB244_322.out _; (with_reducible repeat (first | refine blk_drewN ?_ _ | refine blk_drew ?_ | refine blk_alloc ?_ _)); exact BK244.out) hb); replace BK264 := Aside0.mk (blk_below (g := gb264) (o := .cells #[.int .i64 t256, .int .i64 t257, .int .i64 t258, .slice Ao54 t259.length co54, .int .i64 t262, .int .i64 t263] 32 (0, 0)) (by (with_reducible repeat (first | refine blk_drewN ?_ _ | refine blk_drew ?_ | refine blk_alloc ?_ _)); refine blk_far ?_ NB264_322.out _; refine blk_far ?_ NB264_322.out _; refine blk_far ?_ NB264_322.out _; refine blk_far ?_ NB264_322.out _; refine blk_far ?_ NB264_322.out _; refine blk_far ?_ NB264_322.out _; (with_reducible repeat (first | refine blk_drewN ?_ _ | refine blk_drew ?_ | refine blk_alloc ?_ _)); exact BK264.out) hb); replace BK271 := Aside0.mk (blk_below (g := gb271) (o := .cells #[.int .i64 t265, .slice Ao66 t298.length co66, .int .i64 t269, .int .i64 t270] 27 (0, 0)) (by (with_reducible repeat (first | refine blk_drewN ?_ _ | refine blk_drew ?_ | refine blk_alloc ?_ _)); refine blk_far ?_ NB271_322.out _; refine blk_far ?_ NB271_322.out _; refine blk_far ?_ NB271_322.out _; refine blk_far ?_ NB271_322.out _; refine blk_far ?_ NB271_322.out _; refine blk_far ?_ NB271_322.out _; (with_reducible repeat (first | refine blk_drewN ?_ _ | refine blk_drew ?_ | refine blk_alloc ?_ _)); exact BK271.out) hb); replace BK275 := Aside0.mk (blk_below (g := gb275) (o := .cells #[.slice Ao71 t300.length co71] 45 (0, 0)) (by (with_reducible repeat (first | refine blk_drewN ?_ _ | refine blk_drew ?_ | refine blk_alloc ?_ _)); refine blk_far ?_ NB275_322.out _; refine blk_far ?_ NB275_322.out _; refine blk_far ?_ NB275_322.out _; refine blk_far ?_ NB275_322.out _; refine blk_far ?_ NB275_322.out _; refine blk_far ?_ NB275_322.out _; (with_reducible repeat (first | refine blk_drewN ?_ _ | refine blk_drew ?_ | refine blk_alloc ?_ _)); exact BK275.out) hb); replace BK284 := Aside0.mk (blk_below (g := gb284) (o := .cells #[.int .i64 t276, .int .i64 t277, .int .i64 t278, .slice Ao86 t279.length co86, .int .i64 t282, .int .i64 t283] 32 (0, 0)) (by (with_reducible repeat (first | refine blk_drewN ?_ _ | refine blk_drew ?_ | refine blk_alloc ?_ _)); refine blk_far ?_ NB284_322.out _; refine blk_far ?_ NB284_322.out _; refine blk_far ?_ NB284_322.out _; refine blk_far ?_ NB284_322.out _; refine blk_far ?_ NB284_322.out _; refine blk_far ?_ NB284_322.out _; (with_reducible repeat (first | refine blk_drewN ?_ _ | refine blk_drew ?_ | refine blk_alloc ?_ _)); exact BK284.out) hb); replace BK322 := Aside0.mk (blk_below (g := gb322) (o := .cells #[.int .i64 t314, .int .i64 t315, .int .i64 t316, .slice Ao148 t317.length co148, .int .i64 t320, .int .i64 t321] 32 (0, 0)) (by (with_reducible repeat (first | refine blk_drewN ?_ _ | refine blk_drew ?_ | refine blk_alloc ?_ _)); refine blk_put (cs := #[.int .i64 t314, .int .i64 t315, .int .i64 t316, .slice Ao148 t317.length co148, .int .i64 t320, .int .i64 0]) ?_ 5 _ rfl; refine blk_put (cs := #[.int .i64 t314, .int .i64 t315, .int .i64 t316, .slice Ao148 t317.length co148, .int .i64 0, .int .i64 0]) ?_ 4 _ rfl; refine blk_put (cs := #[.int .i64 t314, .int .i64 t315, .int .i64 t316, .slice none 0 0, .int .i64 0, .int .i64 0]) ?_ 3 _ rfl; refine blk_put (cs := #[.int .i64 t314, .int .i64 t315, .int .i64 0, .slice none 0 0, .int .i64 0, .int .i64 0]) ?_ 2 _ rfl; refine blk_put (cs := #[.int .i64 t314, .int .i64 0, .int .i64 0, .slice none 0 0, .int .i64 0, .int .i64 0]) ?_ 1 _ rfl; refine blk_put (cs := #[.int .i64 0, .int .i64 0, .int .i64 0, .slice none 0 0, .int .i64 0, .int .i64 0]) ?_ 0 _ rfl; (with_reducible repeat (first | refine blk_drewN ?_ _ | refine blk_drew ?_ | refine blk_alloc ?_ _)); exact BK322.out) hb); replace HB := Aside0.mk (below_step (bz HB) hb); (try clear hb); (try clear hb2); (try clear hk); (try clear hi); have hcz165_0 : w164.cell? ⟨gb284, 0, none⟩ = some (.int .i64 t276) := (blk_cell BK284.out 0).trans rfl; have hcz165_1 : w164.cell? ⟨gb284, 1, none⟩ = some (.int .i64 t277) := (blk_cell BK284.out 1).trans rfl; have hcz165_2 : w164.cell? ⟨gb284, 2, none⟩ = some (.int .i64 t278) := (blk_cell BK284.out 2).trans rfl; have hcz165_3 : w164.cell? ⟨gb284, 3, none⟩ = some (.slice Ao86 t279.length co86) := (blk_cell BK284.out 3).trans rfl; have hcz165_4 : w164.cell? ⟨gb284, 4, none⟩ = some (.int .i64 t282) := (blk_cell BK284.out 4).trans rfl; have hcz165_5 : w164.cell? ⟨gb284, 5, none⟩ = some (.int .i64 t283) := (blk_cell BK284.out 5).trans rfl; have hfz165_0 := blk_frozen BK284.out 0; have hfz165_1 := blk_frozen BK284.out 1; have hfz165_2 := blk_frozen BK284.out 2; have hfz165_3 := blk_frozen BK284.out 3; have hfz165_4 := blk_frozen BK284.out 4; have hfz165_5 := blk_frozen BK284.out 5) | ((with_reducible refine gate_callee (f := 21) rfl ?_); refine goesL_ (some 86) rfl rfl Try.func21 (by kernel_rfl) rfl #[.agg #[.int .i64 t276, .int .i64 t277, .int .i64 t278, .slice Ao86 t303.length co86, .int .i64 t282, .int .i64 t283], .int .i64 1] rfl (by (try simp only [List.map_toArray, List.map_cons, List.map_nil]); first | done | (rw [show t303.length = t279.length from (Kd.R_reads' HO_285003.out).1.symm] <;> rfl) | rfl | (simp only [List.length_drop, List.length_take]; rfl)) ?_; (with_reducible refine (laws_heldIndexResult.calls kj34 t276 t277 t278 _ _ t303 t282 t283 1 t324 _ ?side1 ?side2 A125.out).mono ?_); (case side1 => repeat (first | exact (Kd.R_reads' HO_285003.out).2.2 | (with_reducible refine Kd.C_alloc ?_ _) | (with_reducible refine Kd.C_drewN ?_ _) | (with_reducible refine Kd.C_drew ?_))); (case side2 => rw [show t303.length = t279.length from (Kd.R_reads' HO_285003.out).1.symm]; exact (Kd.R_reads' HO_285003.out).2.1); rintro e w166 ⟨rfl, hb⟩; refine ⟨_, rfl, ?_⟩; replace HO_265003 := rb HO_265003 hb; replace HO_272001 := rb HO_272001 hb; replace HO_276000 := rb HO_276000 hb; replace HO_285003 := rb HO_285003 hb; replace HO308 := rb HO308 hb; replace HO313 := rb HO313 hb; replace HO319 := rb HO319 hb; replace BK243 := bk BK243 hb; replace BK244 := bk BK244 hb; replace BK264 := bk BK264 hb; replace BK271 := bk BK271 hb; replace BK275 := bk BK275 hb; replace BK284 := bk BK284 hb; replace BK322 := bk BK322 hb; replace HB := Aside0.mk (below_step (bz HB) hb); (try clear hb); (try clear hb2); (try clear hk); (try clear hi)))
                            go_ret
                            exact ⟨by first | rfl | (simp [errW_none, errW_some] <;> rfl) | (simp [*, errW_none, errW_some] <;> rfl), by repeat (first | (with_reducible first | exact HB.out | apply below_alloc | apply pw_below_drewN | apply below_drew1 | refine below_set ?_ GE243.out | refine below_set ?_ GE244.out | refine below_set ?_ GE264.out | refine below_set ?_ GE271.out | refine below_set ?_ GE275.out | refine below_set ?_ GE284.out | refine below_set ?_ GE322.out) | exact HB.out)⟩
                          · rw [if_neg c127] at H
                            have c127b0 : (t324 == t302) = false := beq_eq_false_iff_ne.mpr c127
                            have c127b1 : (t324 != t302) = true := bne_iff_ne.mpr c127
                            obtain rfl := Option.some.inj H
                            exact absurd HT.out (by decide)
                      · replace c124 := Bool.eq_false_iff.mpr c124
                        subst c124
                        have H1 : (some false) = some r := by rw [if_neg (show ¬ (false = true) by decide)] at H; exact H
                        clear H
                        have H := H1
                        clear H1
                        obtain rfl := Option.some.inj H
                        exact absurd HT.out (by decide)
                    · rw [if_neg c119] at H
                      have c119b0 : (t304 == t302) = false := beq_eq_false_iff_ne.mpr c119
                      have c119b1 : (t304 != t302) = true := bne_iff_ne.mpr c119
                      obtain rfl := Option.some.inj H
                      exact absurd HT.out (by decide)
          · replace c32 := Bool.eq_false_iff.mpr c32
            subst c32
            have H1 : (some false) = some r := by rw [if_neg (show ¬ (false = true) by decide)] at H; exact H
            clear H
            have H := H1
            clear H1
            obtain rfl := Option.some.inj H
            exact absurd HT.out (by decide)
        · replace c29 := Bool.eq_false_iff.mpr c29
          subst c29
          have H1 : (some false) = some r := by rw [if_neg (show ¬ (false = true) by decide)] at H; exact H
          clear H
          have H := H1
          clear H1
          obtain rfl := Option.some.inj H
          exact absurd HT.out (by decide)
      · replace c26 := Bool.eq_false_iff.mpr c26
        subst c26
        have H1 : (some false) = some r := by rw [if_neg (show ¬ (false = true) by decide)] at H; exact H
        clear H
        have H := H1
        clear H1
        obtain rfl := Option.some.inj H
        exact absurd HT.out (by decide)

/-- THE ONE PURE STATEMENT of laws_FnExactExtendIndex. -/
def laws_FnExactExtendIndex.Pure : Prop := ∀ (a0_0 : Int) (l0_1 : List Int) (a0_2 : Int) (a0_3 : Int) (l1_0 : List Int), (Lit.int .i64 a0_0).wf = true → l0_1.length ≤ maxLen → (∀ x ∈ l0_1, (Lit.int .i64 x).wf = true) → (Lit.int .i64 a0_2).wf = true → (Lit.int .i64 a0_3).wf = true → l1_0.length ≤ maxLen → (∀ x ∈ l1_0, (Lit.int .u8 x).wf = true) → ∃ k, laws_FnExactExtendIndex.f k a0_0 l0_1 a0_2 a0_3 l1_0 = some true
theorem laws_FnExactExtendIndex.walk (P : laws_FnExactExtendIndex.Pure) (a0_0 : Int) (A0_1 : Option Addr) (c0_1 : Nat) (l0_1 : List Int) (a0_2 : Int) (a0_3 : Int) (A1_0 : Option Addr) (c1_0 : Nat) (l1_0 : List Int) (w : World) (hr0_1 : Kd.C (Kd.int .i64) w A0_1 l0_1.length l0_1) (hc0_1 : l0_1.length ≤ c0_1) (hr1_0 : Kd.C (Kd.int .u8) w A1_0 l1_0.length l1_0) (hc1_0 : l1_0.length ≤ c1_0) (y0 : (Lit.int .i64 a0_0).wf = true) (y1 : l0_1.length ≤ maxLen) (y2 : (∀ x ∈ l0_1, (Lit.int .i64 x).wf = true)) (y3 : (Lit.int .i64 a0_2).wf = true) (y4 : (Lit.int .i64 a0_3).wf = true) (y5 : l1_0.length ≤ maxLen) (y6 : (∀ x ∈ l1_0, (Lit.int .u8 x).wf = true)) :
    Calls Try.prog 7 #[.agg #[.int .i64 a0_0, .slice A0_1 l0_1.length c0_1, .int .i64 a0_2, .int .i64 a0_3], .agg #[.slice A1_0 l1_0.length c1_0]] w fun e w' => e = .returned (.bool true) ∧ Below w.heap.size w w' := by
  obtain ⟨k, h⟩ := P a0_0 l0_1 a0_2 a0_3 l1_0 y0 y1 y2 y3 y4 y5 y6
  refine (laws_FnExactExtendIndex.calls k a0_0 _ _ l0_1 a0_2 a0_3 _ _ l1_0 true w hr0_1 hc0_1 hr1_0 hc1_0 ⟨rfl⟩ h).mono ?_
  rintro e w' ⟨rfl, hd⟩
  exact ⟨rfl, hd⟩

end Go.Proofs.Ytljpfppkpjodiaa.PFnExactExtendIndex
