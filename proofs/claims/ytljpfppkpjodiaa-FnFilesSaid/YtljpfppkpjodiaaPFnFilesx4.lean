/- Functions of the given program as plain Lean functions, each with a proof that the Go code answers just so; made by a program of this session out of the translation. Conditions: those that each theorem names. -/
import Derived.Test.YtljpfppkpjodiaaPFnFilesx0
import Derived.Test.YtljpfppkpjodiaaPFnFilesx1
import Derived.Test.YtljpfppkpjodiaaPFnFilesx2
namespace Go.Proofs.Ytljpfppkpjodiaa.PFnFiles
open Go.RowKit Go.Proofs.YtljpfppkpjodiaaW.PrintWords Go.Proofs.YtljpfppkpjodiaaW.PrintLast Go.Proofs.YtljpfppkpjodiaaW.PrintMore
attribute [local go_sem] max2_int min2_int max_two min_two max_three min_three max_four min_four   -- for this text's walks alone
set_option linter.unusedVariables false
set_option linter.unusedSimpArgs false

/-! ### spec_DrawReadPart: function 58 -/
def spec_DrawReadPart.f (k : Nat) (l0 : List Int) : Option (List Int × Int × Int × Int) := (spec_l1Source.f l0).bind fun bt285 => ((spec_l2Bent.f k bt285.1 bt285.2).bind fun bt288 => ((spec_l1Next.f bt285.1 bt288.2 (wrap64 ((bt288.1.length : Int) + 5))).bind fun bt293 => ((spec_l1Next.f bt285.1 bt293.2 20).bind fun bt295 => ((spec_l1Next.f bt285.1 bt295.2 20).bind fun bt297 => ((spec_l1Pick.f bt285.1 bt297.2 (([bt295.1, bt297.1, 400, 401, (-1)] : List Int))).bind fun bt302 => ((spec_l1Next.f bt285.1 bt302.2 9).bind fun bt304 => ((spec_l1Pick.f bt285.1 bt304.2 (([wrap64 (1 + bt304.1), 400, 0] : List Int))).bind fun bt309 => (some (bt288.1, wrap64 (bt293.1 - 1), bt302.1, bt309.1)))))))))
theorem spec_DrawReadPart.mono : ∀ a0 k, LeO (spec_DrawReadPart.f k a0) (spec_DrawReadPart.f (k + 1) a0) := by
  intro a0 k
  unfold spec_DrawReadPart.f
  repeat' first
      | (with_reducible exact spec_l2Bent.mono _ _ _)
      | (with_reducible exact LeO.refl _)
      | (with_reducible exact LeO.none _)
      | (with_reducible refine LeO.ite ?_ ?_)
      | (with_reducible refine LeO.bind ?_ (fun _ => ?_))
      | exact spec_l2Bent.mono _ _ _
      | exact LeO.none _
      | refine LeO.ite ?_ ?_
      | refine LeO.bind ?_ (fun _ => ?_)
def spec_DrawReadPart.T3 : Bool × List (List Nat × List Nat) := (true, [([], []), ([], []), ([], []), ([2], [2]), ([3], [3]), ([4], [4]), ([1, 5], [1, 5]), ([6], [6]), ([], []), ([], []), ([9, 6], [9]), ([], []), ([11, 10], [11]), ([10, 12], [10, 12]), ([8, 13, 12], [8, 13]), ([], []), ([], []), ([16, 14], [16]), ([17], [17]), ([18], [18]), ([15, 19, 17], [15, 19]), ([0, 20, 0], [0]), ([7, 21, 0, 1, 2, 3, 4, 5, 6, 7, 21], [7]), ([14, 22, 0, 1, 2, 3, 4, 5, 6, 7, 8, 9, 10, 11, 12, 13, 14, 21, 22], [14]), ([20, 23, 0, 1, 2, 3, 4, 5, 6, 7, 8, 9, 10, 11, 12, 13, 14, 15, 16, 17, 18, 19, 20, 21, 22, 23], [20])])
def spec_DrawReadPart.B3 : List Nat := [0, 0, 0, 4, 12, 28, 62, 126, 0, 0, 638, 0, 3710, 7806, 16254, 0, 0, 98174, 229246, 491390, 1048446, 2097023, 4194303, 8388607, 16777215]
theorem spec_DrawReadPart.tab3 : rtab .any (opsOf Try.f58 3) = spec_DrawReadPart.T3 := by kernel_rfl
theorem spec_DrawReadPart.bits3 : waitsOk spec_DrawReadPart.T3.2 spec_DrawReadPart.B3 = true := by kernel_rfl
set_option maxHeartbeats 8000000 in
set_option maxRecDepth 100000 in
theorem spec_DrawReadPart.calls (k : Nat) (A0 : Option Addr) (c0 : Nat) (l0 : List Int) (r1 : List Int) (r2 : Int) (r3 : Int) (r4 : Int) (w : World) (hr0 : Kd.C (Kd.int .u8) w A0 l0.length l0) (hc0 : l0.length ≤ c0) (h : spec_DrawReadPart.f k l0 = some (r1, r2, r3, r4)) :
    Calls Try.prog 58 #[.slice A0 l0.length c0] w fun e w' => ∃ v0_ : Value, e = .returned (.tuple #[.agg #[v0_], .int .i64 r2, .int .i64 r3, .int .i64 r4]) ∧ Kd.R (Kd.int .u8) 5 w' w.heap.size (fun _ => True) v0_ r1 ∧ Below w.heap.size w w' := by
  have hu45 := Try.underlying45
  have HR0 := Aside0.mk hr0
  have HC0 := Aside0.mk hc0
  clear hr0 hc0
  have HB := Aside0.mk (Below.refl w.heap.size w)
  have H : ((spec_l1Source.f l0).bind fun bt285 => ((spec_l2Bent.f k bt285.1 bt285.2).bind fun bt288 => ((spec_l1Next.f bt285.1 bt288.2 (wrap64 ((bt288.1.length : Int) + 5))).bind fun bt293 => ((spec_l1Next.f bt285.1 bt293.2 20).bind fun bt295 => ((spec_l1Next.f bt285.1 bt295.2 20).bind fun bt297 => ((spec_l1Pick.f bt285.1 bt297.2 (([bt295.1, bt297.1, 400, 401, (-1)] : List Int))).bind fun bt302 => ((spec_l1Next.f bt285.1 bt302.2 9).bind fun bt304 => ((spec_l1Pick.f bt285.1 bt304.2 (([wrap64 (1 + bt304.1), 400, 0] : List Int))).bind fun bt309 => (some (bt288.1, wrap64 (bt293.1 - 1), bt302.1, bt309.1)))))))))) = some (r1, r2, r3, r4) := h
  clear h
  replace H := Option.bind_eq_some_iff.mp H
  obtain ⟨⟨t285, t286⟩, A20, H⟩ := H
  try dsimp only at H
  have A2 := Aside0.mk A20
  clear A20
  replace H := Option.bind_eq_some_iff.mp H
  obtain ⟨⟨t288, t291⟩, A30, H⟩ := H
  try dsimp only at H
  have A3 := Aside0.mk A30
  clear A30
  replace H := Option.bind_eq_some_iff.mp H
  obtain ⟨⟨t293, t294⟩, A40, H⟩ := H
  try dsimp only at H
  have A4 := Aside0.mk A40
  clear A40
  replace H := Option.bind_eq_some_iff.mp H
  obtain ⟨⟨t295, t296⟩, A50, H⟩ := H
  try dsimp only at H
  have A5 := Aside0.mk A50
  clear A50
  replace H := Option.bind_eq_some_iff.mp H
  obtain ⟨⟨t297, t298⟩, A60, H⟩ := H
  try dsimp only at H
  have A6 := Aside0.mk A60
  clear A60
  obtain ⟨y299, hy299⟩ : ∃ y_ : List Int, y_ = (([t295, t297, 400, 401, (-1)] : List Int)) := ⟨_, rfl⟩
  replace H : ((spec_l1Pick.f t285 t298 y299).bind fun bt302 => ((spec_l1Next.f t285 bt302.2 9).bind fun bt304 => ((spec_l1Pick.f t285 bt304.2 (([wrap64 (1 + bt304.1), 400, 0] : List Int))).bind fun bt309 => (some (t288, wrap64 (t293 - 1), bt302.1, bt309.1))))) = some (r1, r2, r3, r4) := by first | (rw [hy299]; with_reducible exact H) | (have H2_ := (Option.bind_some _ _).symm.trans H; rw [hy299]; with_reducible exact H2_) | (have H2_ := (Option.bind_some _ _).symm.trans H; with_reducible exact H2_) | with_reducible exact H | (rw [hy299]; exact H) | exact H
  have Ny299 := Aside0.mk hy299
  clear hy299
  replace H := Option.bind_eq_some_iff.mp H
  obtain ⟨⟨t302, t303⟩, A70, H⟩ := H
  try dsimp only at H
  have A7 := Aside0.mk A70
  clear A70
  replace H := Option.bind_eq_some_iff.mp H
  obtain ⟨⟨t304, t305⟩, A80, H⟩ := H
  try dsimp only at H
  have A8 := Aside0.mk A80
  clear A80
  obtain ⟨y306, hy306⟩ : ∃ y_ : List Int, y_ = (([wrap64 (1 + t304), 400, 0] : List Int)) := ⟨_, rfl⟩
  replace H : ((spec_l1Pick.f t285 t305 y306).bind fun bt309 => (some (t288, wrap64 (t293 - 1), t302, bt309.1))) = some (r1, r2, r3, r4) := by first | (rw [hy306]; with_reducible exact H) | (have H2_ := (Option.bind_some _ _).symm.trans H; rw [hy306]; with_reducible exact H2_) | (have H2_ := (Option.bind_some _ _).symm.trans H; with_reducible exact H2_) | with_reducible exact H | (rw [hy306]; exact H) | exact H
  have Ny306 := Aside0.mk hy306
  clear hy306
  replace H := Option.bind_eq_some_iff.mp H
  obtain ⟨⟨t309, t310⟩, A90, H⟩ := H
  try dsimp only at H
  have A9 := Aside0.mk A90
  clear A90
  simp only [Option.some.injEq, Prod.mk.injEq] at H
  obtain ⟨rfl, rfl, rfl, rfl⟩ := H
  go_enter Try.func58, Try.ntmps58
  try go_wp2_with (first | ((with_reducible refine gate_dst (N := 2) rfl ?_); refine box_event ?hg (N := 2) ?hd (cs := #[.slice none 0 0]) (t := 45) ?hr ?_; (case hd => rfl); (case hg => rfl); (case hr => first | (go_simp; done) | (go_simp; rfl)); intro gb284 hg w10 hbox hb; have BK284 := Aside0.mk (hbox); have GW284 := Aside0.mk ((by rw [hg]; exact (below_size (bz HB)) : w.heap.size ≤ gb284)); have GE284 := Aside0.mk ((by rw [hg]; exact (below_size (bz HB)) : w.heap.size ≤ gb284)); replace HB := Aside0.mk (below_step (bz HB) hb); clear hb hbox hg) | ((with_reducible refine gate_callee (f := 86) rfl ?_); refine goesL_ (some 9) rfl rfl Try.func86 (by kernel_rfl) rfl #[.slice A0 l0.length c0] rfl (by (try simp only [List.map_toArray, List.map_cons, List.map_nil]); first | done | rfl | (simp only [List.length_drop, List.length_take]; rfl)) ?_; (with_reducible refine (spec_l1Source.calls _ _ l0 t285 t286 w _ ?side1 ?side2 ?side3 A2.out).mono ?_); (case side1 => repeat (first | (with_reducible first | exact HB.out | apply below_alloc | apply pw_below_drewN | apply below_drew1 | refine below_set ?_ GE284.out) | exact HB.out)); (case side2 => exact HR0.out); (case side3 => exact HC0.out); rintro e w11 ⟨g287, rfl, hi, hb, hb2⟩; refine ⟨_, rfl, ?_⟩; replace HB := Aside0.mk (hb); have HI287 := Aside0.mk (hi); have NB287_284 := Aside0.mk (IsS127.ne_blk hi (blk_below (g := gb284) (o := .cells #[.slice none 0 0] 45 (0, 0)) (by (with_reducible repeat (first | refine blk_drewN ?_ _ | refine blk_drew ?_ | refine blk_alloc ?_ _)); exact BK284.out) hb2) (by decide)); have NB284_287 := Aside0.mk (Ne.symm (IsS127.ne_blk hi (blk_below (g := gb284) (o := .cells #[.slice none 0 0] 45 (0, 0)) (by (with_reducible repeat (first | refine blk_drewN ?_ _ | refine blk_drew ?_ | refine blk_alloc ?_ _)); exact BK284.out) hb2) (by decide))); replace BK284 := Aside0.mk (blk_below (g := gb284) (o := .cells #[.slice none 0 0] 45 (0, 0)) (by (with_reducible repeat (first | refine blk_drewN ?_ _ | refine blk_drew ?_ | refine blk_alloc ?_ _)); exact BK284.out) hb2); (try clear hb); (try clear hb2); (try clear hk); (try clear hi)) | ((with_reducible refine gate_callee (f := 96) rfl ?_); refine goesL_ (some 11) rfl rfl Try.func96 (by kernel_rfl) rfl #[.pointer (some ⟨g287, 0, none⟩)] rfl (by (try simp only [List.map_toArray, List.map_cons, List.map_nil]); first | done | rfl | (simp only [List.length_drop, List.length_take]; rfl)) ?_; (with_reducible refine (spec_l2Bent.calls k g287 t285 t286 t288 t291 w _ ?side1 ?side2 A3.out).mono ?_); (case side1 => repeat (first | (with_reducible first | exact HI287.out | apply IsS127.alloc | apply IsS127.drewN | apply IsS127.drew | apply IsS127.set_1 | refine IsS127.far ?_ NB287_284.out _) | exact HI287.out)); (case side2 => repeat (first | (with_reducible first | exact HB.out | apply below_alloc | apply pw_below_drewN | apply below_drew1 | refine below_set ?_ (IsS127.ge HI287.out) | refine below_set ?_ GE284.out) | exact HB.out)); rintro e w12 ⟨v289, rfl, ho0, hi, hb, hk⟩; refine ⟨_, rfl, ?_⟩; replace BK284 := Aside0.mk (KeepBut.blk hk (g' := gb284) (o := .cells #[.slice none 0 0] 45 (0, 0)) (by (with_reducible repeat (first | refine blk_drewN ?_ _ | refine blk_drew ?_ | refine blk_alloc ?_ _)); exact BK284.out) NB284_287.out (by simp)); have HO290 := Aside0.mk (Kd.R_lower ho0 (below_size (by repeat (first | (with_reducible first | exact HB.out | apply below_alloc | apply pw_below_drewN | apply below_drew1 | refine below_set ?_ (IsS127.ge HI287.out) | refine below_set ?_ GE284.out) | exact HB.out)))); replace HB := Aside0.mk (hb); replace HI287 := Aside0.mk (hi); (try clear hb); (try clear hb2); (try clear hk); (try clear hi); (try clear ho0)) | ((with_reducible refine gate_dst (N := 7) rfl ?_); refine box_event ?hg (N := 7) ?hd (cs := #[.slice none 0 0]) (t := 45) ?hr ?_; (case hd => rfl); (case hg => rfl); (case hr => first | (go_simp; done) | (go_simp; rfl)); intro gb292 hg w13 hbox hb; replace HO290 := rb HO290 hb; have BK292 := Aside0.mk (hbox); have GW292 := Aside0.mk ((by rw [hg]; exact (below_size (by repeat (first | (with_reducible first | exact HB.out | apply below_alloc | apply pw_below_drewN | apply below_drew1 | refine below_set ?_ (IsS127.ge HI287.out) | refine below_set ?_ GE284.out) | exact HB.out))) : w.heap.size ≤ gb292)); have GE292 := Aside0.mk ((by rw [hg]; exact (below_size (by repeat (first | (with_reducible first | exact HB.out | apply below_alloc | apply pw_below_drewN | apply below_drew1 | refine below_set ?_ (IsS127.ge HI287.out) | refine below_set ?_ GE284.out) | exact HB.out))) : w.heap.size ≤ gb292)); replace HB := Aside0.mk (below_step (by repeat (first | (with_reducible first | exact HB.out | apply below_alloc | apply pw_below_drewN | apply below_drew1 | refine below_set ?_ (IsS127.ge HI287.out) | refine below_set ?_ GE284.out) | exact HB.out)) hb); have NB284_292 := nb BK284 hg; have NB292_284 := nc BK284 hg; replace BK284 := bk BK284 hb; have NB287_292 := Aside0.mk ((by rw [hg]; exact Nat.ne_of_lt (IsS127.lt (show IsS127 w _ g287 t285 t291 from by repeat (first | (with_reducible first | exact HI287.out | apply IsS127.alloc | apply IsS127.drewN | apply IsS127.drew | apply IsS127.set_1 | refine IsS127.far ?_ NB287_284.out _) | exact HI287.out))) : g287 ≠ gb292)); have NB292_287 := Aside0.mk ((by rw [hg]; exact Nat.ne_of_gt (IsS127.lt (show IsS127 w _ g287 t285 t291 from by repeat (first | (with_reducible first | exact HI287.out | apply IsS127.alloc | apply IsS127.drewN | apply IsS127.drew | apply IsS127.set_1 | refine IsS127.far ?_ NB287_284.out _) | exact HI287.out))) : gb292 ≠ g287)); replace HI287 := Aside0.mk (IsS127.below (by repeat (first | (with_reducible first | exact HI287.out | apply IsS127.alloc | apply IsS127.drewN | apply IsS127.drew | apply IsS127.set_1 | refine IsS127.far ?_ NB287_284.out _) | exact HI287.out)) hb); clear hb hbox hg; obtain ⟨Ao14, co14, eo14⟩ := Kd.R_slice HO290.out; subst eo14; have hnb15 := NB292_284.out; have hnc15 := NB284_292.out; have hnb16 := NB292_287.out; have hnc16 := NB287_292.out; have hcz17_0 : w13.cell? ⟨gb292, 0, none⟩ = some (.slice none 0 0) := (blk_cell BK292.out 0).trans rfl; have hfz17_0 := blk_frozen BK292.out 0))
  have n0_ : Aside0 (Kd.R (Kd.int .u8) 5 (w13.setCell ⟨gb292, 0, none⟩ (.slice Ao14 t288.length co14)) w.heap.size (fun _ => True) (.slice Ao14 t288.length co14) t288) := ⟨by (with_reducible repeat (first | apply Kd.R_alloc | apply Kd.R_drewN | apply Kd.R_drew)); exact Kd.R_mono (Kd.R_far (p := ⟨gb292, 0, none⟩) (Kd.R_types HO290.out BK292.out (by decide)) (fun _ hk => hk.2) (.slice Ao14 t288.length co14)) (fun _ hk => trivial)⟩
  have n1_ : Aside0 ((w13.setCell ⟨gb292, 0, none⟩ (.slice Ao14 t288.length co14)).heap[gb284]? = some (.cells #[.slice none 0 0] 45 (0, 0))) := ⟨by (with_reducible repeat (first | refine blk_drewN ?_ _ | refine blk_drew ?_ | refine blk_alloc ?_ _)); refine blk_far ?_ NB284_292.out _; (with_reducible repeat (first | refine blk_drewN ?_ _ | refine blk_drew ?_ | refine blk_alloc ?_ _)); exact BK284.out⟩
  have n2_ : Aside0 ((w13.setCell ⟨gb292, 0, none⟩ (.slice Ao14 t288.length co14)).heap[gb292]? = some (.cells #[.slice Ao14 t288.length co14] 45 (0, 0))) := ⟨by (with_reducible repeat (first | refine blk_drewN ?_ _ | refine blk_drew ?_ | refine blk_alloc ?_ _)); refine blk_put (cs := #[.slice none 0 0]) ?_ 0 _ rfl; (with_reducible repeat (first | refine blk_drewN ?_ _ | refine blk_drew ?_ | refine blk_alloc ?_ _)); exact BK292.out⟩
  have n3_ : Aside0 (IsS127 w (w13.setCell ⟨gb292, 0, none⟩ (.slice Ao14 t288.length co14)) g287 t285 t291) := ⟨by repeat (first | (with_reducible first | exact HI287.out | apply IsS127.alloc | apply IsS127.drewN | apply IsS127.drew | apply IsS127.set_1 | refine IsS127.far ?_ NB287_284.out _ | refine IsS127.far ?_ NB287_292.out _) | exact HI287.out)⟩
  have n4_ : Aside0 (Below w.heap.size w (w13.setCell ⟨gb292, 0, none⟩ (.slice Ao14 t288.length co14))) := ⟨by repeat (first | (with_reducible first | exact HB.out | apply below_alloc | apply pw_below_drewN | apply below_drew1 | refine below_set ?_ (IsS127.ge HI287.out) | refine below_set ?_ GE284.out | refine below_set ?_ GE292.out) | exact HB.out)⟩
  (try clear HO290)
  (try clear BK284)
  (try clear BK292)
  (try clear HI287)
  (try clear HB)
  generalize (w13.setCell ⟨gb292, 0, none⟩ (.slice Ao14 t288.length co14)) = w18 at n0_ n1_ n2_ n3_ n4_ ⊢
  have HO290 := n0_
  have BK284 := n1_
  have BK292 := n2_
  have HI287 := n3_
  have HB := n4_
  clear n0_ n1_ n2_ n3_ n4_
  replace HO290 := Aside0.mk (Kd.R_drew HO290.out)
  replace BK284 := Aside0.mk (blk_drew BK284.out)
  replace BK292 := Aside0.mk (blk_drew BK292.out)
  replace HI287 := Aside0.mk (IsS127.drew HI287.out)
  replace HB := Aside0.mk (below_drew1 HB.out)
  refine start_ (n := 25) (S := fun w' => w'.cell? ⟨gb292, 0, none⟩ = some (.slice Ao14 t288.length co14)) (ds := []) #[false, false, false, false, false, false, false, false, false, false, false, false, false, false, false, false, false, false, false, false, false, false, false, false, false] (by kernel_rfl) rfl rfl ((blk_cell BK292.out 0).trans rfl) (fun hHeld => ?_); refine with_tabW spec_DrawReadPart.tab3 spec_DrawReadPart.bits3 (fun HT_ HW_ => ?_)
  generalize w18.drew = w19 at HO290 BK284 BK292 HI287 HB hHeld ⊢
  refine pure_ (i := 1) (N := some 13) (v := ?_) (a' := ?_) #[false, true, false, false, false, false, false, false, false, false, false, false, false, false, false, false, false, false, false, false, false, false, false, false, false] rfl rfl (any_of HT_.out (by kernel_rfl)) (fun _ _ _ h => h) (Or.inl ⟨by rfl, ?_⟩) ?_ ?_
  rotate_left; (intro w'; go_simp; with_reducible rfl); rotate_left; (simp only [Act.put, List.setIfInBounds_toArray, List.set_cons_zero, List.set_cons_succ, i64_w, i32_w]; rfl)
  refine pure_ (i := 2) (N := some 14) (v := ?_) (a' := ?_) #[false, true, true, false, false, false, false, false, false, false, false, false, false, false, false, false, false, false, false, false, false, false, false, false, false] rfl rfl (any_of HT_.out (by kernel_rfl)) (fun _ _ _ h => h) (Or.inl ⟨by rfl, ?_⟩) ?_ ?_
  rotate_left; (intro w'; go_simp; with_reducible rfl); rotate_left; (simp only [Act.put, List.setIfInBounds_toArray, List.set_cons_zero, List.set_cons_succ, i64_w, i32_w]; rfl)
  refine pure_ (i := 8) (N := some 20) (v := ?_) (a' := ?_) #[false, true, true, false, false, false, false, false, true, false, false, false, false, false, false, false, false, false, false, false, false, false, false, false, false] rfl rfl (any_of HT_.out (by kernel_rfl)) (fun _ _ _ h => h) (Or.inl ⟨by rfl, ?_⟩) ?_ ?_
  rotate_left; (intro w'; go_simp; with_reducible rfl); rotate_left; (simp only [Act.put, List.setIfInBounds_toArray, List.set_cons_zero, List.set_cons_succ, i64_w, i32_w]; rfl)
  refine pure_ (i := 9) (N := some 21) (v := ?_) (a' := ?_) #[false, true, true, false, false, false, false, false, true, true, false, false, false, false, false, false, false, false, false, false, false, false, false, false, false] rfl rfl (any_of HT_.out (by kernel_rfl)) (fun _ _ _ h => h) (Or.inl ⟨by rfl, ?_⟩) ?_ ?_
  rotate_left; (intro w'; go_simp; with_reducible rfl); rotate_left; (simp only [Act.put, List.setIfInBounds_toArray, List.set_cons_zero, List.set_cons_succ, i64_w, i32_w]; rfl)
  refine pure_ (i := 11) (N := some 23) (v := ?_) (a' := ?_) #[false, true, true, false, false, false, false, false, true, true, false, true, false, false, false, false, false, false, false, false, false, false, false, false, false] rfl rfl (any_of HT_.out (by kernel_rfl)) (fun _ _ _ h => h) (Or.inl ⟨by rfl, ?_⟩) ?_ ?_
  rotate_left; (intro w'; go_simp; with_reducible rfl); rotate_left; (simp only [Act.put, List.setIfInBounds_toArray, List.set_cons_zero, List.set_cons_succ, i64_w, i32_w]; rfl)
  refine pure_ (i := 15) (N := some 27) (v := ?_) (a' := ?_) #[false, true, true, false, false, false, false, false, true, true, false, true, false, false, false, true, false, false, false, false, false, false, false, false, false] rfl rfl (any_of HT_.out (by kernel_rfl)) (fun _ _ _ h => h) (Or.inl ⟨by rfl, ?_⟩) ?_ ?_
  rotate_left; (intro w'; go_simp; with_reducible rfl); rotate_left; (simp only [Act.put, List.setIfInBounds_toArray, List.set_cons_zero, List.set_cons_succ, i64_w, i32_w]; rfl)
  refine pure_ (i := 16) (N := some 28) (v := ?_) (a' := ?_) #[false, true, true, false, false, false, false, false, true, true, false, true, false, false, false, true, true, false, false, false, false, false, false, false, false] rfl rfl (any_of HT_.out (by kernel_rfl)) (fun _ _ _ h => h) (Or.inl ⟨by rfl, ?_⟩) ?_ ?_
  rotate_left; (intro w'; go_simp; with_reducible rfl); rotate_left; (simp only [Act.put, List.setIfInBounds_toArray, List.set_cons_zero, List.set_cons_succ, i64_w, i32_w]; rfl)
  refine take_ (i := 0) (N := some 12) (v := ?_) (a' := ?_) #[true, true, true, false, false, false, false, false, true, true, false, true, false, false, false, true, true, false, false, false, false, false, false, false, false] rfl rfl (take_ofW HT_.out HW_.out (by kernel_rfl)) (fun _ _ _ h => h) (Or.inl ⟨by rfl, ?_⟩) hHeld ?_ ?_
  rotate_left
  · intro w' s0
    go_simp
    with_reducible rfl
  rotate_left
  · simp only [Act.put, List.setIfInBounds_toArray, List.set_cons_zero, List.set_cons_succ, i64_w, i32_w]
    rfl
  refine take_ (i := 3) (N := some 15) (v := ?_) (a' := ?_) #[true, true, true, true, false, false, false, false, true, true, false, true, false, false, false, true, true, false, false, false, false, false, false, false, false] rfl rfl (take_ofW HT_.out HW_.out (by kernel_rfl)) (fun _ _ _ h => h) (Or.inl ⟨by rfl, ?_⟩) hHeld ?_ ?_
  rotate_left
  · intro w' s0
    go_simp
    with_reducible rfl
  rotate_left
  · simp only [Act.put, List.setIfInBounds_toArray, List.set_cons_zero, List.set_cons_succ, i64_w, i32_w]
    rfl
  refine pure_ (i := 4) (N := some 16) (v := ?_) (a' := ?_) #[true, true, true, true, true, false, false, false, true, true, false, true, false, false, false, true, true, false, false, false, false, false, false, false, false] rfl rfl (any_of HT_.out (by kernel_rfl)) (fun _ _ _ h => h) (Or.inl ⟨by rfl, ?_⟩) ?_ ?_
  rotate_left; (intro w'; go_simp; with_reducible rfl); rotate_left; (simp only [Act.put, List.setIfInBounds_toArray, List.set_cons_zero, List.set_cons_succ, i64_w, i32_w]; rfl)
  refine pure_ (i := 5) (N := some 17) (v := ?_) (a' := ?_) #[true, true, true, true, true, true, false, false, true, true, false, true, false, false, false, true, true, false, false, false, false, false, false, false, false] rfl rfl (any_of HT_.out (by kernel_rfl)) (fun _ _ _ h => h) (Or.inl ⟨by rfl, ?_⟩) ?_ ?_
  rotate_left; (intro w'; go_simp; with_reducible rfl); rotate_left; (simp only [Act.put, List.setIfInBounds_toArray, List.set_cons_zero, List.set_cons_succ, i64_w, i32_w]; rfl)
  refine one_ (i := 6) (N := some 18) #[true, true, true, true, true, true, true, false, true, true, false, true, false, false, false, true, true, false, false, false, false, false, false, false, false] rfl rfl (one_of HT_.out (by kernel_rfl)) (by decide) (fun K hK => ?_)
  refine goes_ Try.func85 (by kernel_rfl) rfl #[.pointer (some ⟨g287, 0, none⟩), .int .i64 (wrap64 ((t288.length : Int) + 5))] (by rfl) rfl rfl (by (try simp only [List.map_toArray, List.map_cons, List.map_nil]); first | done | rfl | (simp only [List.length_drop, List.length_take]; rfl)) ?_
  with_reducible refine (spec_l1Next.calls g287 t285 t291 (wrap64 ((t288.length : Int) + 5)) t293 t294 w _ ?side1 ?side2 A4.out).mono ?_
  (case side1 => repeat (first | (with_reducible first | exact HI287.out | apply IsS127.alloc | apply IsS127.drewN | apply IsS127.drew | apply IsS127.set_1 | refine IsS127.far ?_ NB287_284.out _ | refine IsS127.far ?_ NB287_292.out _) | exact HI287.out))
  (case side2 => repeat (first | (with_reducible first | exact HB.out | apply below_alloc | apply pw_below_drewN | apply below_drew1 | refine below_set ?_ (IsS127.ge HI287.out) | refine below_set ?_ GE284.out | refine below_set ?_ GE292.out) | exact HB.out))
  rintro e w20 ⟨rfl, hi, hb, hk⟩
  refine ⟨_, rfl, ?_⟩
  replace BK284 := Aside0.mk (KeepBut.blk hk (g' := gb284) (o := .cells #[.slice none 0 0] 45 (0, 0)) (by (with_reducible repeat (first | refine blk_drewN ?_ _ | refine blk_drew ?_ | refine blk_alloc ?_ _)); exact BK284.out) NB284_287.out (by simp))
  replace HO290 := Aside0.mk (Kd.R_mono (Kd.R_keep (IsS127.apart (show IsS127 w _ g287 t285 t291 from by repeat (first | (with_reducible first | exact HI287.out | apply IsS127.alloc | apply IsS127.drewN | apply IsS127.drew | apply IsS127.set_1 | refine IsS127.far ?_ NB287_284.out _ | refine IsS127.far ?_ NB287_292.out _) | exact HI287.out)) (by (with_reducible repeat (first | apply Kd.R_alloc | apply Kd.R_drewN | apply Kd.R_drew)); exact HO290.out) (by decide)) hk (fun _ h => h.2)) (fun _ h => h.1))
  replace BK292 := Aside0.mk (KeepBut.blk hk (g' := gb292) (o := .cells #[.slice Ao14 t288.length co14] 45 (0, 0)) (by (with_reducible repeat (first | refine blk_drewN ?_ _ | refine blk_drew ?_ | refine blk_alloc ?_ _)); exact BK292.out) NB292_287.out (by simp))
  replace HB := Aside0.mk (hb)
  replace HI287 := Aside0.mk (hi)
  (try clear hb)
  (try clear hb2)
  (try clear hk)
  (try clear hi)
  refine hK.out _ _ ((blk_cell BK292.out 0).trans rfl) (fun hHeld => ?_)
  clear hK K
  refine norm_ (a' := ?_) ?_ ?_
  rotate_left
  · show Act.put _ (some 18) _ = _
    simp only [Act.put, List.setIfInBounds_toArray, List.set_cons_zero, List.set_cons_succ, i64_w, i32_w]
    rfl
  refine pure_ (i := 7) (N := some 19) (v := ?_) (a' := ?_) #[true, true, true, true, true, true, true, true, true, true, false, true, false, false, false, true, true, false, false, false, false, false, false, false, false] rfl rfl (any_of HT_.out (by kernel_rfl)) (fun _ _ _ h => h) (Or.inl ⟨by rfl, ?_⟩) ?_ ?_
  rotate_left; (intro w'; go_simp; with_reducible rfl); rotate_left; (simp only [Act.put, List.setIfInBounds_toArray, List.set_cons_zero, List.set_cons_succ, i64_w, i32_w]; rfl)
  refine one_ (i := 10) (N := some 22) #[true, true, true, true, true, true, true, true, true, true, true, true, false, false, false, true, true, false, false, false, false, false, false, false, false] rfl rfl (one_of HT_.out (by kernel_rfl)) (by decide) (fun K hK => ?_)
  refine goes_ Try.func85 (by kernel_rfl) rfl #[.pointer (some ⟨g287, 0, none⟩), .int .i64 20] (by rfl) rfl rfl (by (try simp only [List.map_toArray, List.map_cons, List.map_nil]); first | done | rfl | (simp only [List.length_drop, List.length_take]; rfl)) ?_
  with_reducible refine (spec_l1Next.calls g287 t285 t294 20 t295 t296 w _ ?side1 ?side2 A5.out).mono ?_
  (case side1 => repeat (first | (with_reducible first | exact HI287.out | apply IsS127.alloc | apply IsS127.drewN | apply IsS127.drew | apply IsS127.set_1 | refine IsS127.far ?_ NB287_284.out _ | refine IsS127.far ?_ NB287_292.out _) | exact HI287.out))
  (case side2 => repeat (first | (with_reducible first | exact HB.out | apply below_alloc | apply pw_below_drewN | apply below_drew1 | refine below_set ?_ (IsS127.ge HI287.out) | refine below_set ?_ GE284.out | refine below_set ?_ GE292.out) | exact HB.out))
  rintro e w21 ⟨rfl, hi, hb, hk⟩
  refine ⟨_, rfl, ?_⟩
  replace BK284 := Aside0.mk (KeepBut.blk hk (g' := gb284) (o := .cells #[.slice none 0 0] 45 (0, 0)) (by (with_reducible repeat (first | refine blk_drewN ?_ _ | refine blk_drew ?_ | refine blk_alloc ?_ _)); exact BK284.out) NB284_287.out (by simp))
  replace HO290 := Aside0.mk (Kd.R_mono (Kd.R_keep (IsS127.apart (show IsS127 w _ g287 t285 t294 from by repeat (first | (with_reducible first | exact HI287.out | apply IsS127.alloc | apply IsS127.drewN | apply IsS127.drew | apply IsS127.set_1 | refine IsS127.far ?_ NB287_284.out _ | refine IsS127.far ?_ NB287_292.out _) | exact HI287.out)) (by (with_reducible repeat (first | apply Kd.R_alloc | apply Kd.R_drewN | apply Kd.R_drew)); exact HO290.out) (by decide)) hk (fun _ h => h.2)) (fun _ h => h.1))
  replace BK292 := Aside0.mk (KeepBut.blk hk (g' := gb292) (o := .cells #[.slice Ao14 t288.length co14] 45 (0, 0)) (by (with_reducible repeat (first | refine blk_drewN ?_ _ | refine blk_drew ?_ | refine blk_alloc ?_ _)); exact BK292.out) NB292_287.out (by simp))
  replace HB := Aside0.mk (hb)
  replace HI287 := Aside0.mk (hi)
  (try clear hb)
  (try clear hb2)
  (try clear hk)
  (try clear hi)
  refine hK.out _ _ ((blk_cell BK292.out 0).trans rfl) (fun hHeld => ?_)
  clear hK K
  refine norm_ (a' := ?_) ?_ ?_
  rotate_left
  · show Act.put _ (some 22) _ = _
    simp only [Act.put, List.setIfInBounds_toArray, List.set_cons_zero, List.set_cons_succ, i64_w, i32_w]
    rfl
  refine one_ (i := 12) (N := some 24) #[true, true, true, true, true, true, true, true, true, true, true, true, true, false, false, true, true, false, false, false, false, false, false, false, false] rfl rfl (one_of HT_.out (by kernel_rfl)) (by decide) (fun K hK => ?_)
  refine goes_ Try.func85 (by kernel_rfl) rfl #[.pointer (some ⟨g287, 0, none⟩), .int .i64 20] (by rfl) rfl rfl (by (try simp only [List.map_toArray, List.map_cons, List.map_nil]); first | done | rfl | (simp only [List.length_drop, List.length_take]; rfl)) ?_
  with_reducible refine (spec_l1Next.calls g287 t285 t296 20 t297 t298 w _ ?side1 ?side2 A6.out).mono ?_
  (case side1 => repeat (first | (with_reducible first | exact HI287.out | apply IsS127.alloc | apply IsS127.drewN | apply IsS127.drew | apply IsS127.set_1 | refine IsS127.far ?_ NB287_284.out _ | refine IsS127.far ?_ NB287_292.out _) | exact HI287.out))
  (case side2 => repeat (first | (with_reducible first | exact HB.out | apply below_alloc | apply pw_below_drewN | apply below_drew1 | refine below_set ?_ (IsS127.ge HI287.out) | refine below_set ?_ GE284.out | refine below_set ?_ GE292.out) | exact HB.out))
  rintro e w22 ⟨rfl, hi, hb, hk⟩
  refine ⟨_, rfl, ?_⟩
  replace BK284 := Aside0.mk (KeepBut.blk hk (g' := gb284) (o := .cells #[.slice none 0 0] 45 (0, 0)) (by (with_reducible repeat (first | refine blk_drewN ?_ _ | refine blk_drew ?_ | refine blk_alloc ?_ _)); exact BK284.out) NB284_287.out (by simp))
  replace HO290 := Aside0.mk (Kd.R_mono (Kd.R_keep (IsS127.apart (show IsS127 w _ g287 t285 t296 from by repeat (first | (with_reducible first | exact HI287.out | apply IsS127.alloc | apply IsS127.drewN | apply IsS127.drew | apply IsS127.set_1 | refine IsS127.far ?_ NB287_284.out _ | refine IsS127.far ?_ NB287_292.out _) | exact HI287.out)) (by (with_reducible repeat (first | apply Kd.R_alloc | apply Kd.R_drewN | apply Kd.R_drew)); exact HO290.out) (by decide)) hk (fun _ h => h.2)) (fun _ h => h.1))
  replace BK292 := Aside0.mk (KeepBut.blk hk (g' := gb292) (o := .cells #[.slice Ao14 t288.length co14] 45 (0, 0)) (by (with_reducible repeat (first | refine blk_drewN ?_ _ | refine blk_drew ?_ | refine blk_alloc ?_ _)); exact BK292.out) NB292_287.out (by simp))
  replace HB := Aside0.mk (hb)
  replace HI287 := Aside0.mk (hi)
  (try clear hb)
  (try clear hb2)
  (try clear hk)
  (try clear hi)
  refine hK.out _ _ ((blk_cell BK292.out 0).trans rfl) (fun hHeld => ?_)
  clear hK K
  refine norm_ (a' := ?_) ?_ ?_
  rotate_left
  · show Act.put _ (some 24) _ = _
    simp only [Act.put, List.setIfInBounds_toArray, List.set_cons_zero, List.set_cons_succ, i64_w, i32_w]
    rfl
  refine one_ (i := 13) (N := some 25) #[true, true, true, true, true, true, true, true, true, true, true, true, true, true, false, true, true, false, false, false, false, false, false, false, false] rfl rfl (one_of HT_.out (by kernel_rfl)) (by decide) (fun K hK => ?_)
  refine Kd.R_lit_step (Kd.int .i64) _ 2 ?hg (N := 25) ?hd (xs := ([t295, t297, 400, 401, (-1)] : List Int)) (inner := [.int .i64 t295, .int .i64 t297, .int .i64 400, .int .i64 401, .int .i64 (-1)]) (ok := fun _ => True) (okp := fun _ => True) ?hr ?hp (fun _ hk => hk) trivial (Below.refl _ _) (Nat.le_refl _) (by simp) ?_; (case hd => rfl); (case hg => rfl); (case hr => first | (go_simp; done) | (go_simp; rfl)); (case hp => exact (Reps.one (show Kd.M (Kd.int .i64) _ _ _ t295 [.int .i64 t295] from rfl) (Reps.one (show Kd.M (Kd.int .i64) _ _ _ t297 [.int .i64 t297] from rfl) (Reps.one (show Kd.M (Kd.int .i64) _ _ _ 400 [.int .i64 400] from rfl) (Reps.one (show Kd.M (Kd.int .i64) _ _ _ 401 [.int .i64 401] from rfl) (Reps.one (show Kd.M (Kd.int .i64) _ _ _ (-1) [.int .i64 (-1)] from rfl) (Reps.none _ _)))))))
  intro v300 w23 ho24 hb hg_ hnew_
  clear hg_ hnew_
  (first | rw [← Ny299.out] at ho24 | (simp only [Int.reduceToNat] at ho24; rw [← Ny299.out] at ho24))
  replace HO290 := rb HO290 hb
  have HO301 := Aside0.mk (Kd.R_lower ho24 (below_size (by repeat (first | (with_reducible first | exact HB.out | apply below_alloc | apply pw_below_drewN | apply below_drew1 | refine below_set ?_ (IsS127.ge HI287.out) | refine below_set ?_ GE284.out | refine below_set ?_ GE292.out) | exact HB.out))))
  replace BK284 := bk BK284 hb
  replace BK292 := bk BK292 hb
  replace HB := Aside0.mk (below_step (by repeat (first | (with_reducible first | exact HB.out | apply below_alloc | apply pw_below_drewN | apply below_drew1 | refine below_set ?_ (IsS127.ge HI287.out) | refine below_set ?_ GE284.out | refine below_set ?_ GE292.out) | exact HB.out)) hb)
  replace HI287 := Aside0.mk (IsS127.below (by repeat (first | (with_reducible first | exact HI287.out | apply IsS127.alloc | apply IsS127.drewN | apply IsS127.drew | apply IsS127.set_1 | refine IsS127.far ?_ NB287_284.out _ | refine IsS127.far ?_ NB287_292.out _) | exact HI287.out)) hb)
  clear hb ho24
  obtain ⟨Ao25, co25, eo25⟩ := Kd.R_slice HO301.out
  (first | subst eo25 | (injection eo25 with f1_ f2_ f3_; have f4_ := f1_.symm; have f5_ := f3_.symm; clear f1_ f2_ f3_; subst f4_; subst f5_))
  refine hK.out _ _ ((blk_cell BK292.out 0).trans rfl) (fun hHeld => ?_)
  clear hK K
  refine norm_ (a' := ?_) ?_ ?_
  rotate_left
  · show Act.put _ (some 25) _ = _
    simp only [Act.put, List.setIfInBounds_toArray, List.set_cons_zero, List.set_cons_succ, i64_w, i32_w]
    rfl
  refine one_ (i := 14) (N := some 26) #[true, true, true, true, true, true, true, true, true, true, true, true, true, true, true, true, true, false, false, false, false, false, false, false, false] rfl rfl (one_of HT_.out (by kernel_rfl)) (by decide) (fun K hK => ?_)
  refine goes_ Try.func87 (by kernel_rfl) rfl #[.pointer (some ⟨g287, 0, none⟩), .slice Ao25 y299.length co25] (by rfl) rfl rfl (by (try simp only [List.map_toArray, List.map_cons, List.map_nil]); first | done | rfl | (simp only [List.length_drop, List.length_take]; rfl)) ?_
  with_reducible refine (spec_l1Pick.calls g287 t285 t298 _ _ y299 t302 t303 w _ ?side1 ?side2 ?side3 ?side4 ?side5 A7.out).mono ?_
  (case side1 => repeat (first | (with_reducible first | exact HI287.out | apply IsS127.alloc | apply IsS127.drewN | apply IsS127.drew | apply IsS127.set_1 | refine IsS127.far ?_ NB287_284.out _ | refine IsS127.far ?_ NB287_292.out _) | exact HI287.out))
  (case side2 => repeat (first | (with_reducible first | exact HB.out | apply below_alloc | apply pw_below_drewN | apply below_drew1 | refine below_set ?_ (IsS127.ge HI287.out) | refine below_set ?_ GE284.out | refine below_set ?_ GE292.out) | exact HB.out))
  (case side3 => repeat (first | exact (Kd.R_reads' HO301.out).2.2 | (with_reducible refine Kd.C_alloc ?_ _) | (with_reducible refine Kd.C_drewN ?_ _) | (with_reducible refine Kd.C_drew ?_)))
  (case side4 => exact (Kd.R_reads' HO301.out).2.1)
  (case side5 => exact far_slice (IsS127.own_ne HI287.out HO301.out (by decide)))
  rintro e w26 ⟨rfl, hi, hb, hk⟩
  refine ⟨_, rfl, ?_⟩
  replace BK284 := Aside0.mk (KeepBut.blk hk (g' := gb284) (o := .cells #[.slice none 0 0] 45 (0, 0)) (by (with_reducible repeat (first | refine blk_drewN ?_ _ | refine blk_drew ?_ | refine blk_alloc ?_ _)); exact BK284.out) NB284_287.out (by simp))
  replace HO290 := Aside0.mk (Kd.R_mono (Kd.R_keep (IsS127.apart (show IsS127 w _ g287 t285 t298 from by repeat (first | (with_reducible first | exact HI287.out | apply IsS127.alloc | apply IsS127.drewN | apply IsS127.drew | apply IsS127.set_1 | refine IsS127.far ?_ NB287_284.out _ | refine IsS127.far ?_ NB287_292.out _) | exact HI287.out)) (by (with_reducible repeat (first | apply Kd.R_alloc | apply Kd.R_drewN | apply Kd.R_drew)); exact HO290.out) (by decide)) hk (fun _ h => h.2)) (fun _ h => h.1))
  replace BK292 := Aside0.mk (KeepBut.blk hk (g' := gb292) (o := .cells #[.slice Ao14 t288.length co14] 45 (0, 0)) (by (with_reducible repeat (first | refine blk_drewN ?_ _ | refine blk_drew ?_ | refine blk_alloc ?_ _)); exact BK292.out) NB292_287.out (by simp))
  replace HO301 := Aside0.mk (Kd.R_mono (Kd.R_keep (IsS127.apart (show IsS127 w _ g287 t285 t298 from by repeat (first | (with_reducible first | exact HI287.out | apply IsS127.alloc | apply IsS127.drewN | apply IsS127.drew | apply IsS127.set_1 | refine IsS127.far ?_ NB287_284.out _ | refine IsS127.far ?_ NB287_292.out _) | exact HI287.out)) (by (with_reducible repeat (first | apply Kd.R_alloc | apply Kd.R_drewN | apply Kd.R_drew)); exact HO301.out) (by decide)) hk (fun _ h => h.2)) (fun _ h => h.1))
  replace HB := Aside0.mk (hb)
  replace HI287 := Aside0.mk (hi)
  (try clear hb)
  (try clear hb2)
  (try clear hk)
  (try clear hi)
  refine hK.out _ _ ((blk_cell BK292.out 0).trans rfl) (fun hHeld => ?_)
  clear hK K
  refine norm_ (a' := ?_) ?_ ?_
  rotate_left
  · show Act.put _ (some 26) _ = _
    simp only [Act.put, List.setIfInBounds_toArray, List.set_cons_zero, List.set_cons_succ, i64_w, i32_w]
    rfl
  refine one_ (i := 17) (N := some 29) #[true, true, true, true, true, true, true, true, true, true, true, true, true, true, true, true, true, true, false, false, false, false, false, false, false] rfl rfl (one_of HT_.out (by kernel_rfl)) (by decide) (fun K hK => ?_)
  refine goes_ Try.func85 (by kernel_rfl) rfl #[.pointer (some ⟨g287, 0, none⟩), .int .i64 9] (by rfl) rfl rfl (by (try simp only [List.map_toArray, List.map_cons, List.map_nil]); first | done | rfl | (simp only [List.length_drop, List.length_take]; rfl)) ?_
  with_reducible refine (spec_l1Next.calls g287 t285 t303 9 t304 t305 w _ ?side1 ?side2 A8.out).mono ?_
  (case side1 => repeat (first | (with_reducible first | exact HI287.out | apply IsS127.alloc | apply IsS127.drewN | apply IsS127.drew | apply IsS127.set_1 | refine IsS127.far ?_ NB287_284.out _ | refine IsS127.far ?_ NB287_292.out _) | exact HI287.out))
  (case side2 => repeat (first | (with_reducible first | exact HB.out | apply below_alloc | apply pw_below_drewN | apply below_drew1 | refine below_set ?_ (IsS127.ge HI287.out) | refine below_set ?_ GE284.out | refine below_set ?_ GE292.out) | exact HB.out))
  rintro e w27 ⟨rfl, hi, hb, hk⟩
  refine ⟨_, rfl, ?_⟩
  replace BK284 := Aside0.mk (KeepBut.blk hk (g' := gb284) (o := .cells #[.slice none 0 0] 45 (0, 0)) (by (with_reducible repeat (first | refine blk_drewN ?_ _ | refine blk_drew ?_ | refine blk_alloc ?_ _)); exact BK284.out) NB284_287.out (by simp))
  replace HO290 := Aside0.mk (Kd.R_mono (Kd.R_keep (IsS127.apart (show IsS127 w _ g287 t285 t303 from by repeat (first | (with_reducible first | exact HI287.out | apply IsS127.alloc | apply IsS127.drewN | apply IsS127.drew | apply IsS127.set_1 | refine IsS127.far ?_ NB287_284.out _ | refine IsS127.far ?_ NB287_292.out _) | exact HI287.out)) (by (with_reducible repeat (first | apply Kd.R_alloc | apply Kd.R_drewN | apply Kd.R_drew)); exact HO290.out) (by decide)) hk (fun _ h => h.2)) (fun _ h => h.1))
  replace BK292 := Aside0.mk (KeepBut.blk hk (g' := gb292) (o := .cells #[.slice Ao14 t288.length co14] 45 (0, 0)) (by (with_reducible repeat (first | refine blk_drewN ?_ _ | refine blk_drew ?_ | refine blk_alloc ?_ _)); exact BK292.out) NB292_287.out (by simp))
  replace HO301 := Aside0.mk (Kd.R_mono (Kd.R_keep (IsS127.apart (show IsS127 w _ g287 t285 t303 from by repeat (first | (with_reducible first | exact HI287.out | apply IsS127.alloc | apply IsS127.drewN | apply IsS127.drew | apply IsS127.set_1 | refine IsS127.far ?_ NB287_284.out _ | refine IsS127.far ?_ NB287_292.out _) | exact HI287.out)) (by (with_reducible repeat (first | apply Kd.R_alloc | apply Kd.R_drewN | apply Kd.R_drew)); exact HO301.out) (by decide)) hk (fun _ h => h.2)) (fun _ h => h.1))
  replace HB := Aside0.mk (hb)
  replace HI287 := Aside0.mk (hi)
  (try clear hb)
  (try clear hb2)
  (try clear hk)
  (try clear hi)
  refine hK.out _ _ ((blk_cell BK292.out 0).trans rfl) (fun hHeld => ?_)
  clear hK K
  refine norm_ (a' := ?_) ?_ ?_
  rotate_left
  · show Act.put _ (some 29) _ = _
    simp only [Act.put, List.setIfInBounds_toArray, List.set_cons_zero, List.set_cons_succ, i64_w, i32_w]
    rfl
  refine pure_ (i := 18) (N := some 30) (v := ?_) (a' := ?_) #[true, true, true, true, true, true, true, true, true, true, true, true, true, true, true, true, true, true, true, false, false, false, false, false, false] rfl rfl (any_of HT_.out (by kernel_rfl)) (fun _ _ _ h => h) (Or.inl ⟨by rfl, ?_⟩) ?_ ?_
  rotate_left; (intro w'; go_simp; with_reducible rfl); rotate_left; (simp only [Act.put, List.setIfInBounds_toArray, List.set_cons_zero, List.set_cons_succ, i64_w, i32_w]; rfl)
  refine one_ (i := 19) (N := some 31) #[true, true, true, true, true, true, true, true, true, true, true, true, true, true, true, true, true, true, true, true, false, false, false, false, false] rfl rfl (one_of HT_.out (by kernel_rfl)) (by decide) (fun K hK => ?_)
  refine Kd.R_lit_step (Kd.int .i64) _ 2 ?hg (N := 31) ?hd (xs := ([wrap64 (1 + t304), 400, 0] : List Int)) (inner := [.int .i64 (wrap64 (1 + t304)), .int .i64 400, .int .i64 0]) (ok := fun _ => True) (okp := fun _ => True) ?hr ?hp (fun _ hk => hk) trivial (Below.refl _ _) (Nat.le_refl _) (by simp) ?_; (case hd => rfl); (case hg => rfl); (case hr => first | (go_simp; done) | (go_simp; rfl)); (case hp => exact (Reps.one (show Kd.M (Kd.int .i64) _ _ _ (wrap64 (1 + t304)) [.int .i64 (wrap64 (1 + t304))] from rfl) (Reps.one (show Kd.M (Kd.int .i64) _ _ _ 400 [.int .i64 400] from rfl) (Reps.one (show Kd.M (Kd.int .i64) _ _ _ 0 [.int .i64 0] from rfl) (Reps.none _ _)))))
  intro v307 w28 ho29 hb hg_ hnew_
  clear hg_ hnew_
  (first | rw [← Ny306.out] at ho29 | (simp only [Int.reduceToNat] at ho29; rw [← Ny306.out] at ho29))
  replace HO290 := rb HO290 hb
  have HO308 := Aside0.mk (Kd.R_lower (Kd.R_new' ho29 (Kd.R_lt (by (with_reducible repeat (first | apply Kd.R_alloc | apply Kd.R_drewN | apply Kd.R_drew)); exact HO301.out))) (below_size (by repeat (first | (with_reducible first | exact HB.out | apply below_alloc | apply pw_below_drewN | apply below_drew1 | refine below_set ?_ (IsS127.ge HI287.out) | refine below_set ?_ GE284.out | refine below_set ?_ GE292.out) | exact HB.out))))
  replace HO301 := Aside0.mk (Kd.R_elder' (by (with_reducible repeat (first | apply Kd.R_alloc | apply Kd.R_drewN | apply Kd.R_drew)); exact HO301.out) (Kd.R_base ho29) hb)
  replace BK284 := bk BK284 hb
  replace BK292 := bk BK292 hb
  replace HB := Aside0.mk (below_step (by repeat (first | (with_reducible first | exact HB.out | apply below_alloc | apply pw_below_drewN | apply below_drew1 | refine below_set ?_ (IsS127.ge HI287.out) | refine below_set ?_ GE284.out | refine below_set ?_ GE292.out) | exact HB.out)) hb)
  replace HI287 := Aside0.mk (IsS127.below (by repeat (first | (with_reducible first | exact HI287.out | apply IsS127.alloc | apply IsS127.drewN | apply IsS127.drew | apply IsS127.set_1 | refine IsS127.far ?_ NB287_284.out _ | refine IsS127.far ?_ NB287_292.out _) | exact HI287.out)) hb)
  clear hb ho29
  obtain ⟨Ao30, co30, eo30⟩ := Kd.R_slice HO308.out
  (first | subst eo30 | (injection eo30 with f1_ f2_ f3_; have f4_ := f1_.symm; have f5_ := f3_.symm; clear f1_ f2_ f3_; subst f4_; subst f5_))
  refine hK.out _ _ ((blk_cell BK292.out 0).trans rfl) (fun hHeld => ?_)
  clear hK K
  refine norm_ (a' := ?_) ?_ ?_
  rotate_left
  · show Act.put _ (some 31) _ = _
    simp only [Act.put, List.setIfInBounds_toArray, List.set_cons_zero, List.set_cons_succ, i64_w, i32_w]
    rfl
  refine one_ (i := 20) (N := some 32) #[true, true, true, true, true, true, true, true, true, true, true, true, true, true, true, true, true, true, true, true, true, false, false, false, false] rfl rfl (one_of HT_.out (by kernel_rfl)) (by decide) (fun K hK => ?_)
  refine goes_ Try.func87 (by kernel_rfl) rfl #[.pointer (some ⟨g287, 0, none⟩), .slice Ao30 y306.length co30] (by rfl) rfl rfl (by (try simp only [List.map_toArray, List.map_cons, List.map_nil]); first | done | rfl | (simp only [List.length_drop, List.length_take]; rfl)) ?_
  with_reducible refine (spec_l1Pick.calls g287 t285 t305 _ _ y306 t309 t310 w _ ?side1 ?side2 ?side3 ?side4 ?side5 A9.out).mono ?_
  (case side1 => repeat (first | (with_reducible first | exact HI287.out | apply IsS127.alloc | apply IsS127.drewN | apply IsS127.drew | apply IsS127.set_1 | refine IsS127.far ?_ NB287_284.out _ | refine IsS127.far ?_ NB287_292.out _) | exact HI287.out))
  (case side2 => repeat (first | (with_reducible first | exact HB.out | apply below_alloc | apply pw_below_drewN | apply below_drew1 | refine below_set ?_ (IsS127.ge HI287.out) | refine below_set ?_ GE284.out | refine below_set ?_ GE292.out) | exact HB.out))
  (case side3 => repeat (first | exact (Kd.R_reads' HO308.out).2.2 | (with_reducible refine Kd.C_alloc ?_ _) | (with_reducible refine Kd.C_drewN ?_ _) | (with_reducible refine Kd.C_drew ?_)))
  (case side4 => exact (Kd.R_reads' HO308.out).2.1)
  (case side5 => exact far_slice (IsS127.own_ne HI287.out HO308.out (by decide)))
  rintro e w31 ⟨rfl, hi, hb, hk⟩
  refine ⟨_, rfl, ?_⟩
  replace BK284 := Aside0.mk (KeepBut.blk hk (g' := gb284) (o := .cells #[.slice none 0 0] 45 (0, 0)) (by (with_reducible repeat (first | refine blk_drewN ?_ _ | refine blk_drew ?_ | refine blk_alloc ?_ _)); exact BK284.out) NB284_287.out (by simp))
  replace HO290 := Aside0.mk (Kd.R_mono (Kd.R_keep (IsS127.apart (show IsS127 w _ g287 t285 t305 from by repeat (first | (with_reducible first | exact HI287.out | apply IsS127.alloc | apply IsS127.drewN | apply IsS127.drew | apply IsS127.set_1 | refine IsS127.far ?_ NB287_284.out _ | refine IsS127.far ?_ NB287_292.out _) | exact HI287.out)) (by (with_reducible repeat (first | apply Kd.R_alloc | apply Kd.R_drewN | apply Kd.R_drew)); exact HO290.out) (by decide)) hk (fun _ h => h.2)) (fun _ h => h.1))
  replace BK292 := Aside0.mk (KeepBut.blk hk (g' := gb292) (o := .cells #[.slice Ao14 t288.length co14] 45 (0, 0)) (by (with_reducible repeat (first | refine blk_drewN ?_ _ | refine blk_drew ?_ | refine blk_alloc ?_ _)); exact BK292.out) NB292_287.out (by simp))
  replace HO301 := Aside0.mk (Kd.R_mono (Kd.R_keep (IsS127.apart (show IsS127 w _ g287 t285 t305 from by repeat (first | (with_reducible first | exact HI287.out | apply IsS127.alloc | apply IsS127.drewN | apply IsS127.drew | apply IsS127.set_1 | refine IsS127.far ?_ NB287_284.out _ | refine IsS127.far ?_ NB287_292.out _) | exact HI287.out)) (by (with_reducible repeat (first | apply Kd.R_alloc | apply Kd.R_drewN | apply Kd.R_drew)); exact HO301.out) (by decide)) hk (fun _ h => h.2)) (fun _ h => h.1))
  replace HO308 := Aside0.mk (Kd.R_mono (Kd.R_keep (IsS127.apart (show IsS127 w _ g287 t285 t305 from by repeat (first | (with_reducible first | exact HI287.out | apply IsS127.alloc | apply IsS127.drewN | apply IsS127.drew | apply IsS127.set_1 | refine IsS127.far ?_ NB287_284.out _ | refine IsS127.far ?_ NB287_292.out _) | exact HI287.out)) (by (with_reducible repeat (first | apply Kd.R_alloc | apply Kd.R_drewN | apply Kd.R_drew)); exact HO308.out) (by decide)) hk (fun _ h => h.2)) (fun _ h => h.1))
  replace HB := Aside0.mk (hb)
  replace HI287 := Aside0.mk (hi)
  (try clear hb)
  (try clear hb2)
  (try clear hk)
  (try clear hi)
  refine hK.out _ _ ((blk_cell BK292.out 0).trans rfl) (fun hHeld => ?_)
  clear hK K
  refine norm_ (a' := ?_) ?_ ?_
  rotate_left
  · show Act.put _ (some 32) _ = _
    simp only [Act.put, List.setIfInBounds_toArray, List.set_cons_zero, List.set_cons_succ, i64_w, i32_w]
    rfl
  refine one_ (i := 21) (N := none) #[true, true, true, true, true, true, true, true, true, true, true, true, true, true, true, true, true, true, true, true, true, true, false, false, false] rfl rfl (one_of HT_.out (by kernel_rfl)) (by decide) (fun K hK => ?_)
  have hs32 : w31.cell? ⟨gb284, 0, none⟩ = some (.slice none 0 0) := (blk_cell BK284.out 0).trans rfl
  have hfs32 := blk_frozen BK284.out 0
  have hns32_1 := NB292_284.out
  have hms32_1 := NB284_292.out
  refine skip_ (w1 := ?_) (by rfl) rfl ?_ ?_
  rotate_left
  · go_simp
    rfl
  refine hK.out _ _ (((cell_far (p := ⟨gb284, _, none⟩) NB292_284.out _).trans (hHeld))) (fun hHeld => ?_)
  clear hK K
  refine pure_ (i := 22) (N := some 3) (v := ?_) (a' := ?_) #[true, true, true, true, true, true, true, true, true, true, true, true, true, true, true, true, true, true, true, true, true, true, true, false, false] rfl rfl (any_of HT_.out (by kernel_rfl)) (fun _ _ _ h => h) (Or.inl ⟨by rfl, ?_⟩) ?_ ?_
  rotate_left; (intro w'; go_simp; with_reducible rfl); rotate_left; (simp only [Act.put, List.setIfInBounds_toArray, List.set_cons_zero, List.set_cons_succ, i64_w, i32_w]; rfl)
  refine pure_ (i := 23) (N := some 4) (v := ?_) (a' := ?_) #[true, true, true, true, true, true, true, true, true, true, true, true, true, true, true, true, true, true, true, true, true, true, true, true, false] rfl rfl (any_of HT_.out (by kernel_rfl)) (fun _ _ _ h => h) (Or.inl ⟨by rfl, ?_⟩) ?_ ?_
  rotate_left; (intro w'; go_simp; with_reducible rfl); rotate_left; (simp only [Act.put, List.setIfInBounds_toArray, List.set_cons_zero, List.set_cons_succ, i64_w, i32_w]; rfl)
  refine pure_ (i := 24) (N := some 5) (v := ?_) (a' := ?_) #[true, true, true, true, true, true, true, true, true, true, true, true, true, true, true, true, true, true, true, true, true, true, true, true, true] rfl rfl (any_of HT_.out (by kernel_rfl)) (fun _ _ _ h => h) (Or.inl ⟨by rfl, ?_⟩) ?_ ?_
  rotate_left; (intro w'; go_simp; with_reducible rfl); rotate_left; (simp only [Act.put, List.setIfInBounds_toArray, List.set_cons_zero, List.set_cons_succ, i64_w, i32_w]; rfl)
  refine done_ (done_of HT_.out (by kernel_rfl)) ?_
  try go_wp2
  refine bodyPost_ret (results_list (rs := [.cell 2 45, .tmp 3, .tmp 4, .tmp 5]) rfl (by simp) (.cell gb284 45 #[.slice Ao14 t288.length co14] (0, 0) _ rfl (by (with_reducible repeat (first | refine blk_drewN ?_ _ | refine blk_drew ?_ | refine blk_alloc ?_ _)); refine blk_put (cs := #[.slice none 0 0]) ?_ 0 _ rfl; (with_reducible repeat (first | refine blk_drewN ?_ _ | refine blk_drew ?_ | refine blk_alloc ?_ _)); exact BK284.out) Try.underlying45 rfl (by kernel_rfl) (.tmp (.tmp (.tmp .nil))))) rfl ?_
  exact ⟨_, by first | rfl | (simp [errW_none, errW_some] <;> rfl) | (simp [*, errW_none, errW_some] <;> rfl), by (with_reducible repeat (first | apply Kd.R_alloc | apply Kd.R_drewN | apply Kd.R_drew)); exact Kd.R_mono (Kd.R_far (p := ⟨gb284, 0, none⟩) (Kd.R_types HO290.out BK284.out (by decide)) (fun _ hk => hk.2) (.slice Ao14 t288.length co14)) (fun _ hk => trivial), by repeat (first | (with_reducible first | exact HB.out | apply below_alloc | apply pw_below_drewN | apply below_drew1 | refine below_set ?_ (IsS127.ge HI287.out) | refine below_set ?_ GE284.out | refine below_set ?_ GE292.out) | exact HB.out)⟩

/-! ### spec_DrawCutFile: function 59 -/
def spec_DrawCutFile.f (k : Nat) (l0 : List Int) : Option (List Int × Int) := (spec_l1Source.f l0).bind fun bt312 => ((spec_l2Bent.f k bt312.1 bt312.2).bind fun bt315 => ((spec_l1Next.f bt312.1 bt315.2 (wrap64 ((bt315.1.length : Int) + 3))).bind fun bt320 => (some (bt315.1, wrap64 (bt320.1 - 1)))))
theorem spec_DrawCutFile.mono : ∀ a0 k, LeO (spec_DrawCutFile.f k a0) (spec_DrawCutFile.f (k + 1) a0) := by
  intro a0 k
  unfold spec_DrawCutFile.f
  repeat' first
      | (with_reducible exact spec_l2Bent.mono _ _ _)
      | (with_reducible exact LeO.refl _)
      | (with_reducible exact LeO.none _)
      | (with_reducible refine LeO.ite ?_ ?_)
      | (with_reducible refine LeO.bind ?_ (fun _ => ?_))
      | exact spec_l2Bent.mono _ _ _
      | exact LeO.none _
      | refine LeO.ite ?_ ?_
      | refine LeO.bind ?_ (fun _ => ?_)
def spec_DrawCutFile.T3 : Bool × List (List Nat × List Nat) := (true, [([], []), ([], []), ([], []), ([2], [2]), ([3], [3]), ([4], [4]), ([1, 5], [1, 5]), ([6], [6]), ([0, 6, 0], [0]), ([7, 8, 0, 1, 2, 3, 4, 5, 6, 7, 8], [7])])
def spec_DrawCutFile.B3 : List Nat := [0, 0, 0, 4, 12, 28, 62, 126, 127, 511]
theorem spec_DrawCutFile.tab3 : rtab .any (opsOf Try.f59 3) = spec_DrawCutFile.T3 := by kernel_rfl
theorem spec_DrawCutFile.bits3 : waitsOk spec_DrawCutFile.T3.2 spec_DrawCutFile.B3 = true := by kernel_rfl
set_option maxHeartbeats 8000000 in
set_option maxRecDepth 100000 in
theorem spec_DrawCutFile.calls (k : Nat) (A0 : Option Addr) (c0 : Nat) (l0 : List Int) (r1 : List Int) (r2 : Int) (w : World) (hr0 : Kd.C (Kd.int .u8) w A0 l0.length l0) (hc0 : l0.length ≤ c0) (h : spec_DrawCutFile.f k l0 = some (r1, r2)) :
    Calls Try.prog 59 #[.slice A0 l0.length c0] w fun e w' => ∃ v0_ : Value, e = .returned (.tuple #[.agg #[v0_], .int .i64 r2]) ∧ Kd.R (Kd.int .u8) 5 w' w.heap.size (fun _ => True) v0_ r1 ∧ Below w.heap.size w w' := by
  have hu45 := Try.underlying45
  have HR0 := Aside0.mk hr0
  have HC0 := Aside0.mk hc0
  clear hr0 hc0
  have HB := Aside0.mk (Below.refl w.heap.size w)
  have H : ((spec_l1Source.f l0).bind fun bt312 => ((spec_l2Bent.f k bt312.1 bt312.2).bind fun bt315 => ((spec_l1Next.f bt312.1 bt315.2 (wrap64 ((bt315.1.length : Int) + 3))).bind fun bt320 => (some (bt315.1, wrap64 (bt320.1 - 1)))))) = some (r1, r2) := h
  clear h
  replace H := Option.bind_eq_some_iff.mp H
  obtain ⟨⟨t312, t313⟩, A20, H⟩ := H
  try dsimp only at H
  have A2 := Aside0.mk A20
  clear A20
  replace H := Option.bind_eq_some_iff.mp H
  obtain ⟨⟨t315, t318⟩, A30, H⟩ := H
  try dsimp only at H
  have A3 := Aside0.mk A30
  clear A30
  replace H := Option.bind_eq_some_iff.mp H
  obtain ⟨⟨t320, t321⟩, A40, H⟩ := H
  try dsimp only at H
  have A4 := Aside0.mk A40
  clear A40
  simp only [Option.some.injEq, Prod.mk.injEq] at H
  obtain ⟨rfl, rfl⟩ := H
  go_enter Try.func59, Try.ntmps59
  try go_wp2_with (first | ((with_reducible refine gate_dst (N := 2) rfl ?_); refine box_event ?hg (N := 2) ?hd (cs := #[.slice none 0 0]) (t := 45) ?hr ?_; (case hd => rfl); (case hg => rfl); (case hr => first | (go_simp; done) | (go_simp; rfl)); intro gb311 hg w5 hbox hb; have BK311 := Aside0.mk (hbox); have GW311 := Aside0.mk ((by rw [hg]; exact (below_size (bz HB)) : w.heap.size ≤ gb311)); have GE311 := Aside0.mk ((by rw [hg]; exact (below_size (bz HB)) : w.heap.size ≤ gb311)); replace HB := Aside0.mk (below_step (bz HB) hb); clear hb hbox hg) | ((with_reducible refine gate_callee (f := 86) rfl ?_); refine goesL_ (some 7) rfl rfl Try.func86 (by kernel_rfl) rfl #[.slice A0 l0.length c0] rfl (by (try simp only [List.map_toArray, List.map_cons, List.map_nil]); first | done | rfl | (simp only [List.length_drop, List.length_take]; rfl)) ?_; (with_reducible refine (spec_l1Source.calls _ _ l0 t312 t313 w _ ?side1 ?side2 ?side3 A2.out).mono ?_); (case side1 => repeat (first | (with_reducible first | exact HB.out | apply below_alloc | apply pw_below_drewN | apply below_drew1 | refine below_set ?_ GE311.out) | exact HB.out)); (case side2 => exact HR0.out); (case side3 => exact HC0.out); rintro e w6 ⟨g314, rfl, hi, hb, hb2⟩; refine ⟨_, rfl, ?_⟩; replace HB := Aside0.mk (hb); have HI314 := Aside0.mk (hi); have NB314_311 := Aside0.mk (IsS127.ne_blk hi (blk_below (g := gb311) (o := .cells #[.slice none 0 0] 45 (0, 0)) (by (with_reducible repeat (first | refine blk_drewN ?_ _ | refine blk_drew ?_ | refine blk_alloc ?_ _)); exact BK311.out) hb2) (by decide)); have NB311_314 := Aside0.mk (Ne.symm (IsS127.ne_blk hi (blk_below (g := gb311) (o := .cells #[.slice none 0 0] 45 (0, 0)) (by (with_reducible repeat (first | refine blk_drewN ?_ _ | refine blk_drew ?_ | refine blk_alloc ?_ _)); exact BK311.out) hb2) (by decide))); replace BK311 := Aside0.mk (blk_below (g := gb311) (o := .cells #[.slice none 0 0] 45 (0, 0)) (by (with_reducible repeat (first | refine blk_drewN ?_ _ | refine blk_drew ?_ | refine blk_alloc ?_ _)); exact BK311.out) hb2); (try clear hb); (try clear hb2); (try clear hk); (try clear hi)) | ((with_reducible refine gate_callee (f := 96) rfl ?_); refine goesL_ (some 9) rfl rfl Try.func96 (by kernel_rfl) rfl #[.pointer (some ⟨g314, 0, none⟩)] rfl (by (try simp only [List.map_toArray, List.map_cons, List.map_nil]); first | done | rfl | (simp only [List.length_drop, List.length_take]; rfl)) ?_; (with_reducible refine (spec_l2Bent.calls k g314 t312 t313 t315 t318 w _ ?side1 ?side2 A3.out).mono ?_); (case side1 => repeat (first | (with_reducible first | exact HI314.out | apply IsS127.alloc | apply IsS127.drewN | apply IsS127.drew | apply IsS127.set_1 | refine IsS127.far ?_ NB314_311.out _) | exact HI314.out)); (case side2 => repeat (first | (with_reducible first | exact HB.out | apply below_alloc | apply pw_below_drewN | apply below_drew1 | refine below_set ?_ (IsS127.ge HI314.out) | refine below_set ?_ GE311.out) | exact HB.out)); rintro e w7 ⟨v316, rfl, ho0, hi, hb, hk⟩; refine ⟨_, rfl, ?_⟩; replace BK311 := Aside0.mk (KeepBut.blk hk (g' := gb311) (o := .cells #[.slice none 0 0] 45 (0, 0)) (by (with_reducible repeat (first | refine blk_drewN ?_ _ | refine blk_drew ?_ | refine blk_alloc ?_ _)); exact BK311.out) NB311_314.out (by simp)); have HO317 := Aside0.mk (Kd.R_lower ho0 (below_size (by repeat (first | (with_reducible first | exact HB.out | apply below_alloc | apply pw_below_drewN | apply below_drew1 | refine below_set ?_ (IsS127.ge HI314.out) | refine below_set ?_ GE311.out) | exact HB.out)))); replace HB := Aside0.mk (hb); replace HI314 := Aside0.mk (hi); (try clear hb); (try clear hb2); (try clear hk); (try clear hi); (try clear ho0)) | ((with_reducible refine gate_dst (N := 5) rfl ?_); refine box_event ?hg (N := 5) ?hd (cs := #[.slice none 0 0]) (t := 45) ?hr ?_; (case hd => rfl); (case hg => rfl); (case hr => first | (go_simp; done) | (go_simp; rfl)); intro gb319 hg w8 hbox hb; replace HO317 := rb HO317 hb; have BK319 := Aside0.mk (hbox); have GW319 := Aside0.mk ((by rw [hg]; exact (below_size (by repeat (first | (with_reducible first | exact HB.out | apply below_alloc | apply pw_below_drewN | apply below_drew1 | refine below_set ?_ (IsS127.ge HI314.out) | refine below_set ?_ GE311.out) | exact HB.out))) : w.heap.size ≤ gb319)); have GE319 := Aside0.mk ((by rw [hg]; exact (below_size (by repeat (first | (with_reducible first | exact HB.out | apply below_alloc | apply pw_below_drewN | apply below_drew1 | refine below_set ?_ (IsS127.ge HI314.out) | refine below_set ?_ GE311.out) | exact HB.out))) : w.heap.size ≤ gb319)); replace HB := Aside0.mk (below_step (by repeat (first | (with_reducible first | exact HB.out | apply below_alloc | apply pw_below_drewN | apply below_drew1 | refine below_set ?_ (IsS127.ge HI314.out) | refine below_set ?_ GE311.out) | exact HB.out)) hb); have NB311_319 := nb BK311 hg; have NB319_311 := nc BK311 hg; replace BK311 := bk BK311 hb; have NB314_319 := Aside0.mk ((by rw [hg]; exact Nat.ne_of_lt (IsS127.lt (show IsS127 w _ g314 t312 t318 from by repeat (first | (with_reducible first | exact HI314.out | apply IsS127.alloc | apply IsS127.drewN | apply IsS127.drew | apply IsS127.set_1 | refine IsS127.far ?_ NB314_311.out _) | exact HI314.out))) : g314 ≠ gb319)); have NB319_314 := Aside0.mk ((by rw [hg]; exact Nat.ne_of_gt (IsS127.lt (show IsS127 w _ g314 t312 t318 from by repeat (first | (with_reducible first | exact HI314.out | apply IsS127.alloc | apply IsS127.drewN | apply IsS127.drew | apply IsS127.set_1 | refine IsS127.far ?_ NB314_311.out _) | exact HI314.out))) : gb319 ≠ g314)); replace HI314 := Aside0.mk (IsS127.below (by repeat (first | (with_reducible first | exact HI314.out | apply IsS127.alloc | apply IsS127.drewN | apply IsS127.drew | apply IsS127.set_1 | refine IsS127.far ?_ NB314_311.out _) | exact HI314.out)) hb); clear hb hbox hg; obtain ⟨Ao9, co9, eo9⟩ := Kd.R_slice HO317.out; subst eo9; have hnb10 := NB319_311.out; have hnc10 := NB311_319.out; have hnb11 := NB319_314.out; have hnc11 := NB314_319.out; have hcz12_0 : w8.cell? ⟨gb319, 0, none⟩ = some (.slice none 0 0) := (blk_cell BK319.out 0).trans rfl; have hfz12_0 := blk_frozen BK319.out 0))
  have n0_ : Aside0 (Kd.R (Kd.int .u8) 5 (w8.setCell ⟨gb319, 0, none⟩ (.slice Ao9 t315.length co9)) w.heap.size (fun _ => True) (.slice Ao9 t315.length co9) t315) := ⟨by (with_reducible repeat (first | apply Kd.R_alloc | apply Kd.R_drewN | apply Kd.R_drew)); exact Kd.R_mono (Kd.R_far (p := ⟨gb319, 0, none⟩) (Kd.R_types HO317.out BK319.out (by decide)) (fun _ hk => hk.2) (.slice Ao9 t315.length co9)) (fun _ hk => trivial)⟩
  have n1_ : Aside0 ((w8.setCell ⟨gb319, 0, none⟩ (.slice Ao9 t315.length co9)).heap[gb311]? = some (.cells #[.slice none 0 0] 45 (0, 0))) := ⟨by (with_reducible repeat (first | refine blk_drewN ?_ _ | refine blk_drew ?_ | refine blk_alloc ?_ _)); refine blk_far ?_ NB311_319.out _; (with_reducible repeat (first | refine blk_drewN ?_ _ | refine blk_drew ?_ | refine blk_alloc ?_ _)); exact BK311.out⟩
  have n2_ : Aside0 ((w8.setCell ⟨gb319, 0, none⟩ (.slice Ao9 t315.length co9)).heap[gb319]? = some (.cells #[.slice Ao9 t315.length co9] 45 (0, 0))) := ⟨by (with_reducible repeat (first | refine blk_drewN ?_ _ | refine blk_drew ?_ | refine blk_alloc ?_ _)); refine blk_put (cs := #[.slice none 0 0]) ?_ 0 _ rfl; (with_reducible repeat (first | refine blk_drewN ?_ _ | refine blk_drew ?_ | refine blk_alloc ?_ _)); exact BK319.out⟩
  have n3_ : Aside0 (IsS127 w (w8.setCell ⟨gb319, 0, none⟩ (.slice Ao9 t315.length co9)) g314 t312 t318) := ⟨by repeat (first | (with_reducible first | exact HI314.out | apply IsS127.alloc | apply IsS127.drewN | apply IsS127.drew | apply IsS127.set_1 | refine IsS127.far ?_ NB314_311.out _ | refine IsS127.far ?_ NB314_319.out _) | exact HI314.out)⟩
  have n4_ : Aside0 (Below w.heap.size w (w8.setCell ⟨gb319, 0, none⟩ (.slice Ao9 t315.length co9))) := ⟨by repeat (first | (with_reducible first | exact HB.out | apply below_alloc | apply pw_below_drewN | apply below_drew1 | refine below_set ?_ (IsS127.ge HI314.out) | refine below_set ?_ GE311.out | refine below_set ?_ GE319.out) | exact HB.out)⟩
  (try clear HO317)
  (try clear BK311)
  (try clear BK319)
  (try clear HI314)
  (try clear HB)
  generalize (w8.setCell ⟨gb319, 0, none⟩ (.slice Ao9 t315.length co9)) = w13 at n0_ n1_ n2_ n3_ n4_ ⊢
  have HO317 := n0_
  have BK311 := n1_
  have BK319 := n2_
  have HI314 := n3_
  have HB := n4_
  clear n0_ n1_ n2_ n3_ n4_
  replace HO317 := Aside0.mk (Kd.R_drew HO317.out)
  replace BK311 := Aside0.mk (blk_drew BK311.out)
  replace BK319 := Aside0.mk (blk_drew BK319.out)
  replace HI314 := Aside0.mk (IsS127.drew HI314.out)
  replace HB := Aside0.mk (below_drew1 HB.out)
  refine start_ (n := 10) (S := fun w' => w'.cell? ⟨gb319, 0, none⟩ = some (.slice Ao9 t315.length co9)) (ds := []) #[false, false, false, false, false, false, false, false, false, false] (by kernel_rfl) rfl rfl ((blk_cell BK319.out 0).trans rfl) (fun hHeld => ?_); refine with_tabW spec_DrawCutFile.tab3 spec_DrawCutFile.bits3 (fun HT_ HW_ => ?_)
  generalize w13.drew = w14 at HO317 BK311 BK319 HI314 HB hHeld ⊢
  refine pure_ (i := 1) (N := some 11) (v := ?_) (a' := ?_) #[false, true, false, false, false, false, false, false, false, false] rfl rfl (any_of HT_.out (by kernel_rfl)) (fun _ _ _ h => h) (Or.inl ⟨by rfl, ?_⟩) ?_ ?_
  rotate_left; (intro w'; go_simp; with_reducible rfl); rotate_left; (simp only [Act.put, List.setIfInBounds_toArray, List.set_cons_zero, List.set_cons_succ, i64_w, i32_w]; rfl)
  refine pure_ (i := 2) (N := some 12) (v := ?_) (a' := ?_) #[false, true, true, false, false, false, false, false, false, false] rfl rfl (any_of HT_.out (by kernel_rfl)) (fun _ _ _ h => h) (Or.inl ⟨by rfl, ?_⟩) ?_ ?_
  rotate_left; (intro w'; go_simp; with_reducible rfl); rotate_left; (simp only [Act.put, List.setIfInBounds_toArray, List.set_cons_zero, List.set_cons_succ, i64_w, i32_w]; rfl)
  refine take_ (i := 0) (N := some 10) (v := ?_) (a' := ?_) #[true, true, true, false, false, false, false, false, false, false] rfl rfl (take_ofW HT_.out HW_.out (by kernel_rfl)) (fun _ _ _ h => h) (Or.inl ⟨by rfl, ?_⟩) hHeld ?_ ?_
  rotate_left
  · intro w' s0
    go_simp
    with_reducible rfl
  rotate_left
  · simp only [Act.put, List.setIfInBounds_toArray, List.set_cons_zero, List.set_cons_succ, i64_w, i32_w]
    rfl
  refine take_ (i := 3) (N := some 13) (v := ?_) (a' := ?_) #[true, true, true, true, false, false, false, false, false, false] rfl rfl (take_ofW HT_.out HW_.out (by kernel_rfl)) (fun _ _ _ h => h) (Or.inl ⟨by rfl, ?_⟩) hHeld ?_ ?_
  rotate_left
  · intro w' s0
    go_simp
    with_reducible rfl
  rotate_left
  · simp only [Act.put, List.setIfInBounds_toArray, List.set_cons_zero, List.set_cons_succ, i64_w, i32_w]
    rfl
  refine pure_ (i := 4) (N := some 14) (v := ?_) (a' := ?_) #[true, true, true, true, true, false, false, false, false, false] rfl rfl (any_of HT_.out (by kernel_rfl)) (fun _ _ _ h => h) (Or.inl ⟨by rfl, ?_⟩) ?_ ?_
  rotate_left; (intro w'; go_simp; with_reducible rfl); rotate_left; (simp only [Act.put, List.setIfInBounds_toArray, List.set_cons_zero, List.set_cons_succ, i64_w, i32_w]; rfl)
  refine pure_ (i := 5) (N := some 15) (v := ?_) (a' := ?_) #[true, true, true, true, true, true, false, false, false, false] rfl rfl (any_of HT_.out (by kernel_rfl)) (fun _ _ _ h => h) (Or.inl ⟨by rfl, ?_⟩) ?_ ?_
  rotate_left; (intro w'; go_simp; with_reducible rfl); rotate_left; (simp only [Act.put, List.setIfInBounds_toArray, List.set_cons_zero, List.set_cons_succ, i64_w, i32_w]; rfl)
  refine one_ (i := 6) (N := some 16) #[true, true, true, true, true, true, true, false, false, false] rfl rfl (one_of HT_.out (by kernel_rfl)) (by decide) (fun K hK => ?_)
  refine goes_ Try.func85 (by kernel_rfl) rfl #[.pointer (some ⟨g314, 0, none⟩), .int .i64 (wrap64 ((t315.length : Int) + 3))] (by rfl) rfl rfl (by (try simp only [List.map_toArray, List.map_cons, List.map_nil]); first | done | rfl | (simp only [List.length_drop, List.length_take]; rfl)) ?_
  with_reducible refine (spec_l1Next.calls g314 t312 t318 (wrap64 ((t315.length : Int) + 3)) t320 t321 w _ ?side1 ?side2 A4.out).mono ?_
  (case side1 => repeat (first | (with_reducible first | exact HI314.out | apply IsS127.alloc | apply IsS127.drewN | apply IsS127.drew | apply IsS127.set_1 | refine IsS127.far ?_ NB314_311.out _ | refine IsS127.far ?_ NB314_319.out _) | exact HI314.out))
  (case side2 => repeat (first | (with_reducible first | exact HB.out | apply below_alloc | apply pw_below_drewN | apply below_drew1 | refine below_set ?_ (IsS127.ge HI314.out) | refine below_set ?_ GE311.out | refine below_set ?_ GE319.out) | exact HB.out))
  rintro e w15 ⟨rfl, hi, hb, hk⟩
  refine ⟨_, rfl, ?_⟩
  replace BK311 := Aside0.mk (KeepBut.blk hk (g' := gb311) (o := .cells #[.slice none 0 0] 45 (0, 0)) (by (with_reducible repeat (first | refine blk_drewN ?_ _ | refine blk_drew ?_ | refine blk_alloc ?_ _)); exact BK311.out) NB311_314.out (by simp))
  replace HO317 := Aside0.mk (Kd.R_mono (Kd.R_keep (IsS127.apart (show IsS127 w _ g314 t312 t318 from by repeat (first | (with_reducible first | exact HI314.out | apply IsS127.alloc | apply IsS127.drewN | apply IsS127.drew | apply IsS127.set_1 | refine IsS127.far ?_ NB314_311.out _ | refine IsS127.far ?_ NB314_319.out _) | exact HI314.out)) (by (with_reducible repeat (first | apply Kd.R_alloc | apply Kd.R_drewN | apply Kd.R_drew)); exact HO317.out) (by decide)) hk (fun _ h => h.2)) (fun _ h => h.1))
  replace BK319 := Aside0.mk (KeepBut.blk hk (g' := gb319) (o := .cells #[.slice Ao9 t315.length co9] 45 (0, 0)) (by (with_reducible repeat (first | refine blk_drewN ?_ _ | refine blk_drew ?_ | refine blk_alloc ?_ _)); exact BK319.out) NB319_314.out (by simp))
  replace HB := Aside0.mk (hb)
  replace HI314 := Aside0.mk (hi)
  (try clear hb)
  (try clear hb2)
  (try clear hk)
  (try clear hi)
  refine hK.out _ _ ((blk_cell BK319.out 0).trans rfl) (fun hHeld => ?_)
  clear hK K
  refine norm_ (a' := ?_) ?_ ?_
  rotate_left
  · show Act.put _ (some 16) _ = _
    simp only [Act.put, List.setIfInBounds_toArray, List.set_cons_zero, List.set_cons_succ, i64_w, i32_w]
    rfl
  refine pure_ (i := 7) (N := some 17) (v := ?_) (a' := ?_) #[true, true, true, true, true, true, true, true, false, false] rfl rfl (any_of HT_.out (by kernel_rfl)) (fun _ _ _ h => h) (Or.inl ⟨by rfl, ?_⟩) ?_ ?_
  rotate_left; (intro w'; go_simp; with_reducible rfl); rotate_left; (simp only [Act.put, List.setIfInBounds_toArray, List.set_cons_zero, List.set_cons_succ, i64_w, i32_w]; rfl)
  refine one_ (i := 8) (N := none) #[true, true, true, true, true, true, true, true, true, false] rfl rfl (one_of HT_.out (by kernel_rfl)) (by decide) (fun K hK => ?_)
  have hs16 : w15.cell? ⟨gb311, 0, none⟩ = some (.slice none 0 0) := (blk_cell BK311.out 0).trans rfl
  have hfs16 := blk_frozen BK311.out 0
  have hns16_1 := NB319_311.out
  have hms16_1 := NB311_319.out
  refine skip_ (w1 := ?_) (by rfl) rfl ?_ ?_
  rotate_left
  · go_simp
    rfl
  refine hK.out _ _ (((cell_far (p := ⟨gb311, _, none⟩) NB319_311.out _).trans (hHeld))) (fun hHeld => ?_)
  clear hK K
  refine pure_ (i := 9) (N := some 3) (v := ?_) (a' := ?_) #[true, true, true, true, true, true, true, true, true, true] rfl rfl (any_of HT_.out (by kernel_rfl)) (fun _ _ _ h => h) (Or.inl ⟨by rfl, ?_⟩) ?_ ?_
  rotate_left; (intro w'; go_simp; with_reducible rfl); rotate_left; (simp only [Act.put, List.setIfInBounds_toArray, List.set_cons_zero, List.set_cons_succ, i64_w, i32_w]; rfl)
  refine done_ (done_of HT_.out (by kernel_rfl)) ?_
  try go_wp2
  refine bodyPost_ret (results_ct rfl _ _ gb311 45 #[.slice Ao9 t315.length co9] (0, 0) _ rfl (by (with_reducible repeat (first | refine blk_drewN ?_ _ | refine blk_drew ?_ | refine blk_alloc ?_ _)); refine blk_put (cs := #[.slice none 0 0]) ?_ 0 _ rfl; (with_reducible repeat (first | refine blk_drewN ?_ _ | refine blk_drew ?_ | refine blk_alloc ?_ _)); exact BK311.out) Try.underlying45 rfl (by kernel_rfl)) rfl ?_
  exact ⟨_, by first | rfl | (simp [errW_none, errW_some] <;> rfl) | (simp [*, errW_none, errW_some] <;> rfl), by (with_reducible repeat (first | apply Kd.R_alloc | apply Kd.R_drewN | apply Kd.R_drew)); exact Kd.R_mono (Kd.R_far (p := ⟨gb311, 0, none⟩) (Kd.R_types HO317.out BK311.out (by decide)) (fun _ hk => hk.2) (.slice Ao9 t315.length co9)) (fun _ hk => trivial), by repeat (first | (with_reducible first | exact HB.out | apply below_alloc | apply pw_below_drewN | apply below_drew1 | refine below_set ?_ (IsS127.ge HI314.out) | refine below_set ?_ GE311.out | refine below_set ?_ GE319.out) | exact HB.out)⟩

/-! ### spec_l1In: function 67 -/
def spec_l1In.f (a0 : Int) (a1 : Int) (a2 : Int) : Option (Bool) := if a0 ≥ a1 then (some (decide (a0 ≤ a2))) else (some false)
set_option maxHeartbeats 8000000 in
set_option maxRecDepth 100000 in
theorem spec_l1In.calls (a0 : Int) (a1 : Int) (a2 : Int) (r : Bool) (w : World) (h : spec_l1In.f a0 a1 a2 = some r) :
    Calls Try.prog 67 #[.int .i64 a0, .int .i64 a1, .int .i64 a2] w fun e w' => e = .returned (.bool r) ∧ Drawn0 w w' := by
  have H : (if a0 ≥ a1 then (some (decide (a0 ≤ a2))) else (some false)) = some r := h
  clear h
  by_cases c4 : a0 ≥ a1
  · rw [if_pos c4] at H
    have c4b0 : decide (a1 ≤ a0) = true := decide_eq_true c4
    clear c4
    obtain rfl := Option.some.inj H
    go_enter Try.func67, Try.ntmps67
    go_wp2
    go_ret
    exact ⟨by first | rfl | (simp; done) | (simp [*]; done), by repeat (first | exact Drawn0.refl _ | apply Drawn0.step)⟩
  · rw [if_neg c4] at H
    have c4b0 : decide (a1 ≤ a0) = false := decide_eq_false c4
    clear c4
    obtain rfl := Option.some.inj H
    go_enter Try.func67, Try.ntmps67
    go_wp2
    go_ret
    exact ⟨by first | rfl | (simp; done) | (simp [*]; done), by repeat (first | exact Drawn0.refl _ | apply Drawn0.step)⟩

/-! ### spec_l1Min: function 118 -/
def spec_l1Min.f (a0 : Int) (a1 : Int) : Option (Int) := if a0 < a1 then (some a0) else (some a1)
set_option maxHeartbeats 8000000 in
set_option maxRecDepth 100000 in
theorem spec_l1Min.calls (a0 : Int) (a1 : Int) (r : Int) (w : World) (h : spec_l1Min.f a0 a1 = some r) :
    Calls Try.prog 118 #[.int .i64 a0, .int .i64 a1] w fun e w' => e = .returned (.int .i64 r) ∧ Drawn0 w w' := by
  have H : (if a0 < a1 then (some a0) else (some a1)) = some r := h
  clear h
  by_cases c3 : a0 < a1
  · rw [if_pos c3] at H
    have c3b0 : decide (a0 < a1) = true := decide_eq_true c3
    clear c3
    obtain rfl := Option.some.inj H
    go_enter Try.func118, Try.ntmps118
    go_wp2
    go_ret
    exact ⟨by first | rfl | (simp; done) | (simp [*]; done), by repeat (first | exact Drawn0.refl _ | apply Drawn0.step)⟩
  · rw [if_neg c3] at H
    have c3b0 : decide (a0 < a1) = false := decide_eq_false c3
    clear c3
    obtain rfl := Option.some.inj H
    go_enter Try.func118, Try.ntmps118
    go_wp2
    go_ret
    exact ⟨by first | rfl | (simp; done) | (simp [*]; done), by repeat (first | exact Drawn0.refl _ | apply Drawn0.step)⟩

/-! ### spec_l2Part: function 108 -/
def spec_l2Part.f (l0 : List (S45)) (a1 : Int) (a2 : Int) (a3 : Int) : Option (List Int) := if 0 < (l0.length : Int) then (if a1 ≥ (((rd_T45 l0 0).f0).length : Int) then (some (([] : List Int))) else ((spec_l1Min.f a2 a3).bind fun t326 => ((spec_l1Min.f t326 (wrap64 ((((rd_T45 l0 0).f0).length : Int) - a1))).bind fun t327 => (if 0 ≤ a1 then (if a1 ≤ (wrap64 (a1 + t327)) then (if (wrap64 (a1 + t327)) ≤ (((rd_T45 l0 0).f0).length : Int) then ((spec_l1Copy.f ((((rd_T45 l0 0).f0).take ((wrap64 (a1 + t327)) : Int).toNat).drop (a1 : Int).toNat)).bind fun t330 => (some t330)) else (none)) else (none)) else (none))))) else (none)
set_option maxHeartbeats 8000000 in
set_option maxRecDepth 100000 in
theorem spec_l2Part.calls (A0 : Option Addr) (c0 : Nat) (l0 : List (S45)) (a1 : Int) (a2 : Int) (a3 : Int) (r : List Int) (w : World) (hr0 : Kd.C k45 w A0 l0.length l0) (hc0 : l0.length ≤ c0) (h : spec_l2Part.f l0 a1 a2 a3 = some r) :
    Calls Try.prog 108 #[.pointer A0, .int .i64 a1, .int .i64 a2, .int .i64 a3] w fun e w' => ∃ v0_ : Value, e = .returned (v0_) ∧ Kd.R (Kd.int .u8) 5 w' w.heap.size (fun _ => True) v0_ r ∧ Below w.heap.size w w' := by
  have HR0 := Aside0.mk hr0
  have HC0 := Aside0.mk hc0
  clear hr0 hc0
  have HB := Aside0.mk (Below.refl w.heap.size w)
  have H : (if 0 < (l0.length : Int) then (if a1 ≥ (((rd_T45 l0 0).f0).length : Int) then (some (([] : List Int))) else ((spec_l1Min.f a2 a3).bind fun t326 => ((spec_l1Min.f t326 (wrap64 ((((rd_T45 l0 0).f0).length : Int) - a1))).bind fun t327 => (if 0 ≤ a1 then (if a1 ≤ (wrap64 (a1 + t327)) then (if (wrap64 (a1 + t327)) ≤ (((rd_T45 l0 0).f0).length : Int) then ((spec_l1Copy.f ((((rd_T45 l0 0).f0).take ((wrap64 (a1 + t327)) : Int).toNat).drop (a1 : Int).toNat)).bind fun t330 => (some t330)) else (none)) else (none)) else (none))))) else (none)) = some r := h
  clear h
  by_cases c5 : 0 < (l0.length : Int)
  · rw [if_pos c5] at H
    have c5b0 : decide (0 < (l0.length : Int)) = true := decide_eq_true c5
    have c5b1 : decide (0 < l0.length) = true := decide_eq_true (by omega)
    clear c5
    by_cases c6 : a1 ≥ (((rd_T45 l0 0).f0).length : Int)
    · rw [if_pos c6] at H
      have c6b0 : decide ((((rd_T45 l0 0).f0).length : Int) ≤ a1) = true := decide_eq_true c6
      clear c6
      obtain ⟨y323, hy323⟩ : ∃ y_ : List Int, y_ = (([] : List Int)) := ⟨_, rfl⟩
      replace H : (some y323) = some r := by first | (rw [hy323]; with_reducible exact H) | (have H2_ := (Option.bind_some _ _).symm.trans H; rw [hy323]; with_reducible exact H2_) | (have H2_ := (Option.bind_some _ _).symm.trans H; with_reducible exact H2_) | with_reducible exact H | (rw [hy323]; exact H) | exact H
      have Ny323 := Aside0.mk hy323
      clear hy323
      obtain rfl := Option.some.inj H
      have p322 : 0 ≤ (0 : Int) := (by omega)
      have q322 : 0 < (l0.length : Int) := of_decide_eq_true (by first | (with_reducible assumption) | assumption)
      obtain ⟨ad322, A322_0, c322_0, e322, hx322_0, hl322_0, hi322_0⟩ := at_T45 HR0.out 0 p322 q322
      cases e322
      have qi322 : (0 < l0.length) = True := eq_true (by omega)
      (try rw [show ((0 : Int)).toNat = 0 from rfl] at hx322_0)
      (try rw [Addr.add_zero'] at hx322_0)
      have HR322_0 := Aside0.mk hi322_0
      have HC322_0 := Aside0.mk hl322_0
      clear hi322_0 hl322_0
      replace p322 := eq_true p322
      replace q322 := eq_true q322
      go_enter Try.func108, Try.ntmps108
      go_wp2_with (first | ((with_reducible refine gate_dst (N := 18) rfl ?_); refine Kd.R_lit (Kd.int .u8) _ 5 ?hg (N := 18) ?hd (xs := ([] : List Int)) (inner := []) (ok := fun _ => True) (okp := fun _ => True) ?hr ?hp (fun _ hk => hk) trivial (Below.refl _ _) (Nat.le_refl _) (by simp) ?_; (case hd => rfl); (case hg => rfl); (case hr => first | (go_simp; done) | (go_simp; rfl)); (case hp => exact (Reps.none _ _)); intro v324 w7 ho8 hb hg_ hnew_; clear hg_ hnew_; (first | rw [← Ny323.out] at ho8 | (simp only [Int.reduceToNat] at ho8; rw [← Ny323.out] at ho8)); have HO325 := Aside0.mk (Kd.R_lower ho8 (below_size (bz HB))); replace HB := Aside0.mk (below_step (bz HB) hb); clear hb ho8))
      go_ret
      exact ⟨_, by first | rfl | (simp [errW_none, errW_some] <;> rfl) | (simp [*, errW_none, errW_some] <;> rfl), by (with_reducible repeat (first | apply Kd.R_alloc | apply Kd.R_drewN | apply Kd.R_drew)); exact HO325.out, by repeat (first | (with_reducible first | exact HB.out | apply below_alloc | apply pw_below_drewN | apply below_drew1) | exact HB.out)⟩
    · rw [if_neg c6] at H
      have c6b0 : decide ((((rd_T45 l0 0).f0).length : Int) ≤ a1) = false := decide_eq_false c6
      clear c6
      replace H := Option.bind_eq_some_iff.mp H
      obtain ⟨t326, A90, H⟩ := H
      try dsimp only at H
      have A9 := Aside0.mk A90
      clear A90
      replace H := Option.bind_eq_some_iff.mp H
      obtain ⟨t327, A100, H⟩ := H
      try dsimp only at H
      have A10 := Aside0.mk A100
      clear A100
      by_cases c11 : 0 ≤ a1
      · rw [if_pos c11] at H
        have c11b0 := eq_true c11
        have c11b1 : decide (0 ≤ a1) = true := decide_eq_true c11
        clear c11
        by_cases c12 : a1 ≤ (wrap64 (a1 + t327))
        · rw [if_pos c12] at H
          have c12b0 := eq_true c12
          have c12b1 : decide (a1 ≤ (wrap64 (a1 + t327))) = true := decide_eq_true c12
          by_cases c13 : (wrap64 (a1 + t327)) ≤ (((rd_T45 l0 0).f0).length : Int)
          · rw [if_pos c13] at H
            have c13b0 := eq_true c13
            have c13b1 : decide ((wrap64 (a1 + t327)) ≤ (((rd_T45 l0 0).f0).length : Int)) = true := decide_eq_true c13
            replace H := Option.bind_eq_some_iff.mp H
            obtain ⟨t330, A140, H⟩ := H
            try dsimp only at H
            have A14 := Aside0.mk A140
            clear A140
            obtain rfl := Option.some.inj H
            have p322 : 0 ≤ (0 : Int) := (by omega)
            have q322 : 0 < (l0.length : Int) := of_decide_eq_true (by first | (with_reducible assumption) | assumption)
            obtain ⟨ad322, A322_0, c322_0, e322, hx322_0, hl322_0, hi322_0⟩ := at_T45 HR0.out 0 p322 q322
            cases e322
            have qi322 : (0 < l0.length) = True := eq_true (by omega)
            (try rw [show ((0 : Int)).toNat = 0 from rfl] at hx322_0)
            (try rw [Addr.add_zero'] at hx322_0)
            have HR322_0 := Aside0.mk hi322_0
            have HC322_0 := Aside0.mk hl322_0
            clear hi322_0 hl322_0
            replace p322 := eq_true p322
            replace q322 := eq_true q322
            go_enter Try.func108, Try.ntmps108
            go_wp2_with (first | ((with_reducible refine gate_callee (f := 118) rfl ?_); refine goesL_ (some 21) rfl rfl Try.func118 (by kernel_rfl) rfl #[.int .i64 a2, .int .i64 a3] rfl (by (try simp only [List.map_toArray, List.map_cons, List.map_nil]); first | done | rfl | (simp only [List.length_drop, List.length_take]; rfl)) ?_; (with_reducible refine (spec_l1Min.calls a2 a3 t326 _ A9.out).mono ?_); rintro e w' ⟨rfl, ⟨nd, rfl⟩⟩; refine ⟨_, rfl, ?_⟩) | ((with_reducible refine gate_callee (f := 118) rfl ?_); refine goesL_ (some 25) rfl rfl Try.func118 (by kernel_rfl) rfl #[.int .i64 t326, .int .i64 (wrap64 ((((rd_T45 l0 0).f0).length : Int) - a1))] rfl (by (try simp only [List.map_toArray, List.map_cons, List.map_nil]); first | done | rfl | (simp only [List.length_drop, List.length_take]; rfl)) ?_; (with_reducible refine (spec_l1Min.calls t326 (wrap64 ((((rd_T45 l0 0).f0).length : Int) - a1)) t327 _ A10.out).mono ?_); rintro e w' ⟨rfl, ⟨nd, rfl⟩⟩; refine ⟨_, rfl, ?_⟩; have p328 : 0 ≤ (0 : Int) := (by omega); have q328 : 0 < (l0.length : Int) := of_decide_eq_true (by first | (with_reducible assumption) | assumption); obtain ⟨ad328, A328_0, c328_0, e328, hx328_0, hl328_0, hi328_0⟩ := at_T45 HR0.out 0 p328 q328; obtain rfl : ad322 = ad328 := (by injection e328); have qi328 : (0 < l0.length) = True := eq_true (by omega); (try rw [show ((0 : Int)).toNat = 0 from rfl] at hx328_0); (try rw [Addr.add_zero'] at hx328_0); have HR328_0 := Aside0.mk hi328_0; have HC328_0 := Aside0.mk hl328_0; clear hi328_0 hl328_0; replace p328 := eq_true p328; replace q328 := eq_true q328; have ea_ := Option.some.inj (hx322_0.symm.trans hx328_0); injection ea_ with ea_ en_ ec_; subst ea_; subst ec_; clear en_; obtain ⟨i015, hi015, _, hsz15, _⟩ := info_parts info5; obtain ⟨A15, hcut15, hA15, hC15⟩ := print_mid_of (P := Try.prog) (Value.int .u8) 0 40 5 .i64 .i64 Try.underlying40 hi015 hsz15 A322_0 c322_0 ((rd_T45 l0 0).f0) a1 (wrap64 (a1 + t327)) (of_decide_eq_true (by first | (with_reducible assumption) | assumption)) (by first | omega | exact of_decide_eq_true (by first | (with_reducible assumption) | assumption)) (of_decide_eq_true (by first | (with_reducible assumption) | assumption)) HC328_0.out; have HR329 := Aside0.mk (Kd.C_of_reads (h1 := fun _ => rfl) (hA15 _ (Kd.reads_of_C HR328_0.out))); have HC329 := Aside0.mk hC15; clear hA15 hC15 hi015 hsz15) | ((with_reducible refine gate_callee (f := 105) rfl ?_); refine goesL_ (some 35) rfl rfl Try.func105 (by kernel_rfl) rfl #[.slice A15 ((((rd_T45 l0 0).f0).take ((wrap64 (a1 + t327)) : Int).toNat).drop (a1 : Int).toNat).length (c322_0 - a1.toNat)] rfl (by (try simp only [List.map_toArray, List.map_cons, List.map_nil]); first | done | (rw [show ((((rd_T45 l0 0).f0).take ((wrap64 (a1 + t327)) : Int).toNat).drop (a1 : Int).toNat).length = ((wrap64 (a1 + t327)).toNat - a1.toNat) from (by rw [List.length_drop, List.length_take]; have h_ : ((wrap64 (a1 + t327)) : Int) ≤ (((rd_T45 l0 0).f0).length : Int) := of_decide_eq_true (by first | (with_reducible assumption) | assumption); omega)] <;> rfl) | rfl | (simp only [List.length_drop, List.length_take]; rfl)) ?_; (with_reducible refine (spec_l1Copy.calls _ _ ((((rd_T45 l0 0).f0).take ((wrap64 (a1 + t327)) : Int).toNat).drop (a1 : Int).toNat) t330 _ ?side1 ?side2 A14.out).mono ?_); (case side1 => repeat (first | exact HR329.out | (with_reducible refine Kd.C_alloc ?_ _) | (with_reducible refine Kd.C_drewN ?_ _) | (with_reducible refine Kd.C_drew ?_))); (case side2 => exact HC329.out); rintro e w16 ⟨v331, rfl, ho0, hb⟩; refine ⟨_, rfl, ?_⟩; have HO332 := Aside0.mk (Kd.R_lower ho0 (below_size (bz HB))); replace HB := Aside0.mk (below_step (bz HB) hb); (try clear hb); (try clear hb2); (try clear hk); (try clear hi); (try clear ho0)))
            go_ret
            exact ⟨_, by first | rfl | (simp [errW_none, errW_some] <;> rfl) | (simp [*, errW_none, errW_some] <;> rfl), by (with_reducible repeat (first | apply Kd.R_alloc | apply Kd.R_drewN | apply Kd.R_drew)); exact HO332.out, by repeat (first | (with_reducible first | exact HB.out | apply below_alloc | apply pw_below_drewN | apply below_drew1) | exact HB.out)⟩
          · rw [if_neg c13] at H
            exact absurd H (by simp)
        · rw [if_neg c12] at H
          exact absurd H (by simp)
      · rw [if_neg c11] at H
        exact absurd H (by simp)
  · rw [if_neg c5] at H
    exact absurd H (by simp)

end Go.Proofs.Ytljpfppkpjodiaa.PFnFiles
