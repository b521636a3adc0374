/- Functions of the given program as plain Lean functions, each with a proof that the Go code answers just so; walked by hand. Conditions: those that each theorem names. -/
import Derived.Test.YtkocconggohdgaaPFnExactReadRangex1
import Derived.Test.YtkocconggohdgaaPFnExactReadRangex2
import Derived.Test.YtkocconggohdgaaPFnExactReadRangex3
import Derived.Test.YtkocconggohdgaaPFnExactReadRangex4
import Derived.Test.YtkocconggohdgaaPFnExactReadRangex5
import Derived.Test.YtkocconggohdgaaPFnExactReadRangex6
import Derived.Test.YtkocconggohdgaaPFnExactReadRangex7
import Derived.Test.YtkocconggohdgaaPFnExactReadRangex8
import Derived.Test.YtkocconggohdgaaPFnExactReadRangex9
import Derived.Test.YtkocconggohdgaaPFnExactReadRangex10
namespace Go.Proofs.Ytkocconggohdgaa.PFnExactReadRange
open Go.RowKit Go.Proofs.YtkocconggohdgaaW.PrintWords Go.Proofs.YtkocconggohdgaaW.PrintLast Go.Proofs.YtkocconggohdgaaW.PrintMore
attribute [local go_sem] max2_int min2_int max_two min_two max_three min_three max_four min_four   -- for this text's walks alone
set_option linter.unusedVariables false
set_option linter.unusedSimpArgs false
theorem S_sub {α : Type} {d : Kd α} {e base : Nat} {w : World} {ok : Nat → Prop} {v : Value} {f : Nat → Nat} {zs : List (α × Nat)} (h : (Kd.tag f d).R e w base ok v zs)
    (hn : ∀ (i j : Nat) (z z' : α × Nat), zs[i]? = some z → zs[j]? = some z' → z.2 = z'.2 → i = j) : d.S e w base ok v (zs.map Prod.fst) := by
  obtain ⟨h0, inner, ho, hr⟩ := h
  obtain ⟨f', hr'⟩ := Kd.reps_tag (d := d) (w := w) (base := base) (ok := fun k => ok k ∧ some k ≠ v.ownBlock) (xs := zs.map Prod.fst) (inner := inner) (fun j k => (ok k ∧ some k ≠ v.ownBlock) ∧ ∃ z, zs[j]? = some z ∧ f k = z.2)
    (by rintro i j k ⟨_, z, hz, e1⟩ ⟨_, z', hz', e2⟩; exact hn i j z z' hz hz' (e1.symm.trans e2)) (fun j k hk => hk.1) (by rw [List.length_map]; exact hr.1)
    (by intro j x hx
        rw [List.getElem?_map] at hx
        obtain ⟨z, hz, rfl⟩ := Option.map_eq_some_iff.1 hx
        exact d.M_mono (fun k hk => ⟨hk.1, z, hz, hk.2⟩) (hr.2 j z hz))
  exact ⟨f', h0, inner, by rw [List.length_zipIdx, List.length_map]; exact ho, hr'⟩
theorem nums_apart {α : Type} (q : α × Nat → Bool) (xs : List α) : ∀ (i j : Nat) (z z' : α × Nat), (xs.zipIdx.filter q)[i]? = some z → (xs.zipIdx.filter q)[j]? = some z' → z.2 = z'.2 → i = j := by
  have h1 : (xs.zipIdx).Pairwise (fun a b => a.2 < b.2) := by
    rw [List.pairwise_iff_getElem]
    intro i j hi hj hij
    simp only [List.getElem_zipIdx]
    omega
  have h2 := h1.filter q
  rw [List.pairwise_iff_getElem] at h2
  intro i j z z' hz hz' he
  obtain ⟨hi, rfl⟩ := List.getElem?_eq_some_iff.1 hz
  obtain ⟨hj, rfl⟩ := List.getElem?_eq_some_iff.1 hz'
  rcases Nat.lt_trichotomy i j with h | h | h
  · have := h2 i j hi hj h; omega
  · exact h
  · have := h2 j i hj hi h; omega
theorem filter_fst {α : Type} (q : α → Bool) (xs : List α) : (xs.zipIdx.filter (fun z => q z.1)).map Prod.fst = xs.filter q := by
  have h : xs.zipIdx.map Prod.fst = xs := by simp
  conv => rhs; rw [← h, List.filter_map]
  rfl
theorem R_beyond {α : Type} {d : Kd α} {e base g n c : Nat} {w : World} {ok : Nat → Prop} {xs : List α} (h : d.R e w base ok (.slice (some ⟨g, 0, none⟩) n c) xs) (o : Nat) (seg : List Value) (ho : n * d.sz ≤ o) (hl : o + seg.length ≤ c * d.sz) :
    d.R e (w.setCells g o seg) base ok (.slice (some ⟨g, 0, none⟩) n c) xs ∧ w.grownBy (w.setCells g o seg) (some g) := by
  obtain ⟨h0, inner, hown, hr⟩ := h
  rcases hown.2 with ⟨hv, _⟩ | ⟨g', cap, cur, hv, hbg, hg, hnc, hcm, hcs, htk⟩
  · cases hv
  · injection hv with ha hn hc
    injection ha with ha
    injection ha with ha _ _
    subst ha hn hc
    obtain ⟨cur', h3, h4, h5⟩ := setCells_row seg o w cur hg (by rw [hcs]; exact hl)
    obtain ⟨s1, s2, s3, s4⟩ := setCells_same g seg o w
    have hgb : w.grownBy (w.setCells g o seg) (some g) := ⟨s1, s2, s3, by rw [s4]; exact Nat.le_refl _, fun k _ hk => setCells_far seg _ k (fun e => hk (by rw [e]))⟩
    refine ⟨⟨h0, inner, ⟨hown.1, .inr ⟨g, c, cur', rfl, hbg, h3, hnc, hcm, by rw [h4, hcs], ?_⟩⟩, hr.imp_ (fun p cs hp => Kd.M_step hp (fun k hk hlt => hgb.block k hlt (fun he => hk.2 (by rw [he]; simp [Value.ownBlock]))))⟩, hgb⟩
    have hcl : cur.toList.length = c * d.sz := by simp [hcs]
    have hcz : xs.length * d.sz ≤ cur.toList.length := by rw [hcl]; exact Nat.mul_le_mul_right _ hnc
    rw [h5, ← htk, List.append_assoc, List.take_append_of_le_length (by rw [List.length_take]; omega), List.take_take, Nat.min_eq_left ho]
theorem run_clear_row {P : Program} (w : World) (t e ty : TypeId) (z : Value) (ht : P.underlying t = some (.slice e)) (hv : ∀ w, (zeroValue e).run P w = .ok z w) (sz : Nat) (hz : z.cells.size = sz)
    (b o n c : Nat) (cur : Array Value) (hg : w.heap[b]? = some (.cells cur e (0, 0))) (hl : o + n * sz ≤ cur.size) (hn : 0 < n) (h1 : ∀ u ∈ (Builtin.zeroCells z.cells n).toList, u.oneCell' = true) :
    (Builtin.clear_ #[t] ty #[.slice (some ⟨b, o, none⟩) n c]).run P w = .ok (.tuple #[]) (w.setCells b o (Builtin.zeroCells z.cells n).toList) := by
  have hlen : (Builtin.zeroCells z.cells n).toList.length = n * sz := by rw [Array.length_toList, size_zeroCells, hz]
  have hst := run_storeCells_cells (P := P) b o (Builtin.zeroCells z.cells n).toList 0 w (fun j hj => by rw [cell_of_row w b _ cur e (0, 0) hg]; simp; omega) (fun j _ => blk_frozen hg _) h1
  simp only [Nat.add_zero] at hst
  obtain ⟨m, rfl⟩ : ∃ m, n = m + 1 := ⟨n - 1, by omega⟩
  simp [Builtin.clear_, run_underlying ht, hv, hst]
set_option maxHeartbeats 4000000 in
set_option maxRecDepth 100000 in
theorem clone93 (A0 : Option Addr) (c0 : Nat) (l0 : List S80) (w : World) (ok : Nat → Prop) (hF : Kd.F k80 w ok A0 l0.length l0) (hl : l0.length < 4398046511104) :
    Calls Try.prog 93 #[.slice A0 l0.length c0] w fun e w' => ∃ v, e = .returned v ∧ Kd.N k80 80 w' w.heap.size (fun k => ok k ∨ w.heap.size ≤ k) v l0 ∧ Below w.heap.size w w' := by
  have hC := Kd.F_now hF
  by_cases hn0_ : A0 = none
  · subst hn0_
    have hl0_ : l0.length = 0 := Nat.eq_zero_of_not_pos (fun hp => by obtain ⟨_, e, _⟩ := hC.2.2 hp; cases e)
    obtain rfl := List.eq_nil_of_length_eq_zero hl0_
    have heq0_ := fun W => Go.Lib.run_eql_slice_nil (P := Try.prog) W 23 80 none 0 c0 0 0 Try.underlying23
    clear hF hC
    go_enter Try.func93, Try.ntmps93
    go_wp2
    go_ret
    exact ⟨_, rfl, Kd.N_nil _ _ _ _ _, Below.refl _ _⟩
  have hA0_ : A0.isNone = false := by cases A0 <;> simp_all
  have heq0_ := fun W => Go.Lib.run_eql_slice_nil (P := Try.prog) W 23 80 A0 l0.length c0 0 0 Try.underlying23
  simp only [hA0_] at heq0_
  have HF := Aside0.mk hF
  have HL := Aside0.mk hl
  clear hn0_ hA0_ hF hC hl
  go_enter Try.func93, Try.ntmps93
  go_wp2_with (first | ((with_reducible refine gate_dst (N := 5) rfl ?_); refine Kd.R_lit k80 w.heap.size 80 ?hg (N := 5) ?hd (xs := ([] : List S80)) (inner := []) (ok := fun k => ok k ∨ w.heap.size ≤ k) (okp := fun _ => False) ?hr ?hp (fun _ hk => hk.elim) (.inr (Nat.le_refl _)) (Below.refl _ _) (Nat.le_refl _) (by simp) ?_; (case hd => rfl); (case hg => rfl); (case hr => first | (go_simp; done) | (go_simp; rfl)); (case hp => exact (Reps.none _ _)); intro v1 w1 hR1 hB1 _ hnew; have hN1 := Kd.R_N hR1; have hF1 := Kd.F_elder' HF.out (fun k hk => Kd.R_base hR1 k hk) hB1; have HN1 := Aside0.mk hN1; have HF1 := Aside0.mk hF1; have HB1 := Aside0.mk hB1; clear hR1 hB1 hnew hN1 hF1) | ((with_reducible refine gate_builtin (b := .append) (xs := #[.tmp 5, .tmp 6]) rfl ?_); at_builtin; refine Kd.N_append_rows k80 (w0 := w) w.heap.size rfl (.tmp 5) (.tmp 6) 23 80 (.agg #[(.int .i64 0), (.slice none 0 0)]) 32 rfl Try.underlying23 info80 rfl (by decide) (by omega) v1 [] l0 A0 l0.length c0 (fun k => ok k ∨ w.heap.size ≤ k) (fun k => ok k ∧ some k ≠ v1.ownBlock) rfl rfl HN1.out HF1.out (fun k hk => ⟨.inl hk.1, hk.2⟩) (fun k hk => .inr (Nat.le_trans HB1.out.size hk)) HB1.out HB1.out.size (by have := HL.out; simp; omega) ?_; intro v2 w2 hN2 hB2 _ _; have HN2 := Aside0.mk hN2; have HB2 := Aside0.mk hB2; clear hN2 hB2))
  go_ret
  exact ⟨_, rfl, by have h := HN2.out; simpa using h, HB2.out⟩
theorem N_beyond {α : Type} {d : Kd α} {e base g n c : Nat} {w : World} {ok : Nat → Prop} {xs : List α} (h : Kd.N d e w base ok (.slice (some ⟨g, 0, none⟩) n c) xs) (o : Nat) (seg : List Value) (ho : n * d.sz ≤ o) (hl : o + seg.length ≤ c * d.sz) :
    Kd.N d e (w.setCells g o seg) base ok (.slice (some ⟨g, 0, none⟩) n c) xs ∧ w.grownBy (w.setCells g o seg) (some g) := by
  obtain ⟨h0, rows, hlr, hR, hf⟩ := h
  have h2 := R_beyond hR o seg ho hl
  exact ⟨⟨h0, rows, hlr, h2.1, fun j x c hx hc => Kd.FK_step (hf j x c hx hc) (fun k hk hlt => h2.2.block k hlt (fun he => hk.2 (by injection he with he; subst he; simp [Value.ownBlock])))⟩, h2.2⟩
theorem cut_three {P : Program} (t e : TypeId) (k1 k2 k3 : IntKind) {i : TypeInfo} (ht : P.underlying t = some (.slice e)) (hi : P.info? e = some i) (size : Nat) (hsz : i.size = size) (A : Option Addr) (n c : Nat) (lo hi' mx : Int) (h0 : 0 ≤ lo) (h1 : lo ≤ hi') (h2 : hi' ≤ mx) (h3 : mx ≤ c) :
    ∀ W : World, (Instr.slice t (.slice A n c) (some (.int k1 lo)) (some (.int k2 hi')) (some (.int k3 mx))).run P W = .ok (sliced A lo.toNat hi'.toNat mx.toNat size) W := by
  intro W
  have hel : P.elem t = e := by simp [Program.elem, ht]
  have hu : P.underlying t = some (.slice (P.elem t)) := by rw [hel]; exact ht
  have e1 : (hi'.toNat : Int) = hi' := Int.toNat_of_nonneg (by omega)
  have e2 : (mx.toNat : Int) = mx := Int.toNat_of_nonneg (by omega)
  rw [run_slice_any (ht := hu), hel]
  simp [Instr.sliceBounds, run_sliceBound, e1, e2, (by omega : 0 ≤ lo), (by omega : 0 ≤ hi'), (by omega : 0 ≤ mx), h1, h2, h3, sizeOf, typeInfo, hi, hsz, Result.andThen]
theorem cut_past {P : Program} (t e : TypeId) (kl kh : IntKind) {i : TypeInfo} (ht : P.underlying t = some (.slice e)) (hi : P.info? e = some i) (size : Nat) (hsz : i.size = size) (A : Option Addr) (n c : Nat) (lo hi' : Int) (h0 : 0 ≤ lo) (h1 : lo ≤ hi') (h2 : hi' ≤ c) :
    ∀ W : World, (Instr.slice t (.slice A n c) (some (.int kl lo)) (some (.int kh hi')) none).run P W = .ok (.slice (if c = lo.toNat then A else A.map (·.add (lo.toNat * size))) (hi'.toNat - lo.toNat) (c - lo.toNat)) W := by
  intro W
  have hel : P.elem t = e := by simp [Program.elem, ht]
  have hu : P.underlying t = some (.slice (P.elem t)) := by rw [hel]; exact ht
  rw [run_slice_lh W t A n c hu kl kh lo hi' h0 h1 (by omega), hel]
  simp [sizeOf, typeInfo, hi, hsz, sliced, Result.andThen]
theorem N_cells {α : Type} {d : Kd α} {e base g n c : Nat} {w : World} {ok : Nat → Prop} {xs : List α} (h : Kd.N d e w base ok (.slice (some ⟨g, 0, none⟩) n c) xs) : ∃ cells, w.heap[g]? = some (.cells cells e (0, 0)) ∧ cells.size = c * d.sz ∧ base ≤ g := by
  obtain ⟨_, rows, _, hR, _⟩ := h
  obtain ⟨_, inner, hown, _⟩ := hR
  rcases hown.2 with ⟨hv, _⟩ | ⟨g', cap, cells, hv, hb, hg, _, _, hcs, _⟩
  · cases hv
  · injection hv with ha _ hc
    injection ha with ha
    injection ha with ha _ _
    subst ha hc
    exact ⟨cells, hg, hcs, hb⟩
theorem grown_trans {w w1 w2 : World} {row : Option Nat} (h : w.grownBy w1 row) (k : w1.grownBy w2 row) : w.grownBy w2 row :=
  ⟨k.os.trans h.os, k.tape.trans h.tape, k.output.trans h.output, Nat.le_trans h.size k.size, fun i hi hn => (k.block i (Nat.lt_of_lt_of_le hi h.size) hn).trans (h.block i hi hn)⟩
set_option maxHeartbeats 4000000 in
set_option maxRecDepth 100000 in
theorem delete92 (g n c k : Nat) (xs : List S80) (w0 w : World) (base : Nat) (ok : Nat → Prop) (hN : Kd.N k80 80 w base ok (.slice (some ⟨g, 0, none⟩) n c) xs) (hk : k < n) (hB : Below base w0 w) (hbase : base ≤ w.heap.size) :
    Calls Try.prog 92 #[.slice (some ⟨g, 0, none⟩) n c, .int .i64 k, .int .i64 ((k : Int) + 1)] w fun e w' => e = .returned (.slice (some ⟨g, 0, none⟩) (n - 1) c) ∧ Kd.N k80 80 w' base ok (.slice (some ⟨g, 0, none⟩) (n - 1) c) (xs.eraseIdx k) ∧ Below base w0 w' ∧ w.grownBy w' (some g) := by
  obtain ⟨hn, hnc, hC⟩ := Kd.N_reads' hN
  have hmax := Kd.C_max hC
  clear hC
  obtain ⟨i0, hi0, hz0, hs0, hb0⟩ := info_parts info80
  have h3 := cut_three (P := Try.prog) 23 80 .i64 .i64 .i64 Try.underlying23 hi0 2 hs0 (some ⟨g, 0, none⟩) n c (k : Int) ((k : Int) + 1) (n : Int) (by omega) (by omega) (by omega) (by omega)
  have ht := cut_to (P := Try.prog) 23 80 .i64 Try.underlying23 hi0 (some ⟨g, 0, none⟩) n c (k : Int) (by omega) (by omega) hnc
  have hf := cut_from (P := Try.prog) 23 80 .i64 Try.underlying23 hi0 2 hs0 (some ⟨g, 0, none⟩) n c ((k : Int) + 1) (by omega) (by omega)
  have hne : ((k : Int) == (k : Int) + 1) = false := beq_eq_false_iff_ne.2 (by omega)
  have hk1 : ((k : Int) + 1).toNat = k + 1 := by omega
  rw [hk1] at hf
  rw [Int.toNat_natCast] at ht
  have hp := cut_past (P := Try.prog) 23 80 .i64 .i64 Try.underlying23 hi0 2 hs0 (some ⟨g, 0, none⟩) (n - 1) c (((n - 1 : Nat)) : Int) (n : Int) (by omega) (by omega) (by omega)
  rw [Int.toNat_natCast, Int.toNat_natCast, if_neg (by omega), show n - (n - 1) = 1 by omega, Option.map_some, add_plain] at hp
  have HNn := Aside0.mk hn
  have HN := Aside0.mk hN
  have HB := Aside0.mk hB
  have HS := Aside0.mk hbase
  clear hN hB hbase hn
  generalize hA1 : (if c = k + 1 then (some ⟨g, 0, none⟩ : Option Addr) else (some (⟨g, 0, none⟩ : Addr)).map (·.add ((k + 1) * 2))) = A1 at hf
  generalize sliced (some ⟨g, 0, none⟩) (k : Int).toNat ((k : Int) + 1).toNat (n : Int).toNat 2 = vv at h3
  have HA1 := Aside0.mk hA1
  clear hA1
  go_enter Try.func92, Try.ntmps92
  go_wp2
  have HN2 := Aside0.mk (Kd.N_drew HN.out)
  have HB2 := Aside0.mk (below_drew1 HB.out)
  have HS2 := Aside0.mk (show base ≤ w.drew.heap.size from HS.out)
  refine start_ (n := 8) (S := fun w' => True) (ds := []) #[false, false, false, false, false, false, false, false] (by kernel_rfl) rfl rfl trivial (fun hHeld => ?_)
  refine pure_ (i := 0) (N := some 20) (v := ?_) (a' := ?_) #[true, false, false, false, false, false, false, false] rfl rfl (by kernel_rfl) (fun _ _ _ h => h) (Or.inl ⟨by rfl, ?_⟩) ?_ ?_
  rotate_left; (intro w'; go_simp; with_reducible rfl); rotate_left; (simp only [Act.put, List.setIfInBounds_toArray, List.set_cons_zero, List.set_cons_succ, i64_w, i32_w]; rfl)
  refine pure_ (i := 1) (N := some 21) (v := ?_) (a' := ?_) #[true, true, false, false, false, false, false, false] rfl rfl (by kernel_rfl) (fun _ _ _ h => h) (Or.inl ⟨by rfl, ?_⟩) ?_ ?_
  rotate_left; (intro w'; go_simp; with_reducible rfl); rotate_left; (simp only [Act.put, List.setIfInBounds_toArray, List.set_cons_zero, List.set_cons_succ, i64_w, i32_w]; rfl)
  refine pure_ (i := 2) (N := some 22) (v := ?_) (a' := ?_) #[true, true, true, false, false, false, false, false] rfl rfl (by kernel_rfl) (fun _ _ _ h => h) (Or.inl ⟨by rfl, ?_⟩) ?_ ?_
  rotate_left; (intro w'; go_simp; with_reducible rfl); rotate_left; (simp only [Act.put, List.setIfInBounds_toArray, List.set_cons_zero, List.set_cons_succ, i64_w, i32_w]; rfl)
  refine pure_ (i := 3) (N := some 23) (v := ?_) (a' := ?_) #[true, true, true, true, false, false, false, false] rfl rfl (by kernel_rfl) (fun _ _ _ h => h) (Or.inl ⟨by rfl, ?_⟩) ?_ ?_
  rotate_left; (intro w'; go_simp; with_reducible rfl); rotate_left; (simp only [Act.put, List.setIfInBounds_toArray, List.set_cons_zero, List.set_cons_succ, i64_w, i32_w]; rfl)
  refine pure_ (i := 4) (N := some 24) (v := ?_) (a' := ?_) #[true, true, true, true, true, false, false, false] rfl rfl (by kernel_rfl) (fun _ _ _ h => h) (Or.inl ⟨by rfl, ?_⟩) ?_ ?_
  rotate_left; (intro w'; go_simp; with_reducible rfl); rotate_left; (simp only [Act.put, List.setIfInBounds_toArray, List.set_cons_zero, List.set_cons_succ, i64_w, i32_w]; rfl)
  refine pure_ (i := 5) (N := some 25) (v := ?_) (a' := ?_) #[true, true, true, true, true, true, false, false] rfl rfl (by kernel_rfl) (fun _ _ _ h => h) (Or.inl ⟨by rfl, ?_⟩) ?_ ?_
  rotate_left; (intro w'; go_simp; with_reducible rfl); rotate_left; (simp only [Act.put, List.setIfInBounds_toArray, List.set_cons_zero, List.set_cons_succ, i64_w, i32_w]; rfl)
  refine one_ (i := 6) (N := some 26) #[true, true, true, true, true, true, true, false] rfl rfl (by kernel_rfl) (by decide) (fun K hK => ?_)
  refine Kd.N_delete_step k80 (w0 := w0) base (by rfl) (.tmp 22) (.tmp 25) 23 80 rfl Try.underlying23 (by rw [hi0]; exact congrArg some hs0) (g := g) (n := n) (c := c) (k := k) (m := n - (k + 1)) (c2 := c - (k + 1)) (A := A1) (xs := xs) (ok := ok) rfl rfl HA1.out.symm rfl HN2.out hk HB2.out HS2.out ?_
  intro w3 hN3 hB3 hg3
  refine hK.out _ _ trivial (fun hHeld => ?_)
  clear hK K
  refine norm_ (a' := ?_) ?_ ?_
  rotate_left
  · show Act.put _ (some 26) _ = _
    simp only [Act.put, List.setIfInBounds_toArray, List.set_cons_zero, List.set_cons_succ, i64_w, i32_w]
    rfl
  refine pure_ (i := 7) (N := some 0) (v := ?_) (a' := ?_) #[true, true, true, true, true, true, true, true] rfl rfl (by kernel_rfl) (fun _ _ _ h => h) (Or.inl ⟨by rfl, ?_⟩) ?_ ?_
  rotate_left; (intro w'; go_simp; with_reducible rfl); rotate_left; (simp only [Act.put, List.setIfInBounds_toArray, List.set_cons_zero, List.set_cons_succ, i64_w, i32_w]; rfl)
  refine done_ (by kernel_rfl) ?_

  have hz : ∀ w, (zeroValue 80).run Try.prog w = .ok (.agg #[.int .i64 0, .slice none 0 0]) w := fun w => by simp [zeroValue, typeInfo, hi0, hz0]
  obtain ⟨cells, hgc, hcs, _⟩ := N_cells hN3
  have hcs2 : cells.size = c * 2 := hcs
  have h1 : ∀ u ∈ (Builtin.zeroCells (Value.agg #[.int .i64 0, .slice none 0 0]).cells 1).toList, u.oneCell' = true :=
    Kd.reps_one (Kd.reps_zeros (R := fun (_ : Unit) cs => ∀ u ∈ cs, u.oneCell' = true) (z0 := ()) (z := (Value.agg #[.int .i64 0, .slice none 0 0])) (size := 2) rfl (by omega) (by intro u hu; simp [Value.cells] at hu; rcases hu with rfl | rfl <;> rfl) 1) (by omega) (fun _ _ h => h)
  have hcl2 : ∀ ty, (Builtin.clear_ #[23] ty #[.slice (some ⟨g, 0 + (n - 1) * 2, none⟩) 1 (c - (n - 1))]).run Try.prog w3 = _ := fun ty => run_clear_row (P := Try.prog) w3 23 80 ty _ Try.underlying23 hz 2 rfl g (0 + (n - 1) * 2) 1 (c - (n - 1)) cells hgc (by rw [hcs2]; omega) (by omega) h1
  obtain ⟨hby1, hby2⟩ := N_beyond hN3 (0 + (n - 1) * 2) (Builtin.zeroCells (Value.agg #[.int .i64 0, .slice none 0 0]).cells 1).toList (by show (n - 1) * 2 ≤ _; omega) (by rw [Array.length_toList, size_zeroCells]; show 0 + (n - 1) * 2 + 1 * 2 ≤ c * 2; omega)
  have HY := Aside0.mk hby1
  have HG := Aside0.mk hby2
  have HG3 := Aside0.mk hg3
  have HB3 := Aside0.mk hB3
  have hbg : base ≤ g := by obtain ⟨_, _, _, h⟩ := N_cells hN3; exact h
  have HBG := Aside0.mk hbg
  have hsz := hg3.size
  clear hby1 hby2 hN3 hg3 hB3 hz h1 hgc hcs hcs2 hbg
  generalize (Builtin.zeroCells (Value.agg #[.int .i64 0, .slice none 0 0]).cells 1).toList = zs at *
  simp only [Nat.zero_add] at hp hcl2 HY HG
  go_wp2
  go_ret
  refine ⟨rfl, HY.out, HB3.out.grown HG.out (Nat.le_trans HS2.out hsz) (fun k hk => by injection hk with hk; have := HBG.out; omega), ?_⟩
  exact grown_trans (show w.grownBy w.drew (some g) from ⟨rfl, rfl, rfl, Nat.le_refl _, fun _ _ _ => rfl⟩) (grown_trans HG3.out HG.out)
theorem delete92e (g n c k : Nat) (xs ys : List S80) (w0 w : World) (base : Nat) (ok : Nat → Prop) (hy : ys = xs.eraseIdx k) (hN : Kd.N k80 80 w base ok (.slice (some ⟨g, 0, none⟩) n c) xs) (hk : k < n) (hB : Below base w0 w) (hbase : base ≤ w.heap.size) :
    Calls Try.prog 92 #[.slice (some ⟨g, 0, none⟩) n c, .int .i64 k, .int .i64 ((k : Int) + 1)] w fun e w' => e = .returned (.slice (some ⟨g, 0, none⟩) ys.length c) ∧ Kd.N k80 80 w' base ok (.slice (some ⟨g, 0, none⟩) ys.length c) ys ∧ Below base w0 w' ∧ w.grownBy w' (some g) := by
  have hn := (Kd.N_reads' hN).1
  have e : n - 1 = ys.length := by rw [hy, List.length_eraseIdx, if_pos (by omega), hn]
  refine (delete92 g n c k xs w0 w base ok hN hk hB hbase).mono ?_
  rintro e' w' ⟨h1, h2, h3, h4⟩
  rw [e] at h1 h2
  subst hy
  exact ⟨h1, h2, h3, h4⟩
end Go.Proofs.Ytkocconggohdgaa.PFnExactReadRange
