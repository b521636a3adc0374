/- Functions of the given program as plain Lean functions, each with a proof that the Go code answers just so; walked by hand. Conditions: those that each theorem names. -/
import Derived.Test.YtkocconggohdgaaPFnExactForgetFromx1
import Derived.Test.YtkocconggohdgaaPFnExactForgetFromx2
import Derived.Test.YtkocconggohdgaaPFnExactForgetFromx3
import Derived.Test.YtkocconggohdgaaPFnExactForgetFromx4
import Derived.Test.YtkocconggohdgaaPFnExactForgetFromx5
import Derived.Test.YtkocconggohdgaaPFnExactForgetFromx6
import Derived.Test.YtkocconggohdgaaPFnExactForgetFromx7
namespace Go.Proofs.Ytkocconggohdgaa.PFnExactForgetFrom
open Go.RowKit Go.Proofs.YtkocconggohdgaaW.PrintWords Go.Proofs.YtkocconggohdgaaW.PrintLast Go.Proofs.YtkocconggohdgaaW.PrintMore
attribute [local go_sem] max2_int min2_int max_two min_two max_three min_three max_four min_four   -- for this text's walks alone
set_option linter.unusedVariables false
set_option linter.unusedSimpArgs false
theorem S_sub {α : Type} {d : Kd α} {e base : Nat} {w : World} {ok : Nat → Prop} {v : Value} {f : Nat → Nat} {zs : List (α × Nat)} (h : (Kd.tag f d).R e w base ok v zs)
    (hn : ∀ (i j : Nat) (z z' : α × Nat), zs[i]? = some z → zs[j]? = some z' → z.2 = z'.2 → i = j) : d.S e w base ok v (zs.map Prod.fst) := by
  obtain ⟨h0, inner, ho, hr⟩ := h
  obtain ⟨f', hr'⟩ := Kd.reps_tag (d := d) (w := w) (base := base) (ok := fun k => ok k ∧ some k ≠ v.ownBlock) (xs := zs.map Prod.fst) (inner := inner) (fun j k => (ok k ∧ some k ≠ v.ownBlock) ∧ ∃ z, zs[j]? = some z ∧ f k = z.2)
    (by rintro i j k ⟨_, z, hz, e1⟩ ⟨_, z', hz', e2⟩; exact hn i j z z' hz hz' (e1.symm.trans e2)) (fun j k hk => hk.1) (by rw [List.length_map]; exact hr.1)
    (by intro j x hx
        rw [List.getElem?_map] at hx
        obtain ⟨z, hz, rfl⟩ := Option.map_eq_some_iff.1 hx
        exact d.M_mono (fun k hk => ⟨hk.1, z, hz, hk.2⟩) (hr.2 j z hz))
  exact ⟨f', h0, inner, by rw [List.length_zipIdx, List.length_map]; exact ho, hr'⟩
theorem nums_apart {α : Type} (q : α × Nat → Bool) (xs : List α) : ∀ (i j : Nat) (z z' : α × Nat), (xs.zipIdx.filter q)[i]? = some z → (xs.zipIdx.filter q)[j]? = some z' → z.2 = z'.2 → i = j := by
  have h1 : (xs.zipIdx).Pairwise (fun a b => a.2 < b.2) := by
    rw [List.pairwise_iff_getElem]
    intro i j hi hj hij
    simp only [List.getElem_zipIdx]
    omega
  have h2 := h1.filter q
  rw [List.pairwise_iff_getElem] at h2
  intro i j z z' hz hz' he
  obtain ⟨hi, rfl⟩ := List.getElem?_eq_some_iff.1 hz
  obtain ⟨hj, rfl⟩ := List.getElem?_eq_some_iff.1 hz'
  rcases Nat.lt_trichotomy i j with h | h | h
  · have := h2 i j hi hj h; omega
  · exact h
  · have := h2 j i hj hi h; omega
theorem filter_fst {α : Type} (q : α → Bool) (xs : List α) : (xs.zipIdx.filter (fun z => q z.1)).map Prod.fst = xs.filter q := by
  have h : xs.zipIdx.map Prod.fst = xs := by simp
  conv => rhs; rw [← h, List.filter_map]
  rfl
theorem R_beyond {α : Type} {d : Kd α} {e base g n c : Nat} {w : World} {ok : Nat → Prop} {xs : List α} (h : d.R e w base ok (.slice (some ⟨g, 0, none⟩) n c) xs) (o : Nat) (seg : List Value) (ho : n * d.sz ≤ o) (hl : o + seg.length ≤ c * d.sz) :
    d.R e (w.setCells g o seg) base ok (.slice (some ⟨g, 0, none⟩) n c) xs ∧ w.grownBy (w.setCells g o seg) (some g) := by
  obtain ⟨h0, inner, hown, hr⟩ := h
  rcases hown.2 with ⟨hv, _⟩ | ⟨g', cap, cur, hv, hbg, hg, hnc, hcm, hcs, htk⟩
  · cases hv
  · injection hv with ha hn hc
    injection ha with ha
    injection ha with ha _ _
    subst ha hn hc
    obtain ⟨cur', h3, h4, h5⟩ := setCells_row seg o w cur hg (by rw [hcs]; exact hl)
    obtain ⟨s1, s2, s3, s4⟩ := setCells_same g seg o w
    have hgb : w.grownBy (w.setCells g o seg) (some g) := ⟨s1, s2, s3, by rw [s4]; exact Nat.le_refl _, fun k _ hk => setCells_far seg _ k (fun e => hk (by rw [e]))⟩
    refine ⟨⟨h0, inner, ⟨hown.1, .inr ⟨g, c, cur', rfl, hbg, h3, hnc, hcm, by rw [h4, hcs], ?_⟩⟩, hr.imp_ (fun p cs hp => Kd.M_step hp (fun k hk hlt => hgb.block k hlt (fun he => hk.2 (by rw [he]; simp [Value.ownBlock]))))⟩, hgb⟩
    have hcl : cur.toList.length = c * d.sz := by simp [hcs]
    have hcz : xs.length * d.sz ≤ cur.toList.length := by rw [hcl]; exact Nat.mul_le_mul_right _ hnc
    rw [h5, ← htk, List.append_assoc, List.take_append_of_le_length (by rw [List.length_take]; omega), List.take_take, Nat.min_eq_left ho]
theorem run_clear_row {P : Program} (w : World) (t e ty : TypeId) (z : Value) (ht : P.underlying t = some (.slice e)) (hv : ∀ w, (zeroValue e).run P w = .ok z w) (sz : Nat) (hz : z.cells.size = sz)
    (b o n c : Nat) (cur : Array Value) (hg : w.heap[b]? = some (.cells cur e (0, 0))) (hl : o + n * sz ≤ cur.size) (hn : 0 < n) (h1 : ∀ u ∈ (Builtin.zeroCells z.cells n).toList, u.oneCell' = true) :
    (Builtin.clear_ #[t] ty #[.slice (some ⟨b, o, none⟩) n c]).run P w = .ok (.tuple #[]) (w.setCells b o (Builtin.zeroCells z.cells n).toList) := by
  have hlen : (Builtin.zeroCells z.cells n).toList.length = n * sz := by rw [Array.length_toList, size_zeroCells, hz]
  have hst := run_storeCells_cells (P := P) b o (Builtin.zeroCells z.cells n).toList 0 w (fun j hj => by rw [cell_of_row w b _ cur e (0, 0) hg]; simp; omega) (fun j _ => blk_frozen hg _) h1
  simp only [Nat.add_zero] at hst
  obtain ⟨m, rfl⟩ : ∃ m, n = m + 1 := ⟨n - 1, by omega⟩
  simp [Builtin.clear_, run_underlying ht, hv, hst]
theorem blkIdx_spec (p : S80 → Bool) : ∀ (l : List S80) (i : Nat), (blkIdx p l i = -1 ∧ ∀ x ∈ l, p x = false) ∨ ∃ k, ∃ h : k < l.length, blkIdx p l i = ((i + k : Nat) : Int) ∧ p l[k] = true ∧ ∀ x ∈ l.take k, p x = false
  | [], i => .inl ⟨rfl, by simp⟩
  | x :: xs, i => by
    cases h : p x with
    | true => exact .inr ⟨0, by simp, by simp [blkIdx, h], by simpa using h, by simp⟩
    | false =>
      rcases blkIdx_spec p xs (i + 1) with ⟨e, ha⟩ | ⟨k, hk, e, ht, ha⟩
      · refine .inl ⟨by simp [blkIdx, h, e], fun y hy => ?_⟩
        rcases List.mem_cons.1 hy with rfl | hy
        · exact h
        · exact ha y hy
      · refine .inr ⟨k + 1, by simpa using hk, by simp only [blkIdx, h]; rw [show (if false = true then (i : Int) else blkIdx p xs (i + 1)) = blkIdx p xs (i + 1) from rfl, e]; congr 1; omega, by simpa using ht, fun y hy => ?_⟩
        rw [List.take_succ_cons] at hy
        rcases List.mem_cons.1 hy with rfl | hy
        · exact h
        · exact ha y hy
/-- what the loop of DeleteFunc keeps of the row: what stays of the first j, at the head; the rest as it was -/
structure DelInv {α : Type} (q : α → Bool) (zs cur : List α) (i j : Nat) : Prop where
  len : cur.length = zs.length
  head : cur.take i = (zs.take j).filter q
  hi : i < j
  hj : j ≤ zs.length
  tail : cur.drop j = zs.drop j
  num : ((zs.take j).filter q).length = i
theorem DelInv.start {α : Type} {q : α → Bool} {zs : List α} {k : Nat} (hk : k < zs.length) (h0 : ∀ x ∈ zs.take k, q x = true) (h1 : q zs[k] = false) : DelInv q zs zs k (k + 1) := by
  have h2 : (zs.take (k + 1)).filter q = zs.take k := by
    rw [List.take_succ_eq_append_getElem hk, List.filter_append, List.filter_eq_self.2 h0]
    simp [h1]
  exact ⟨rfl, h2.symm, by omega, by omega, rfl, by rw [h2, List.length_take]; omega⟩
theorem DelInv.skip {α : Type} {q : α → Bool} {zs cur : List α} {i j : Nat} (h : DelInv q zs cur i j) (hj : j < zs.length) (h1 : q zs[j] = false) : DelInv q zs cur i (j + 1) := by
  have h2 : (zs.take (j + 1)).filter q = (zs.take j).filter q := by
    rw [List.take_succ_eq_append_getElem hj, List.filter_append]
    simp [h1]
  refine ⟨h.len, by rw [h2]; exact h.head, by have := h.hi; omega, by omega, ?_, by rw [h2]; exact h.num⟩
  have := congrArg (List.drop 1) h.tail
  rwa [List.drop_drop, List.drop_drop] at this
theorem DelInv.at_ {α : Type} {q : α → Bool} {zs cur : List α} {i j : Nat} (h : DelInv q zs cur i j) (hj : j < zs.length) : ∃ h2 : j < cur.length, cur[j] = zs[j] := by
  refine ⟨by rw [h.len]; exact hj, ?_⟩
  have := congrArg (fun l : List α => l[0]?) h.tail
  simp only [List.getElem?_drop, Nat.add_zero] at this
  rw [List.getElem?_eq_getElem (by rw [h.len]; exact hj), List.getElem?_eq_getElem hj] at this
  exact Option.some.inj this
theorem DelInv.keep {α : Type} {q : α → Bool} {zs cur : List α} {i j : Nat} (h : DelInv q zs cur i j) (hj : j < zs.length) (h1 : q zs[j] = true) : DelInv q zs (cur.set i zs[j]) (i + 1) (j + 1) := by
  have hi := h.hi
  have h2 : (zs.take (j + 1)).filter q = (zs.take j).filter q ++ [zs[j]] := by
    rw [List.take_succ_eq_append_getElem hj, List.filter_append]
    simp [h1]
  refine ⟨by rw [List.length_set]; exact h.len, ?_, by omega, by omega, ?_, by rw [h2, List.length_append, h.num]; rfl⟩
  · have hic : i < (cur.set i zs[j]).length := by rw [List.length_set, h.len]; omega
    rw [h2, List.take_succ_eq_append_getElem hic, List.getElem_set_self, List.take_set_of_le (Nat.le_refl _), h.head]
  · rw [List.drop_set_of_lt (by omega)]
    have := congrArg (List.drop 1) h.tail
    rwa [List.drop_drop, List.drop_drop] at this
set_option maxHeartbeats 4000000 in
set_option maxRecDepth 100000 in
theorem del_run (g : Nat) (lb : Array Value) (p : S80 → Bool) (eg : ∀ args w, (callFunc g args).run Try.prog w = .ok (.enter g args) w) (v : Value) (l0 : List S80) (w0 w : World) (base : Nat) (ok : Nat → Prop)
    (hp : ∀ (W : World) (x : S80) (A1 : Option Addr) (c1 : Nat), Below base w0 W → base ≤ W.heap.size → Calls Try.prog g (#[.agg #[.int .i64 x.f0, .slice A1 x.f1.length c1]] ++ lb) W fun e w' => e = .returned (.bool (p x)) ∧ Below W.heap.size W w')
    (hS : Kd.S k80 80 w base ok v l0) (hB : Below base w0 w) (hbase : base ≤ w.heap.size) :
    Calls Try.prog 63 #[v, .func (.func g) #[] lb] w fun e w' => ∃ v', e = .returned v' ∧ Kd.S k80 80 w' base ok v' (l0.filter fun x => !p x) ∧ Below base w0 w' ∧ base ≤ w'.heap.size ∧ Kept w w' ok := by
  have HP := Aside0.mk hp
  have HB0 := Aside0.mk hB
  have HSz := Aside0.mk hbase
  obtain ⟨A0, c0, rfl⟩ := Kd.S_slice hS
  obtain ⟨_, hlc, hC⟩ := Kd.S_reads' hS
  have hmax := Kd.C_max hC
  have hIF := impl_Block_83.run g lb p eg A0 c0 l0 w (fun W x A1 c1 hW _ => (HP.out W x A1 c1 (below_then HB0.out HSz.out hW) (Nat.le_trans HSz.out hW.size)).mono fun e w' h => ⟨h.1, below_then hW hW.size h.2⟩) hC
  have HS := Aside0.mk hS
  clear hS hp hB hbase hC
  rcases blkIdx_spec p l0 0 with ⟨e1, hall⟩ | ⟨k0, hk0, e1, ht, hall⟩
  · rw [e1] at hIF
    have hfl : l0.filter (fun x => !p x) = l0 := List.filter_eq_self.2 (fun x hx => by simp [hall x hx])
    rw [hfl]
    clear hfl hall e1
    go_enter Try.func63, Try.ntmps63
    go_wp2_with (go_at_call 83; refine hIF.mono ?_; rintro e w1 ⟨rfl, hb⟩; have HB1 := Aside0.mk hb; clear hb)
    go_ret
    exact ⟨_, rfl, Kd.S_below HS.out HB1.out, below_then HB0.out HSz.out HB1.out, Nat.le_trans HSz.out HB1.out.size, Kept.of_below HB1.out _⟩
  · rw [e1] at hIF
    obtain ⟨gb, cap, hv, hgb, hgl, _⟩ := Kd.S_form HS.out (by omega)
    obtain ⟨rfl, rfl⟩ : A0 = some ⟨gb, 0, none⟩ ∧ c0 = cap := by simpa using hv
    clear hv
    obtain ⟨f, hR⟩ := HS.out
    have hst := DelInv.start (q := fun z : S80 × Nat => !p z.1) (zs := l0.zipIdx) (k := k0) (by rw [List.length_zipIdx]; exact hk0) (fun z hz => by
      obtain ⟨i, hi, rfl⟩ := List.getElem_of_mem hz
      rw [List.getElem_take, List.getElem_zipIdx]
      rw [List.length_take, List.length_zipIdx] at hi
      simp only [Bool.not_eq_true']
      exact hall _ (by rw [List.mem_take_iff_getElem]; exact ⟨i, by omega, rfl⟩)) (by simp [ht])
    have HI0 := Aside0.mk hst
    have HR0 := Aside0.mk hR
    have hne1 : ((0 + k0 : Nat) : Int) = (k0 : Int) := by omega
    rw [hne1] at hIF
    have hne2 : ((k0 : Int) == -1) = false := beq_eq_false_iff_ne.2 (by omega)
    clear hst hR hall ht e1 HS
    go_enter Try.func63, Try.ntmps63
    go_wp2_with (go_at_call 83; refine hIF.mono ?_; rintro e w1 ⟨rfl, hb⟩; have HB1 := Aside0.mk hb; clear hb)
    go_loopg [5, 6, 7] l0.length (fun gg s5 s6 _ wr => ∃ (i j : Nat) (cur : List (S80 × Nat)), s5 = .int .i64 i ∧ s6 = .int .i64 j ∧ l0.length - j ≤ gg ∧ Aside0 (DelInv (fun z : S80 × Nat => !p z.1) l0.zipIdx cur i j) ∧ Aside0 ((Kd.tag f k80).R 80 wr base ok (.slice (some ⟨gb, 0, none⟩) l0.length c0) cur) ∧ Aside0 (Below base w0 wr) ∧ Aside0 (base ≤ wr.heap.size) ∧ Aside0 (Kept w wr ok))
    case atStart => exact ⟨k0, k0 + 1, l0.zipIdx, rfl, by go_num, by omega, HI0, ⟨Kd.R_below HR0.out HB1.out⟩, ⟨below_then HB0.out HSz.out HB1.out⟩, ⟨Nat.le_trans HSz.out HB1.out.size⟩, ⟨Kept.of_below HB1.out _⟩⟩
    case round =>
      clear hIF HI0 HR0 HB1
      obtain ⟨i, j, cur, rfl, rfl, hgg, HI, HR, HBr, HSr, HKr⟩ := hrel
      have hij := HI.out.hi
      have hjn := HI.out.hj
      rw [List.length_zipIdx] at hjn
      have hcl := HI.out.len
      rw [List.length_zipIdx] at hcl
      by_cases hlt : j < l0.length
      · have hltz : (j : Int) < (l0.length : Int) := by omega
        obtain ⟨hjc, hcj⟩ := HI.out.at_ (by rw [List.length_zipIdx]; exact hlt)
        obtain ⟨cs, hcsl, hM, hcc, hfz⟩ := Kd.R_elem HR.out (z80, 0) (j : Int) (by omega) (by omega)
        rw [Int.toNat_natCast] at hM hcc hfz
        have hgd : cur.getD j (z80, 0) = (l0[j], j) := by
          rw [List.getD_eq_getElem?_getD, List.getElem?_eq_getElem hjc, Option.getD_some, hcj, List.getElem_zipIdx, Nat.zero_add]
        rw [hgd] at hM
        obtain ⟨v1, rfl, hR1⟩ := k80_openM hM
        obtain ⟨A1, c1, rfl⟩ := Kd.R_slice hR1
        have q0 : wr.cell? ⟨gb, j * 2, none⟩ = some (.int .i64 l0[j].f0) := hcc 0 _ rfl
        have q1 : wr.cell? ⟨gb, j * 2 + 1, none⟩ = some (.slice A1 l0[j].f1.length c1) := hcc 1 _ rfl
        have hM' := Aside0.mk hM
        have hcall := HP.out (wr.alloc (.cells #[.int .i64 l0[j].f0, .slice A1 l0[j].f1.length c1] 80)) l0[j] A1 c1 (HBr.out.alloc HSr.out _) (by simp; have := HSr.out; omega)
        have hbn := blk_new wr (.cells #[.int .i64 l0[j].f0, .slice A1 l0[j].f1.length c1] 80)
        have HBN := Aside0.mk hbn
        clear hM hcc hfz hgd hcj hR1 hcsl hbn
        have hx : ∃ x : S80, x = l0[j] := ⟨_, rfl⟩
        obtain ⟨x, hx⟩ := hx
        rw [← hx] at q0 q1 hcall HBN hM'
        have HX := Aside0.mk hx
        clear hx
        cases hq : p x with
        | false =>
          rw [hq] at hcall
          go_wp2_with (go_at_fn g; refine hcall.mono ?_; rintro e w2 ⟨rfl, hb⟩; have hbk := blk_below HBN.out hb; have p0 : w2.cell? ⟨wr.heap.size, 0, none⟩ = some (.int .i64 x.f0) := (blk_cell hbk 0).trans rfl; have p1 : w2.cell? ⟨wr.heap.size, 1, none⟩ = some (.slice A1 x.f1.length c1) := (blk_cell hbk 1).trans rfl; have HR2 := Aside0.mk (Kd.R_below (Kd.R_alloc HR.out _) hb); obtain ⟨cs, hcsl, hMo, hcc, hfz⟩ := Kd.R_elem HR2.out (z80, 0) (i : Int) (by omega) (by omega); rw [Int.toNat_natCast] at hMo hcc hfz; obtain ⟨vo, rfl, _⟩ := k80_openM hMo; obtain ⟨o0, ho0⟩ : ∃ o0, o0 = Value.int .i64 (cur.getD i (z80, 0)).1.f0 := ⟨_, rfl⟩; have r0 : w2.cell? ⟨gb, i * 2, none⟩ = some o0 := ho0 ▸ hcc 0 _ rfl; have r1 : w2.cell? ⟨gb, i * 2 + 1, none⟩ = some vo := hcc 1 _ rfl; have f0 : w2.frozen? ⟨gb, i * 2, none⟩ = false := hfz 0; have f1 : w2.frozen? ⟨gb, i * 2 + 1, none⟩ = false := hfz 1; have HCO := Aside0.mk hcc; have HBB := Aside0.mk (below_then (HBr.out.alloc HSr.out _) (by simp; have := HSr.out; omega) hb); have HSB := Aside0.mk (Nat.le_trans (Nat.le_trans HSr.out (by simp)) hb.size); have HKB := Aside0.mk ((HKr.out.alloc _).below hb); have HMX := Aside0.mk (Kd.M_below (Kd.M_below hM'.out (below_alloc (Below.refl _ _) _)) hb); clear hb hbk hcc hfz hMo hcsl ho0)
          obtain ⟨hR3, hg3⟩ := Kd.R_seg HR2.out (i : Int) (by omega) (by omega) (seg := [.int .i64 x.f0, .slice A1 x.f1.length c1]) (j := 0) (x' := (x, j)) (okp := fun k => ok k ∧ k ≠ gb) rfl (by rw [Int.toNat_natCast]; exact HCO.out) (Nat.le_refl _) (by simpa using HMX.out) (fun k hk => hk)
          rw [Int.toNat_natCast] at hR3 hg3
          have HR3 := Aside0.mk hR3
          have HG3 := Aside0.mk hg3
          clear hR3 hg3
          go_roundg (l0.length - (j + 1))
          case measure => omega
          case rel =>
            refine ⟨i + 1, j + 1, cur.set i (x, j), by go_num, by go_num, by omega, ⟨?_⟩, HR3, ⟨HBB.out.grown HG3.out HSB.out (fun k hk => by injection hk with hk; omega)⟩, ⟨Nat.le_trans HSB.out HG3.out.size⟩, ⟨Kept.of_grown HG3.out HKB.out (fun k hk => .inl (HR.out.1 k hk))⟩⟩
            have h := HI.out.keep (by rw [List.length_zipIdx]; exact hlt) (by rw [List.getElem_zipIdx, ← HX.out]; simp [hq])
            rwa [List.getElem_zipIdx, ← HX.out, Nat.zero_add] at h
        | true => 
          rw [hq] at hcall
          go_wp2_with (go_at_fn g; refine hcall.mono ?_; rintro e w2 ⟨rfl, hb⟩; have hbk := blk_below HBN.out hb; have p0 : w2.cell? ⟨wr.heap.size, 0, none⟩ = some (.int .i64 x.f0) := (blk_cell hbk 0).trans rfl; have p1 : w2.cell? ⟨wr.heap.size, 1, none⟩ = some (.slice A1 x.f1.length c1) := (blk_cell hbk 1).trans rfl; have HR2 := Aside0.mk (Kd.R_below (Kd.R_alloc HR.out _) hb); obtain ⟨cs, hcsl, hMo, hcc, hfz⟩ := Kd.R_elem HR2.out (z80, 0) (i : Int) (by omega) (by omega); rw [Int.toNat_natCast] at hMo hcc hfz; obtain ⟨vo, rfl, _⟩ := k80_openM hMo; obtain ⟨o0, ho0⟩ : ∃ o0, o0 = Value.int .i64 (cur.getD i (z80, 0)).1.f0 := ⟨_, rfl⟩; have r0 : w2.cell? ⟨gb, i * 2, none⟩ = some o0 := ho0 ▸ hcc 0 _ rfl; have r1 : w2.cell? ⟨gb, i * 2 + 1, none⟩ = some vo := hcc 1 _ rfl; have f0 : w2.frozen? ⟨gb, i * 2, none⟩ = false := hfz 0; have f1 : w2.frozen? ⟨gb, i * 2 + 1, none⟩ = false := hfz 1; have HCO := Aside0.mk hcc; have HBB := Aside0.mk (below_then (HBr.out.alloc HSr.out _) (by simp; have := HSr.out; omega) hb); have HSB := Aside0.mk (Nat.le_trans (Nat.le_trans HSr.out (by simp)) hb.size); have HKB := Aside0.mk ((HKr.out.alloc _).below hb); have HMX := Aside0.mk (Kd.M_below (Kd.M_below hM'.out (below_alloc (Below.refl _ _) _)) hb); clear hb hbk hcc hfz hMo hcsl ho0)
          go_roundg (l0.length - (j + 1))
          case measure => omega
          case rel => 
            refine ⟨i, j + 1, cur, rfl, by go_num, by omega, ⟨HI.out.skip (by rw [List.length_zipIdx]; exact hlt) (by rw [List.getElem_zipIdx, ← HX.out]; simp [hq])⟩, HR2, HBB, HSB, HKB⟩
      · obtain rfl : j = l0.length := by omega
        have hR2 := Kd.R_take HR.out (m := i) (by omega)
        have hfi := HI.out.head
        rw [show l0.zipIdx.take l0.length = l0.zipIdx from List.take_of_length_le (by rw [List.length_zipIdx]; exact Nat.le_refl _)] at hfi
        rw [hfi] at hR2
        have hcells : ∃ cells, wr.heap[gb]? = some (.cells cells 80 (0, 0)) ∧ cells.size = c0 * 2 := by
          obtain ⟨_, inner, hown, _⟩ := HR.out
          rcases hown.2 with ⟨hv, _⟩ | ⟨g', cap, cells, hv, _, hg, _, _, hcs, _⟩
          · cases hv
          · injection hv with ha _ hc
            injection ha with ha
            injection ha with ha _ _
            subst ha hc
            exact ⟨cells, hg, hcs⟩
        obtain ⟨cells, hgb2, hcs⟩ := hcells
        obtain ⟨i0, hi0, hz0, hs0, hb0⟩ := info_parts info80
        have hcf := cut_from (P := Try.prog) 23 80 .i64 Try.underlying23 hi0 2 hs0 (some ⟨gb, 0, none⟩) l0.length c0 (i : Int) (by omega) (by omega)
        have hct := cut_to (P := Try.prog) 23 80 .i64 Try.underlying23 hi0 (some ⟨gb, 0, none⟩) l0.length c0 (i : Int) (by omega) (by omega) hlc
        rw [if_neg (by omega), Option.map_some, show (⟨gb, 0, none⟩ : Addr).add ((i : Int).toNat * 2) = ⟨gb, i * 2, none⟩ by rw [add_plain, Int.toNat_natCast], Int.toNat_natCast] at hcf
        rw [Int.toNat_natCast] at hct
        have hz : ∀ w, (zeroValue 80).run Try.prog w = .ok (.agg #[.int .i64 0, .slice none 0 0]) w := fun w => by simp [zeroValue, typeInfo, hi0, hz0]
        have h1 : ∀ u ∈ (Builtin.zeroCells (Value.agg #[.int .i64 0, .slice none 0 0]).cells (l0.length - i)).toList, u.oneCell' = true :=
          Kd.reps_one (Kd.reps_zeros (R := fun (_ : Unit) cs => ∀ u ∈ cs, u.oneCell' = true) (z0 := ()) (z := (Value.agg #[.int .i64 0, .slice none 0 0])) (size := 2) rfl (by omega) (by intro u hu; simp [Value.cells] at hu; rcases hu with rfl | rfl <;> rfl) (l0.length - i)) (by omega) (fun _ _ h => h)
        have hcl2 : ∀ ty, (Builtin.clear_ #[23] ty #[.slice (some ⟨gb, i * 2, none⟩) (l0.length - i) (c0 - i)]).run Try.prog wr = _ := fun ty => run_clear_row (P := Try.prog) wr 23 80 ty _ Try.underlying23 hz 2 rfl gb (i * 2) (l0.length - i) (c0 - i) cells hgb2 (by rw [hcs]; omega) (by omega) h1
        have hby := R_beyond hR2 (i * 2) (Builtin.zeroCells (Value.agg #[.int .i64 0, .slice none 0 0]).cells (l0.length - i)).toList (Nat.le_refl _) (by rw [Array.length_toList, size_zeroCells]; show i * 2 + (l0.length - i) * 2 ≤ c0 * 2; omega)
        obtain ⟨hby1, hby2⟩ := hby
        have HY := Aside0.mk hby1
        have HG := Aside0.mk hby2
        clear hby1 hby2 hR2 hfi hz h1 hgb2 hcs hi0 hz0 hs0 hb0
        generalize (Builtin.zeroCells (Value.agg #[.int .i64 0, .slice none 0 0]).cells (l0.length - i)).toList = zs at *
        have hltz : ¬ (l0.length : Int) < (l0.length : Int) := by omega
        go_wp2
        go_ret
        have hS := S_sub HY.out (nums_apart _ _)
        rw [filter_fst (fun x => !p x)] at hS
        exact ⟨_, rfl, hS, HBr.out.grown HG.out HSr.out (fun k hk => by injection hk with hk; omega), Nat.le_trans HSr.out HG.out.size, Kept.of_grown HG.out HKr.out (fun k hk => .inl (HR.out.1 k hk))⟩
end Go.Proofs.Ytkocconggohdgaa.PFnExactForgetFrom
