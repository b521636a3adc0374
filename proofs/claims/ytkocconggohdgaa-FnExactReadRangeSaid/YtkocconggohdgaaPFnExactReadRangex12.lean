/- Functions of the given program as plain Lean functions, each with a proof that the Go code answers just so; walked by hand. Conditions: those that each theorem names. -/
import Derived.Test.YtkocconggohdgaaPFnExactReadRangex11
namespace Go.Proofs.Ytkocconggohdgaa.PFnExactReadRange
open Go.RowKit Go.Proofs.YtkocconggohdgaaW.PrintWords Go.Proofs.YtkocconggohdgaaW.PrintLast Go.Proofs.YtkocconggohdgaaW.PrintMore
attribute [local go_sem] max2_int min2_int max_two min_two max_three min_three max_four min_four   -- for this text's walks alone
set_option linter.unusedVariables false
set_option linter.unusedSimpArgs false
theorem heap_size_alloc_ (w : World) (o : Obj) : (w.alloc o).heap.size = w.heap.size + 1 := by simp
theorem blk_new_at (w : World) (o : Obj) (k : Nat) (h : w.heap.size = k) : (w.alloc o).heap[k]? = some o := by subst h; exact blk_new w o
theorem cells3 {W : World} {g : Nat} {t : TypeId} {a b c : Value} (h : W.heap[g]? = some (.cells #[a, b, c] t (0, 0))) :
    (W.cell? ⟨g, 0, none⟩ = some a ∧ W.cell? ⟨g, 1, none⟩ = some b ∧ W.cell? ⟨g, 2, none⟩ = some c) ∧ (W.frozen? ⟨g, 0, none⟩ = false ∧ W.frozen? ⟨g, 1, none⟩ = false ∧ W.frozen? ⟨g, 2, none⟩ = false) :=
  ⟨⟨blk_cell h 0, blk_cell h 1, blk_cell h 2⟩, ⟨blk_frozen h 0, blk_frozen h 1, blk_frozen h 2⟩⟩
theorem cells2 {W : World} {g : Nat} {t : TypeId} {a b : Value} (h : W.heap[g]? = some (.cells #[a, b] t (0, 0))) :
    (W.cell? ⟨g, 0, none⟩ = some a ∧ W.cell? ⟨g, 1, none⟩ = some b) ∧ (W.frozen? ⟨g, 0, none⟩ = false ∧ W.frozen? ⟨g, 1, none⟩ = false) :=
  ⟨⟨blk_cell h 0, blk_cell h 1⟩, ⟨blk_frozen h 0, blk_frozen h 1⟩⟩
theorem cells1 {W : World} {g : Nat} {t : TypeId} {a : Value} (h : W.heap[g]? = some (.cells #[a] t (0, 0))) : W.cell? ⟨g, 0, none⟩ = some a := blk_cell h 0
theorem blkIdx_spec (p : S80 → Bool) : ∀ (l : List S80) (i : Nat), (blkIdx p l i = -1) ∨ ∃ k, ∃ h : k < l.length, blkIdx p l i = ((i + k : Nat) : Int) ∧ p l[k] = true
  | [], i => .inl rfl
  | x :: xs, i => by
    cases h : p x with
    | true => exact .inr ⟨0, by simp, by simp [blkIdx, h], by simpa using h⟩
    | false =>
      rcases blkIdx_spec p xs (i + 1) with e | ⟨k, hk, e, ht⟩
      · exact .inl (by simp [blkIdx, h, e])
      · refine .inr ⟨k + 1, by simpa using hk, by simp only [blkIdx, h]; rw [show (if false = true then (i : Int) else blkIdx p xs (i + 1)) = blkIdx p xs (i + 1) from rfl, e]; congr 1; omega, by simpa using ht⟩
/-- what is read until nothing comes -/
def impl_fetch.l0 (f : List Int) (u num most : Int) : Nat → List Int → Option (List Int)
  | 0, _ => none
  | j + 1, bs => (impl_readPart.f f (wrap64 (wrap64 (num * u) + bs.length)) (wrap64 (u - bs.length)) most).bind fun p => if p.length = 0 then some bs else if bs.length + p.length < 140737488355328 then impl_fetch.l0 f u num most j (bs ++ p) else none
/-- a block that has something goes to the end; the first ones go where there are too many -/
def impl_fetch.put (s : Int) (l : List S80) (b : S80) : Option (List Int × List S80) :=
  if 0 < b.f1.length then (if l.length < 4398046511103 then (if max 0 (wrap64 (((l.length + 1 : Nat) : Int) - s)) ≤ ((l.length + 1 : Nat) : Int) then some (b.f1, (l ++ [b]).drop (max 0 (wrap64 (((l.length + 1 : Nat) : Int) - s))).toNat) else none) else none) else some (b.f1, l)
def impl_fetch.f (k : Nat) (u s : Int) (l : List S80) (f : List Int) (num most : Int) : Option (List Int × List S80) :=
  if 0 ≤ blkIdx (fun x => x.f0 == num) l 0 then (if l.length < 4398046511103 then impl_fetch.put s (l.eraseIdx (blkIdx (fun x => x.f0 == num) l 0).toNat) (⟨num, (rd_T80 l (blkIdx (fun x => x.f0 == num) l 0)).f1⟩ : S80) else none)
  else (impl_fetch.l0 f u num most k []).bind fun bs => impl_fetch.put s l (⟨num, bs⟩ : S80)
/-- What a fetch keeps, while it runs: the cache's block, the file's, its own block's. -/
structure Fet (w0 w W : World) (G : Nat) (u s : Int) (vl : Value) (vf : Value) (num : Int) (vb : Value) : Prop where
  B : Below w0.heap.size w0 W
  K : Kept w W (fun k => k = G)
  bG : W.heap[G]? = some (.cells #[.int .i64 u, .int .i64 s, vl] 25 (0, 0))
  bf : W.heap[w.heap.size]? = some (.cells #[vf] 44 (0, 0))
  bb : W.heap[w.heap.size + 1]? = some (.cells #[.int .i64 num, vb] 80 (0, 0))
theorem Fet.below {w0 w W W' : World} {G : Nat} {u s : Int} {vl vf vb : Value} {num : Int} (h : Fet w0 w W G u s vl vf num vb) (hw : w0.heap.size ≤ w.heap.size) (hb : Below W.heap.size W W') : Fet w0 w W' G u s vl vf num vb :=
  ⟨below_then h.B (Nat.le_trans hw h.K.1) hb, h.K.below hb, blk_below h.bG hb, blk_below h.bf hb, blk_below h.bb hb⟩
theorem below_two {w0 W : World} {B g : Nat} (h : Below B w0 W) (hg : B ≤ g) (v0 v1 : Value) : Below B w0 ((W.setCell ⟨g, 0, none⟩ v0).setCell ⟨g, 1, none⟩ v1) := (h.setCell hg v0).setCell hg v1
theorem Fet.putb {w0 w W : World} {G : Nat} {u s : Int} {vl vf vb vb' : Value} {num : Int} (h : Fet w0 w W G u s vl vf num vb) (hw : w0.heap.size ≤ w.heap.size) (hG : G < w.heap.size) : Fet w0 w ((W.setCell ⟨w.heap.size + 1, 0, none⟩ (.int .i64 num)).setCell ⟨w.heap.size + 1, 1, none⟩ vb') G u s vl vf num vb' :=
  ⟨below_two h.B (by omega) _ _, (h.K.setCell (p := ⟨w.heap.size + 1, 0, none⟩) (.inr (Nat.le_succ _)) _).setCell (p := ⟨w.heap.size + 1, 1, none⟩) (.inr (Nat.le_succ _)) _,
    ((Below.heap_setCell _ ⟨w.heap.size + 1, 1, none⟩ _ G (by show G ≠ w.heap.size + 1; omega)).trans (Below.heap_setCell _ ⟨w.heap.size + 1, 0, none⟩ _ G (by show G ≠ w.heap.size + 1; omega))).trans h.bG,
    ((Below.heap_setCell _ ⟨w.heap.size + 1, 1, none⟩ _ _ (by show w.heap.size ≠ w.heap.size + 1; omega)).trans (Below.heap_setCell _ ⟨w.heap.size + 1, 0, none⟩ _ _ (by show w.heap.size ≠ w.heap.size + 1; omega))).trans h.bf,
    blk_put (cs := #[.int .i64 num, vb]) (blk_put (cs := #[.int .i64 num, vb]) h.bb 0 (.int .i64 num) rfl) 1 vb' rfl⟩
theorem Fet.putb1 {w0 w W : World} {G : Nat} {u s : Int} {vl vf vb vb' : Value} {num : Int} (h : Fet w0 w W G u s vl vf num vb) (hw : w0.heap.size ≤ w.heap.size) (hG : G < w.heap.size) : Fet w0 w (W.setCell ⟨w.heap.size + 1, 1, none⟩ vb') G u s vl vf num vb' :=
  ⟨h.B.setCell (p := ⟨w.heap.size + 1, 1, none⟩) (by show w0.heap.size ≤ w.heap.size + 1; omega) _, h.K.setCell (p := ⟨w.heap.size + 1, 1, none⟩) (.inr (Nat.le_succ _)) _,
    (Below.heap_setCell _ ⟨w.heap.size + 1, 1, none⟩ _ G (by show G ≠ w.heap.size + 1; omega)).trans h.bG,
    (Below.heap_setCell _ ⟨w.heap.size + 1, 1, none⟩ _ _ (by show w.heap.size ≠ w.heap.size + 1; omega)).trans h.bf,
    blk_put (cs := #[.int .i64 num, vb]) h.bb 1 vb' rfl⟩
theorem Fet.putG {w0 w W : World} {G : Nat} {u s : Int} {vl vl' vf vb : Value} {num : Int} (h : Fet w0 w W G u s vl vf num vb) (hG0 : w0.heap.size ≤ G) (hG : G < w.heap.size) : Fet w0 w (W.setCell ⟨G, 2, none⟩ vl') G u s vl' vf num vb :=
  ⟨h.B.setCell (p := ⟨G, 2, none⟩) hG0 _, h.K.setCell (p := ⟨G, 2, none⟩) (.inl rfl) _, blk_put (cs := #[.int .i64 u, .int .i64 s, vl]) h.bG 2 vl' rfl,
    (Below.heap_setCell _ ⟨G, 2, none⟩ _ _ (by show w.heap.size ≠ G; omega)).trans h.bf, (Below.heap_setCell _ ⟨G, 2, none⟩ _ _ (by show w.heap.size + 1 ≠ G; omega)).trans h.bb⟩
theorem Fet.grown {w0 w W W' : World} {G : Nat} {u s : Int} {vl vf vb : Value} {num : Int} (h : Fet w0 w W G u s vl vf num vb) {g : Nat} (hw : w0.heap.size ≤ w.heap.size) (hg : W.grownBy W' (some g)) (hgl : w.heap.size + 1 < g) (hG : G < w.heap.size) : Fet w0 w W' G u s vl vf num vb :=
  ⟨h.B.grown hg (Nat.le_trans hw h.K.1) (fun k hk => by injection hk with hk; omega), Kept.of_grown hg h.K (fun k hk => .inr (by injection hk with hk; omega)), blk_grown h.bG hg (by intro e; injection e with e; omega), blk_grown h.bf hg (by intro e; injection e with e; omega), blk_grown h.bb hg (by intro e; injection e with e; omega)⟩
theorem Fet.grownN {w0 w W W' : World} {G : Nat} {u s : Int} {vl vf vb : Value} {num : Int} (h : Fet w0 w W G u s vl vf num vb) (hw : w0.heap.size ≤ w.heap.size) {row : Option Nat} (hg : W.grownBy W' row) (hgl : ∀ k, row = some k → w.heap.size + 1 < k) (hG : G < w.heap.size) : Fet w0 w W' G u s vl vf num vb :=
  ⟨h.B.grown hg (Nat.le_trans hw h.K.1) (fun k hk => by have := hgl k hk; omega), Kept.of_grown hg h.K (fun k hk => .inr (by have := hgl k hk; omega)), blk_grown h.bG hg (by intro e; have := hgl _ e.symm; omega), blk_grown h.bf hg (by intro e; have := hgl _ e.symm; omega), blk_grown h.bb hg (by intro e; have := hgl _ e.symm; omega)⟩
/-- what a fetch's rows may lie in: what they lay in, what is new; never the cache's own block -/
def Okf (P : Nat → Prop) (N G : Nat) (k : Nat) : Prop := k ≠ G ∧ (P k ∨ N ≤ k)
structure Put11 (P : Nat → Prop) (w0 w W : World) (G : Nat) (u z : Int) (vl vf : Value) (num : Int) (B : Option Addr) (cb : Nat) (bs : List Int) (l1 : List S80) (v : Value) (b : Nat) : Prop where
  s : Fet w0 w W G u z vl vf num (.slice B bs.length cb)
  n : Kd.N k80 80 W w0.heap.size (Okf P w.heap.size G) v l1
  f : Kd.F k80 W (fun k => Okf P w.heap.size G k ∧ some k ≠ v.ownBlock) (some ⟨b, 0, none⟩) 1 [(⟨num, bs⟩ : S80)]
  fb : Kd.F (Kd.int .u8) W (fun k => Okf P w.heap.size G k ∧ some k ≠ v.ownBlock) B bs.length bs
  o : ∀ k, v.ownBlock = some k → w.heap.size + 1 < k
theorem F_lit {W : World} {num : Int} {bs : List Int} {B : Option Addr} {cb : Nat} {ok : Nat → Prop} (hFB : Kd.F (Kd.int .u8) W ok B bs.length bs) (hl : bs.length ≤ cb) (hW : ok W.heap.size) : Kd.F k80 (W.alloc (.cells #[.int .i64 num, .slice B bs.length cb] 80)) ok (some ⟨W.heap.size, 0, none⟩) 1 [(⟨num, bs⟩ : S80)] := fun W' hW' =>
  box_C (cl := [.int .i64 num, .slice B bs.length cb]) rfl (k80_mk W' (⟨num, bs⟩ : S80) hl (Kd.F_alloc hFB (.cells #[.int .i64 num, .slice B bs.length cb] 80) W' hW')) ((hW' W.heap.size hW (by simp)).trans (blk_new W _))
section
variable {P : Nat → Prop} {w0 w W w8 : World} {G : Nat} {u z : Int} {vl vf : Value} {num : Int} {B : Option Addr} {cb : Nat} {bs : List Int} {l1 : List S80} {v : Value} {A : Option Addr}
theorem put_57 (hS : Fet w0 w W G u z vl vf num (.slice B bs.length cb)) (hw : w0.heap.size ≤ w.heap.size) (hG : G < w.heap.size) (hFB : Kd.F (Kd.int .u8) W (Okf P w.heap.size G) B bs.length bs) (hl : bs.length ≤ cb)
    (hN : Kd.N k80 80 w8 W.heap.size (fun k => Okf P w.heap.size G k ∨ W.heap.size ≤ k) v l1) (hb : Below W.heap.size W w8) : Put11 P w0 w (w8.alloc (.cells #[.int .i64 num, .slice B bs.length cb] 80)) G u z vl vf num B cb bs l1 v w8.heap.size := by
  have hK := hS.K.1
  have h1 : Kd.F (Kd.int .u8) w8 (fun k => Okf P w.heap.size G k ∧ some k ≠ v.ownBlock) B bs.length bs := Kd.F_elder' hFB (Kd.N_base hN) hb
  have hsz := hb.size
  refine ⟨(hS.below hw hb).below hw (below_alloc (Below.refl _ _) _), Kd.N_alloc (Kd.N_lower (Kd.N_mono hN (fun k hk => by rcases hk with hk | hk; exact hk; exact ⟨by omega, .inr (by omega)⟩)) (by omega)) _, F_lit h1 hl ⟨⟨by omega, .inr (by omega)⟩, fun e => Nat.lt_irrefl _ (Kd.N_lt hN _ e.symm)⟩, Kd.F_alloc h1 _, fun k hk => Nat.lt_of_lt_of_le (blk_lt hS.bb) (Kd.N_base hN k hk)⟩
theorem put_75 (hS : Fet w0 w W G u z vl vf num (.slice B bs.length cb)) (hw : w0.heap.size ≤ w.heap.size) (hG : G < w.heap.size) (hFB : Kd.F (Kd.int .u8) W (Okf P w.heap.size G) B bs.length bs) (hl : bs.length ≤ cb)
    (hN : Kd.N k80 80 w8 (W.alloc (.cells #[.int .i64 num, .slice B bs.length cb] 80)).heap.size (fun k => Okf P w.heap.size G k ∨ (W.alloc (.cells #[.int .i64 num, .slice B bs.length cb] 80)).heap.size ≤ k) v l1) (hb : Below (W.alloc (.cells #[.int .i64 num, .slice B bs.length cb] 80)).heap.size (W.alloc (.cells #[.int .i64 num, .slice B bs.length cb] 80)) w8) : Put11 P w0 w w8 G u z vl vf num B cb bs l1 v W.heap.size := by
  have hK := hS.K.1
  have hsa : (W.alloc (.cells #[.int .i64 num, .slice B bs.length cb] 80)).heap.size = W.heap.size + 1 := by simp
  have h0 := F_lit (num := num) hFB hl (show Okf P w.heap.size G W.heap.size from ⟨by omega, .inr (by omega)⟩)
  have h1 := Kd.F_elder' (Kd.F_alloc hFB (.cells #[.int .i64 num, .slice B bs.length cb] 80)) (Kd.N_base hN) hb
  refine ⟨(hS.below hw (below_alloc (Below.refl _ _) _)).below hw hb, Kd.N_lower (Kd.N_mono hN (fun k hk => by rcases hk with hk | hk; exact hk; rw [hsa] at hk; exact ⟨by omega, .inr (by omega)⟩)) (by rw [hsa]; omega), Kd.F_elder' h0 (Kd.N_base hN) hb, h1, fun k hk => by have h2 := Kd.N_base hN k hk; have h3 := blk_lt hS.bb; rw [hsa] at h2; omega⟩
end
def impl_fetch.T11 : Bool × List (List Nat × List Nat) := (true, [([], []), ([], []), ([1], [1]), ([2], [2]), ([3], [3]), ([4], [4]), ([], []), ([6], [6]), ([5, 7, 5], [5, 7]), ([0, 0, 1, 2, 3, 4, 5, 6, 7, 8], [0]), ([9, 0, 1, 2, 3, 4, 5, 6, 7, 8], [9]), ([10, 8, 8, 0, 1, 2, 3, 4, 5, 6, 7, 8], [8, 10])])
def impl_fetch.B11 : List Nat := [0, 0, 2, 6, 14, 30, 0, 64, 254, 511, 1023, 2047]
theorem impl_fetch.tab11 : rtab .any (opsOf Try.f68 11) = impl_fetch.T11 := by kernel_rfl
theorem impl_fetch.bits11 : waitsOk impl_fetch.T11.2 impl_fetch.B11 = true := by kernel_rfl
def impl_fetch.T12 : Bool × List (List Nat × List Nat) := (true, [([], []), ([], []), ([1], [1]), ([2], [2]), ([3], [3]), ([], []), ([5], [5]), ([6], [6]), ([7], [7]), ([8], [8]), ([], []), ([10], [10]), ([11], [11]), ([12], [12]), ([9, 13], [9, 13]), ([14], [14]), ([4, 15], [4, 15]), ([0, 0, 1, 2, 3, 4, 5, 6, 7, 8, 9, 10, 11, 12, 13, 14, 15, 16], [0]), ([17, 0, 1, 2, 3, 4, 5, 6, 7, 8, 9, 10, 11, 12, 13, 14, 15, 16], [17]), ([18, 16, 0, 1, 2, 3, 4, 5, 6, 7, 8, 9, 10, 11, 12, 13, 14, 15, 16], [16, 18])])
def impl_fetch.B12 : List Nat := [0, 0, 2, 6, 14, 0, 32, 96, 224, 480, 0, 1024, 3072, 7168, 16352, 32736, 65534, 131071, 262143, 524287]
theorem impl_fetch.tab12 : rtab .any (opsOf Try.f68 12) = impl_fetch.T12 := by kernel_rfl
theorem impl_fetch.bits12 : waitsOk impl_fetch.T12.2 impl_fetch.B12 = true := by kernel_rfl
def impl_fetch.T7 : Bool × List (List Nat × List Nat) := (true, [([], []), ([], []), ([], []), ([2], [2]), ([3], [3]), ([4], [4]), ([1, 5], [1, 5]), ([], []), ([6, 7], [6, 7]), ([], []), ([9], [9]), ([10], [10]), ([11], [11]), ([], []), ([12, 13], [12, 13]), ([], []), ([0, 8, 14, 15], [0, 8, 14, 15]), ([16, 16, 0, 1, 2, 3, 4, 5, 6, 7, 8, 9, 10, 11, 12, 13, 14, 15, 16], [16])])
def impl_fetch.B7 : List Nat := [0, 0, 0, 4, 12, 28, 62, 0, 254, 0, 512, 1536, 3584, 0, 15872, 0, 65535, 131071]
theorem impl_fetch.tab7 : rtab .any (opsOf Try.f68 7) = impl_fetch.T7 := by kernel_rfl
theorem impl_fetch.bits7 : waitsOk impl_fetch.T7.2 impl_fetch.B7 = true := by kernel_rfl
set_option maxHeartbeats 8000000 in
set_option maxRecDepth 100000 in
theorem impl_fetch.calls (P : Nat → Prop) (k : Nat) (u s : Int) (l : List S80) (f : List Int) (num most : Int) (r : List Int) (l' : List S80) (G : Nat) (A : Option Addr) (c : Nat) (Af : Option Addr) (cf : Nat) (w0 w : World)
    (hB : Below w0.heap.size w0 w) (hG0 : w0.heap.size ≤ G) (hg : w.heap[G]? = some (.cells #[.int .i64 u, .int .i64 s, .slice A l.length c] 25 (0, 0))) (hF : Kd.F k80 w (fun k => k ≠ G ∧ P k) A l.length l) (hc : l.length ≤ c) (hFf : Kd.F (Kd.int .u8) w (fun k => k ≠ G) Af f.length f) (hcf : f.length ≤ cf)
    (h : impl_fetch.f k u s l f num most = some (r, l')) :
    Calls Try.prog 68 #[.pointer (some ⟨G, 0, none⟩), .agg #[.slice Af f.length cf], .int .i64 num, .int .i64 most] w fun e w' => ∃ B cb A' c', e = .returned (.slice B r.length cb) ∧ w'.heap[G]? = some (.cells #[.int .i64 u, .int .i64 s, .slice A' l'.length c'] 25 (0, 0)) ∧ Kd.F k80 w' (Okf P w.heap.size G) A' l'.length l' ∧ l'.length ≤ c' ∧ Kd.F (Kd.int .u8) w' (Okf P w.heap.size G) B r.length r ∧ r.length ≤ cb ∧ Kept w w' (fun k => k = G) ∧ Below w0.heap.size w0 w' := by
  have hu25 := Try.underlying25
  have hu44 := Try.underlying44
  have hu80 := Try.underlying80
  have hGw := blk_lt hg
  have hne0 : G ≠ w.heap.size := by omega
  have hne1 : G ≠ w.heap.size + 1 := by omega
  have hwle := hB.size
  have hlen := Kd.F_max hF
  have hF0 := Kd.F_bound hF
  have hFf0 := Kd.F_bound hFf
  have hS0 : Fet w0 w ((w.alloc (.cells #[.slice Af f.length cf] 44)).alloc (.cells #[.int .i64 num, .slice none 0 0] 80)) G u s (.slice A l.length c) (.slice Af f.length cf) num (.slice none 0 0) :=
    ⟨(hB.alloc hwle _).alloc (by simp; omega) _, ((Kept.refl w _).alloc _).alloc _, blk_alloc (blk_alloc hg _) _, blk_alloc (blk_new _ _) _, blk_new_at _ _ _ (by simp)⟩
  have hF1 := Kd.F_alloc (Kd.F_alloc hF0 (.cells #[.slice Af f.length cf] 44)) (.cells #[.int .i64 num, .slice none 0 0] 80)
  have hFf1 := Kd.F_alloc (Kd.F_alloc hFf0 (.cells #[.slice Af f.length cf] 44)) (.cells #[.int .i64 num, .slice none 0 0] 80)
  have hat := impl_blockAt.calls A c l num (blkIdx (fun x => x.f0 == num) l 0) _ (Kd.F_now hF1) hc rfl
  have hcl := cells3 hS0.bG
  have HS0 := Aside0.mk hS0
  have HF1 := Aside0.mk hF1
  have HFf1 := Aside0.mk hFf1
  have HW := Aside0.mk hwle
  have HC := Aside0.mk hc
  have HG0 := Aside0.mk hG0
  have HCf := Aside0.mk hcf
  obtain ⟨⟨z0, z1, z2⟩, _⟩ := hcl
  clear hS0 hF1 hFf1 hB hF hFf hF0 hFf0 hg hwle
  rcases blkIdx_spec (fun x => x.f0 == num) l 0 with e1 | ⟨k0, hk0, e1, ht⟩
  · rw [impl_fetch.f, e1, if_neg (by omega)] at h
    obtain ⟨bs, hl0, h⟩ := Option.bind_eq_some_iff.1 h
    rw [e1] at hat
    have HL0 := Aside0.mk hl0
    have HH := Aside0.mk h
    have hge : decide ((0 : Int) ≤ -1) = false := rfl
    clear hl0 e1 h
    go_enter Try.func68, Try.ntmps68
    go_wp2_with (go_at_call 53; refine hat.mono ?_; rintro e w2 ⟨rfl, hb⟩; have HS2 := Aside0.mk (HS0.out.below HW.out hb); have HF2 := Aside0.mk (Kd.F_below HF1.out hb); have HFf2 := Aside0.mk (Kd.F_below HFf1.out hb); have HB2 := Aside0.mk (below_step (below_alloc (below_alloc (Below.refl _ _) _) _) hb : Below w.heap.size w w2); clear hb z0 z1 z2)
    go_loopg [11, 12] k (fun gg s11 s12 wr => ∃ (bi : List Int) (vb : Value), Aside0 (impl_fetch.l0 f u num most gg bi = some bs) ∧ Aside0 (Fet w0 w wr G u s (.slice A l.length c) (.slice Af f.length cf) num vb) ∧ Aside0 (Kd.R (Kd.int .u8) 5 wr w.heap.size (fun k => w.heap.size + 1 < k) vb bi) ∧ Aside0 (Below w.heap.size w wr) ∧ Aside0 (Kd.F k80 wr (fun k => (k ≠ G ∧ P k) ∧ k < w.heap.size) A l.length l) ∧ Aside0 (Kd.F (Kd.int .u8) wr (fun k => k ≠ G ∧ k < w.heap.size) Af f.length f))
    case atStart => exact ⟨[], .slice none 0 0, HL0, HS2, ⟨Kd.R_nil _ _ _ _ _⟩, HB2, HF2, HFf2⟩
    case round =>
      clear HS2 HF2 HFf2 HB2 HS0 HF1 HFf1 hat HL0
      obtain ⟨bi, vb, HL, HS, HR, HBw, HF, HFf⟩ := hrel
      cases gk with
      | zero => exact absurd HL.out (by simp [impl_fetch.l0])
      | succ k1 =>
        have hl := HL.out
        simp only [impl_fetch.l0] at hl
        obtain ⟨p, hp1, hp2⟩ := Option.bind_eq_some_iff.1 hl
        obtain ⟨Bv, cbv, rfl⟩ := Kd.R_slice HR.out
        have HP1 := Aside0.mk hp1
        have HBC := Aside0.mk (Kd.R_reads' HR.out).2.1
        obtain ⟨⟨b0, b1⟩, ⟨b2, b3⟩⟩ := cells2 HS.out.bb
        clear hl HL hp1
        by_cases hp0 : p.length = 0
        · rw [if_pos hp0] at hp2
          obtain rfl : bi = bs := Option.some.inj hp2
          have hpb0 : ((p.length : Int) == 0) = true := by rw [hp0]; rfl
          clear hp2
          go_wp2
          replace HS := Aside0.mk (HS.out.below HW.out (below_drew (Below.refl _ _)))
          replace HR := Aside0.mk (Kd.R_drew HR.out)
          replace HBw := Aside0.mk (below_drew1 HBw.out)
          replace HF := Aside0.mk (Kd.F_drew HF.out)
          replace HFf := Aside0.mk (Kd.F_drew HFf.out)
          refine start_ (n := 18) (S := fun w' => w'.cell? ⟨w.heap.size, 0, none⟩ = some (.slice Af f.length cf) ∧ w'.cell? ⟨G, 0, none⟩ = some (.int .i64 u)) (ds := []) #[false, false, false, false, false, false, false, false, false, false, false, false, false, false, false, false, false, false] (by kernel_rfl) rfl rfl ⟨(blk_cell HS.out.bf 0).trans rfl, (blk_cell HS.out.bG 0).trans rfl⟩ (fun hHeld => ?_)
          refine with_tabW impl_fetch.tab7 impl_fetch.bits7 (fun HT_ HW_ => ?_)
          generalize wr.drew = w3 at HS HR HBw HF HFf hHeld ⊢
          refine pure_ (i := 1) (N := some 46) (v := ?_) (a' := ?_) #[false, true, false, false, false, false, false, false, false, false, false, false, false, false, false, false, false, false] rfl rfl (any_of HT_.out (by kernel_rfl)) (fun _ _ _ h => h) (Or.inl ⟨by rfl, ?_⟩) ?_ ?_
          rotate_left; (intro w'; go_simp; with_reducible rfl); rotate_left; (simp only [Act.put, List.setIfInBounds_toArray, List.set_cons_zero, List.set_cons_succ, i64_w, i32_w]; rfl)
          refine pure_ (i := 2) (N := some 47) (v := ?_) (a' := ?_) #[false, true, true, false, false, false, false, false, false, false, false, false, false, false, false, false, false, false] rfl rfl (any_of HT_.out (by kernel_rfl)) (fun _ _ _ h => h) (Or.inl ⟨by rfl, ?_⟩) ?_ ?_
          rotate_left; (intro w'; go_simp; with_reducible rfl); rotate_left; (simp only [Act.put, List.setIfInBounds_toArray, List.set_cons_zero, List.set_cons_succ, i64_w, i32_w]; rfl)
          refine pure_ (i := 3) (N := some 48) (v := ?_) (a' := ?_) #[false, true, true, true, false, false, false, false, false, false, false, false, false, false, false, false, false, false] rfl rfl (any_of HT_.out (by kernel_rfl)) (fun _ _ _ h => h) (Or.inl ⟨by rfl, ?_⟩) ?_ ?_
          rotate_left; (intro w'; go_simp; with_reducible rfl); rotate_left; (simp only [Act.put, List.setIfInBounds_toArray, List.set_cons_zero, List.set_cons_succ, i64_w, i32_w]; rfl)
          refine pure_ (i := 4) (N := some 49) (v := ?_) (a' := ?_) #[false, true, true, true, true, false, false, false, false, false, false, false, false, false, false, false, false, false] rfl rfl (any_of HT_.out (by kernel_rfl)) (fun _ _ _ h => h) (Or.inl ⟨by rfl, ?_⟩) ?_ ?_
          rotate_left; (intro w'; go_simp; with_reducible rfl); rotate_left; (simp only [Act.put, List.setIfInBounds_toArray, List.set_cons_zero, List.set_cons_succ, i64_w, i32_w]; rfl)
          refine pure_ (i := 7) (N := some 52) (v := ?_) (a' := ?_) #[false, true, true, true, true, false, false, true, false, false, false, false, false, false, false, false, false, false] rfl rfl (any_of HT_.out (by kernel_rfl)) (fun _ _ _ h => h) (Or.inl ⟨by rfl, ?_⟩) ?_ ?_
          rotate_left; (intro w'; go_simp; with_reducible rfl); rotate_left; (simp only [Act.put, List.setIfInBounds_toArray, List.set_cons_zero, List.set_cons_succ, i64_w, i32_w]; rfl)
          refine pure_ (i := 9) (N := some 54) (v := ?_) (a' := ?_) #[false, true, true, true, true, false, false, true, false, true, false, false, false, false, false, false, false, false] rfl rfl (any_of HT_.out (by kernel_rfl)) (fun _ _ _ h => h) (Or.inl ⟨by rfl, ?_⟩) ?_ ?_
          rotate_left; (intro w'; go_simp; with_reducible rfl); rotate_left; (simp only [Act.put, List.setIfInBounds_toArray, List.set_cons_zero, List.set_cons_succ, i64_w, i32_w]; rfl)
          refine pure_ (i := 10) (N := some 55) (v := ?_) (a' := ?_) #[false, true, true, true, true, false, false, true, false, true, true, false, false, false, false, false, false, false] rfl rfl (any_of HT_.out (by kernel_rfl)) (fun _ _ _ h => h) (Or.inl ⟨by rfl, ?_⟩) ?_ ?_
          rotate_left; (intro w'; go_simp; with_reducible rfl); rotate_left; (simp only [Act.put, List.setIfInBounds_toArray, List.set_cons_zero, List.set_cons_succ, i64_w, i32_w]; rfl)
          refine pure_ (i := 11) (N := some 56) (v := ?_) (a' := ?_) #[false, true, true, true, true, false, false, true, false, true, true, true, false, false, false, false, false, false] rfl rfl (any_of HT_.out (by kernel_rfl)) (fun _ _ _ h => h) (Or.inl ⟨by rfl, ?_⟩) ?_ ?_
          rotate_left; (intro w'; go_simp; with_reducible rfl); rotate_left; (simp only [Act.put, List.setIfInBounds_toArray, List.set_cons_zero, List.set_cons_succ, i64_w, i32_w]; rfl)
          refine pure_ (i := 13) (N := some 58) (v := ?_) (a' := ?_) #[false, true, true, true, true, false, false, true, false, true, true, true, false, true, false, false, false, false] rfl rfl (any_of HT_.out (by kernel_rfl)) (fun _ _ _ h => h) (Or.inl ⟨by rfl, ?_⟩) ?_ ?_
          rotate_left; (intro w'; go_simp; with_reducible rfl); rotate_left; (simp only [Act.put, List.setIfInBounds_toArray, List.set_cons_zero, List.set_cons_succ, i64_w, i32_w]; rfl)
          refine pure_ (i := 15) (N := some 60) (v := ?_) (a' := ?_) #[false, true, true, true, true, false, false, true, false, true, true, true, false, true, false, true, false, false] rfl rfl (any_of HT_.out (by kernel_rfl)) (fun _ _ _ h => h) (Or.inl ⟨by rfl, ?_⟩) ?_ ?_
          rotate_left; (intro w'; go_simp; with_reducible rfl); rotate_left; (simp only [Act.put, List.setIfInBounds_toArray, List.set_cons_zero, List.set_cons_succ, i64_w, i32_w]; rfl)
          refine take_ (i := 0) (N := some 45) (v := ?_) (a' := ?_) #[true, true, true, true, true, false, false, true, false, true, true, true, false, true, false, true, false, false] rfl rfl (take_ofW HT_.out HW_.out (by kernel_rfl)) (fun _ _ _ h => h) (Or.inl ⟨by rfl, ?_⟩) hHeld ?_ ?_
          rotate_left; (rintro w' ⟨s0, s1⟩; go_simp; with_reducible rfl); rotate_left; (simp only [Act.put, List.setIfInBounds_toArray, List.set_cons_zero, List.set_cons_succ, i64_w, i32_w]; rfl)
          refine take_ (i := 5) (N := some 50) (v := ?_) (a' := ?_) #[true, true, true, true, true, true, false, true, false, true, true, true, false, true, false, true, false, false] rfl rfl (take_ofW HT_.out HW_.out (by kernel_rfl)) (fun _ _ _ h => h) (Or.inl ⟨by rfl, ?_⟩) hHeld ?_ ?_
          rotate_left; (rintro w' ⟨s0, s1⟩; go_simp; with_reducible rfl); rotate_left; (simp only [Act.put, List.setIfInBounds_toArray, List.set_cons_zero, List.set_cons_succ, i64_w, i32_w]; rfl)
          refine pure_ (i := 6) (N := some 51) (v := ?_) (a' := ?_) #[true, true, true, true, true, true, true, true, false, true, true, true, false, true, false, true, false, false] rfl rfl (any_of HT_.out (by kernel_rfl)) (fun _ _ _ h => h) (Or.inl ⟨by rfl, ?_⟩) ?_ ?_
          rotate_left; (intro w'; go_simp; with_reducible rfl); rotate_left; (simp only [Act.put, List.setIfInBounds_toArray, List.set_cons_zero, List.set_cons_succ, i64_w, i32_w]; rfl)
          refine pure_ (i := 8) (N := some 53) (v := ?_) (a' := ?_) #[true, true, true, true, true, true, true, true, true, true, true, true, false, true, false, true, false, false] rfl rfl (any_of HT_.out (by kernel_rfl)) (fun _ _ _ h => h) (Or.inl ⟨by rfl, ?_⟩) ?_ ?_
          rotate_left; (intro w'; go_simp; with_reducible rfl); rotate_left; (simp only [Act.put, List.setIfInBounds_toArray, List.set_cons_zero, List.set_cons_succ, i64_w, i32_w]; rfl)
          refine take_ (i := 12) (N := some 57) (v := ?_) (a' := ?_) #[true, true, true, true, true, true, true, true, true, true, true, true, true, true, false, true, false, false] rfl rfl (take_ofW HT_.out HW_.out (by kernel_rfl)) (fun _ _ _ h => h) (Or.inl ⟨by rfl, ?_⟩) hHeld ?_ ?_
          rotate_left; (rintro w' ⟨s0, s1⟩; go_simp; with_reducible rfl); rotate_left; (simp only [Act.put, List.setIfInBounds_toArray, List.set_cons_zero, List.set_cons_succ, i64_w, i32_w]; rfl)
          refine pure_ (i := 14) (N := some 59) (v := ?_) (a' := ?_) #[true, true, true, true, true, true, true, true, true, true, true, true, true, true, true, true, false, false] rfl rfl (any_of HT_.out (by kernel_rfl)) (fun _ _ _ h => h) (Or.inl ⟨by rfl, ?_⟩) ?_ ?_
          rotate_left; (intro w'; go_simp; with_reducible rfl); rotate_left; (simp only [Act.put, List.setIfInBounds_toArray, List.set_cons_zero, List.set_cons_succ, i64_w, i32_w]; rfl)
          refine one_ (i := 16) (N := some 61) #[true, true, true, true, true, true, true, true, true, true, true, true, true, true, true, true, true, false] rfl rfl (one_of HT_.out (by kernel_rfl)) (by decide) (fun K hK => ?_)
          refine goes_ Try.func60 (by kernel_rfl) rfl #[.agg #[.slice Af f.length cf], .int .i64 (wrap64 (wrap64 (num * u) + bi.length)), .int .i64 (wrap64 (u - bi.length)), .int .i64 most] (by rfl) rfl rfl (by simp only [List.map_toArray, List.map_cons, List.map_nil]; rfl) ?_
          with_reducible refine (impl_readPart.calls Af cf f (wrap64 (wrap64 (num * u) + bi.length)) (wrap64 (u - bi.length)) most p _ (Kd.F_now HFf.out) HCf.out HP1.out).mono ?_
          rintro e w5 ⟨Ap, cp, rfl, hCp, hlp, hb⟩
          refine ⟨_, rfl, ?_⟩
          have HCp := Aside0.mk (hCp w5 (Kd.C_below (Kd.F_now HFf.out) hb))
          replace HS := Aside0.mk (HS.out.below HW.out hb)
          replace HR := Aside0.mk (Kd.R_below HR.out hb)
          replace HBw := Aside0.mk (below_step HBw.out hb)
          replace HF := Aside0.mk (Kd.F_below HF.out hb)
          replace HFf := Aside0.mk (Kd.F_below HFf.out hb)
          clear hb hCp
          refine hK.out _ _ ⟨(blk_cell HS.out.bf 0).trans rfl, (blk_cell HS.out.bG 0).trans rfl⟩ (fun hHeld => ?_)
          clear hK K
          refine norm_ (a' := ?_) ?_ ?_
          rotate_left
          · show Act.put _ (some 61) _ = _
            simp only [Act.put, List.setIfInBounds_toArray, List.set_cons_zero, List.set_cons_succ, i64_w, i32_w]
            rfl
          refine pure_ (i := 17) (N := some 12) (v := ?_) (a' := ?_) #[true, true, true, true, true, true, true, true, true, true, true, true, true, true, true, true, true, true] rfl rfl (any_of HT_.out (by kernel_rfl)) (fun _ _ _ h => h) (Or.inl ⟨by rfl, ?_⟩) ?_ ?_
          rotate_left; (intro w'; go_simp; with_reducible rfl); rotate_left; (simp only [Act.put, List.setIfInBounds_toArray, List.set_cons_zero, List.set_cons_succ, i64_w, i32_w]; rfl)
          refine done_ (done_of HT_.out (by kernel_rfl)) ?_
          clear hHeld
          have HS6 := HS
          have HF6 := Aside0.mk (Kd.F_mono (ok' := Okf P w.heap.size G) HF.out (fun k hk => ⟨hk.1.1, .inl hk.1.2⟩))
          have HFB6 := Aside0.mk (Kd.F_mono (ok' := Okf P w.heap.size G) (Kd.R_F HR.out) (fun k hk => ⟨by omega, .inr (by omega)⟩))
          have HL2 := HBC
          have HC6 := HC
          obtain ⟨⟨b4, b5⟩, _⟩ := cells2 HS6.out.bb
          obtain ⟨⟨y0, y1, y2⟩, ⟨f0, f1, f2⟩⟩ := cells3 HS6.out.bG
          have h := HH.out
          clear HS HR HF HFf HBw HP1 HCp b0 b1 b2 b3
          by_cases hp : 0 < bi.length
          · have hpb : decide ((0 : Int) < (bi.length : Int)) = true := decide_eq_true (by omega)
            rw [impl_fetch.put, if_pos hp] at h
            by_cases hl4 : l.length < 4398046511103
            · rw [if_pos hl4] at h
              obtain ⟨m, hm⟩ : ∃ m, max 0 (wrap64 (((l.length + 1 : Nat) : Int) - s)) = m := ⟨_, rfl⟩
              rw [hm] at h
              by_cases hm1 : m ≤ ((l.length + 1 : Nat) : Int)
              · rw [if_pos hm1] at h
                obtain ⟨l2, hl2⟩ : ∃ l2 : List S80, l2 = l ++ [(⟨num, bi⟩ : S80)] := ⟨_, rfl⟩
                rw [← hl2] at h
                obtain ⟨rfl, hl'⟩ : bi = r ∧ l2.drop m.toNat = l' := by simpa using h
                have HL' := Aside0.mk hl'
                clear hl'
                have hl3 : l.length + 1 = l2.length := by rw [hl2]; simp
                rw [hl3] at hm hm1
                have HL22 := Aside0.mk hl2
                have HL3 := Aside0.mk hl3
                have hm0 : 0 ≤ m := by omega
                clear h hl2 hl3
                go_wp2
                replace HS6 := Aside0.mk (HS6.out.below HW.out (below_drew (Below.refl _ _)))
                replace HF6 := Aside0.mk (Kd.F_drew HF6.out)
                replace HFB6 := Aside0.mk (Kd.F_drew HFB6.out)
                refine start_ (n := 12) (S := fun w' => w'.cell? ⟨G, 2, none⟩ = some (.slice A l.length c) ∧ w'.cell? ⟨w.heap.size + 1, 0, none⟩ = some (.int .i64 num) ∧ w'.cell? ⟨w.heap.size + 1, 1, none⟩ = some (.slice Bv bi.length cbv)) (ds := [11]) #[false, false, false, false, false, false, false, false, false, false, false, false] (by kernel_rfl) rfl rfl ⟨(blk_cell HS6.out.bG 2).trans rfl, (blk_cell HS6.out.bb 0).trans rfl, (blk_cell HS6.out.bb 1).trans rfl⟩ (fun hHeld => ?_)
                refine with_tabW impl_fetch.tab11 impl_fetch.bits11 (fun HT_ HW_ => ?_)
                generalize w5.drew = w7 at HS6 HF6 HFB6 hHeld ⊢
                have HS7 := HS6
                have HF7 := HF6
                have HFB7 := HFB6
                clear HS6 HF6 HFB6
                refine pure_ (i := 0) (N := some 74) (v := ?_) (a' := ?_) #[true, false, false, false, false, false, false, false, false, false, false, false] rfl rfl (any_of HT_.out (by kernel_rfl)) (fun _ _ _ h => h) (Or.inl ⟨by rfl, ?_⟩) ?_ ?_
                rotate_left; (intro w'; go_simp; with_reducible rfl); rotate_left; (simp only [Act.put, List.setIfInBounds_toArray, List.set_cons_zero, List.set_cons_succ, i64_w, i32_w]; rfl)
                refine pure_ (i := 1) (N := some 75) (v := ?_) (a' := ?_) #[true, true, false, false, false, false, false, false, false, false, false, false] rfl rfl (any_of HT_.out (by kernel_rfl)) (fun _ _ _ h => h) (Or.inl ⟨by rfl, ?_⟩) ?_ ?_
                rotate_left; (intro w'; go_simp; with_reducible rfl); rotate_left; (simp only [Act.put, List.setIfInBounds_toArray, List.set_cons_zero, List.set_cons_succ, i64_w, i32_w]; rfl)
                refine pure_ (i := 2) (N := some 76) (v := ?_) (a' := ?_) #[true, true, true, false, false, false, false, false, false, false, false, false] rfl rfl (any_of HT_.out (by kernel_rfl)) (fun _ _ _ h => h) (Or.inl ⟨by rfl, ?_⟩) ?_ ?_
                rotate_left; (intro w'; go_simp; with_reducible rfl); rotate_left; (simp only [Act.put, List.setIfInBounds_toArray, List.set_cons_zero, List.set_cons_succ, i64_w, i32_w]; rfl)
                refine pure_ (i := 3) (N := some 77) (v := ?_) (a' := ?_) #[true, true, true, true, false, false, false, false, false, false, false, false] rfl rfl (any_of HT_.out (by kernel_rfl)) (fun _ _ _ h => h) (Or.inl ⟨by rfl, ?_⟩) ?_ ?_
                rotate_left; (intro w'; go_simp; with_reducible rfl); rotate_left; (simp only [Act.put, List.setIfInBounds_toArray, List.set_cons_zero, List.set_cons_succ, i64_w, i32_w]; rfl)
                refine take_ (i := 4) (N := some 78) (v := ?_) (a' := ?_) #[true, true, true, true, true, false, false, false, false, false, false, false] rfl rfl (take_ofW HT_.out HW_.out (by kernel_rfl)) (fun _ _ _ h => h) (Or.inl ⟨by rfl, ?_⟩) hHeld ?_ ?_
                rotate_left; (rintro w' ⟨s0, s1, s2⟩; go_simp; with_reducible rfl); rotate_left; (simp only [Act.put, List.setIfInBounds_toArray, List.set_cons_zero, List.set_cons_succ, i64_w, i32_w]; rfl)
                refine take_ (i := 6) (N := some 80) (v := ?_) (a' := ?_) #[true, true, true, true, true, false, true, false, false, false, false, false] rfl rfl (take_ofW HT_.out HW_.out (by kernel_rfl)) (fun _ _ _ h => h) (Or.inl ⟨by rfl, ?_⟩) hHeld ?_ ?_
                rotate_left; (rintro w' ⟨s0, s1, s2⟩; go_simp; with_reducible rfl); rotate_left; (simp only [Act.put, List.setIfInBounds_toArray, List.set_cons_zero, List.set_cons_succ, i64_w, i32_w]; rfl)
                refine join_ (σ := Value × Nat) 4 #[true, true, true, true, true, true, true, true, false, false, false, false] (fun s_ => [(79, s_.1), (81, .slice (some ⟨s_.2, 0, none⟩) 1 1)]) (fun s_ w' => Put11 P w0 w w' G u s (.slice A l.length c) (.slice Af f.length cf) num Bv cbv bi l s_.1 s_.2) ?_ ?_
                rotate_left
                · intro hCont
                  refine two_ (i := 5) (j := 7) (Ni := some 79) (Nj := some 81) #[true, true, true, true, true, true, true, false, false, false, false, false] #[true, true, true, true, true, false, true, true, false, false, false, false] rfl rfl rfl rfl (two_of HT_.out (by kernel_rfl)) (by decide) (by decide) (fun K hK => ?_) (fun K hK => ?_)
                  · skip
                    refine goes_ Try.func93 (by kernel_rfl) rfl #[.slice A l.length c] (by rfl) rfl rfl (by simp only [List.map_toArray, List.map_cons, List.map_nil]; rfl) ?_
                    with_reducible refine (clone93 A c l _ (Okf P w.heap.size G) HF7.out (by omega)).mono ?_
                    rintro e w8 ⟨v8, rfl, hN8, hb8⟩
                    refine ⟨_, rfl, ?_⟩
                    have HS8 := Aside0.mk (HS7.out.below HW.out hb8)
                    refine hK.out _ _ ⟨(blk_cell HS8.out.bG 2).trans rfl, (blk_cell HS8.out.bb 0).trans rfl, (blk_cell HS8.out.bb 1).trans rfl⟩ (fun hHeld => ?_)
                    clear hK K
                    refine norm_ (a' := ?_) ?_ ?_
                    rotate_left
                    · show Act.put _ (some 79) _ = _
                      simp only [Act.put, List.setIfInBounds_toArray, List.set_cons_zero, List.set_cons_succ, i64_w, i32_w]
                      rfl
                    refine one_ (i := 7) (N := some 81) #[true, true, true, true, true, true, true, true, false, false, false, false] rfl rfl (one_of HT_.out (by kernel_rfl)) (by decide) (fun K hK => ?_)
                    refine value_ (w1 := ?_) (v := ?_) (by rfl) rfl ?_ ?_
                    rotate_left 2
                    · go_simp
                      constructor
                      · rfl
                      · rfl
                    have HS9 := Aside0.mk (HS8.out.below HW.out (below_alloc (Below.refl _ _) (.cells #[.int .i64 num, .slice Bv bi.length cbv] 80)))
                    refine hK.out _ _ ⟨(blk_cell HS9.out.bG 2).trans rfl, (blk_cell HS9.out.bb 0).trans rfl, (blk_cell HS9.out.bb 1).trans rfl⟩ (fun hHeld => ?_)
                    clear hK K
                    refine norm_ (a' := ?_) ?_ ?_
                    rotate_left
                    · show Act.put _ (some 81) _ = _
                      simp only [Act.put, List.setIfInBounds_toArray, List.set_cons_zero, List.set_cons_succ, i64_w, i32_w]
                      rfl
                    exact norm_ (by simp only [putAll, Act.put, List.setIfInBounds_toArray, List.set_cons_zero, List.set_cons_succ]) (hCont (v8, w8.heap.size) _ (put_57 HS7.out HW.out hGw HFB7.out HL2.out hN8 hb8))
                  · skip
                    refine value_ (w1 := ?_) (v := ?_) (by rfl) rfl ?_ ?_
                    rotate_left 2
                    · go_simp
                      constructor
                      · rfl
                      · rfl
                    have HS8 := Aside0.mk (HS7.out.below HW.out (below_alloc (Below.refl _ _) (.cells #[.int .i64 num, .slice Bv bi.length cbv] 80)))
                    refine hK.out _ _ ⟨(blk_cell HS8.out.bG 2).trans rfl, (blk_cell HS8.out.bb 0).trans rfl, (blk_cell HS8.out.bb 1).trans rfl⟩ (fun hHeld => ?_)
                    clear hK K
                    refine norm_ (a' := ?_) ?_ ?_
                    rotate_left
                    · show Act.put _ (some 81) _ = _
                      simp only [Act.put, List.setIfInBounds_toArray, List.set_cons_zero, List.set_cons_succ, i64_w, i32_w]
                      rfl
                    refine one_ (i := 5) (N := some 79) #[true, true, true, true, true, true, true, true, false, false, false, false] rfl rfl (one_of HT_.out (by kernel_rfl)) (by decide) (fun K hK => ?_)
                    refine goes_ Try.func93 (by kernel_rfl) rfl #[.slice A l.length c] (by rfl) rfl rfl (by simp only [List.map_toArray, List.map_cons, List.map_nil]; rfl) ?_
                    with_reducible refine (clone93 A c l _ (Okf P w.heap.size G) (Kd.F_alloc HF7.out (.cells #[.int .i64 num, .slice Bv bi.length cbv] 80)) (by omega)).mono ?_
                    rintro e w9 ⟨v9, rfl, hN9, hb9⟩
                    refine ⟨_, rfl, ?_⟩
                    have HS9 := Aside0.mk (HS8.out.below HW.out hb9)
                    refine hK.out _ _ ⟨(blk_cell HS9.out.bG 2).trans rfl, (blk_cell HS9.out.bb 0).trans rfl, (blk_cell HS9.out.bb 1).trans rfl⟩ (fun hHeld => ?_)
                    clear hK K
                    refine norm_ (a' := ?_) ?_ ?_
                    rotate_left
                    · show Act.put _ (some 79) _ = _
                      simp only [Act.put, List.setIfInBounds_toArray, List.set_cons_zero, List.set_cons_succ, i64_w, i32_w]
                      rfl
                    exact norm_ (by simp only [putAll, Act.put, List.setIfInBounds_toArray, List.set_cons_zero, List.set_cons_succ]) (hCont (v9, w7.heap.size) _ (put_75 HS7.out HW.out hGw HFB7.out HL2.out hN9 hb9))
                rintro ⟨v9, b9⟩ w9 hP9
                have HP9 := Aside0.mk hP9
                obtain ⟨A9, c9, ev9⟩ := Kd.N_slice hP9.n
                simp only at ev9
                subst ev9
                have hHeld : w9.cell? ⟨G, 2, none⟩ = some (.slice A l.length c) ∧ w9.cell? ⟨w.heap.size + 1, 0, none⟩ = some (.int .i64 num) ∧ w9.cell? ⟨w.heap.size + 1, 1, none⟩ = some (.slice Bv bi.length cbv) := ⟨(blk_cell HP9.out.s.bG 2).trans rfl, (blk_cell HP9.out.s.bb 0).trans rfl, (blk_cell HP9.out.s.bb 1).trans rfl⟩
                clear hP9
                refine norm_ (a' := ?_) ?_ ?_
                rotate_left
                · simp only [putAll, Act.put, List.setIfInBounds_toArray, List.set_cons_zero, List.set_cons_succ]
                  rfl
                refine one_ (i := 8) (N := some 82) #[true, true, true, true, true, true, true, true, true, false, false, false] rfl rfl (one_of HT_.out (by kernel_rfl)) (by decide) (fun K hK => ?_)
                refine Kd.N_append_rows_step k80 (w0 := w0) w0.heap.size (by rfl) (.tmp 79) (.tmp 81) 23 80 (.agg #[(.int .i64 0), (.slice none 0 0)]) 32 rfl Try.underlying23 info80 rfl (by decide) (by omega) (.slice A9 l.length c9) l [(⟨num, bi⟩ : S80)] (some ⟨b9, 0, none⟩) 1 1 (Okf P w.heap.size G) (fun k => Okf P w.heap.size G k ∧ some k ≠ (Value.slice A9 l.length c9).ownBlock) rfl rfl HP9.out.n HP9.out.f (fun k hk => hk) (fun k hk => ⟨by have := HP9.out.s.K.1; omega, .inr (by have := HP9.out.s.K.1; omega)⟩) HP9.out.s.B (Nat.le_trans HW.out HP9.out.s.K.1) (by omega) ?_
                intro v10 w10 hN10 _ hg10 _
                rw [← HL22.out] at hN10
                obtain ⟨A10, c10, ev10⟩ := Kd.N_slice hN10
                subst ev10
                have HS10 := Aside0.mk (HP9.out.s.grownN HW.out hg10 HP9.out.o hGw)
                have HFB10 := Aside0.mk (Kd.F_mono (ok' := Okf P w.heap.size G) (Kd.F_grown HP9.out.fb hg10 (fun k hk => hk.2)) (fun k hk => hk.1))
                have HN10 := Aside0.mk hN10
                clear hN10 hg10 HP9
                refine hK.out _ _ ⟨(blk_cell HS10.out.bG 2).trans rfl, (blk_cell HS10.out.bb 0).trans rfl, (blk_cell HS10.out.bb 1).trans rfl⟩ (fun hHeld => ?_)
                clear hK K
                refine norm_ (a' := ?_) ?_ ?_
                rotate_left
                · show Act.put _ (some 82) _ = _
                  simp only [Act.put, List.setIfInBounds_toArray, List.set_cons_zero, List.set_cons_succ, i64_w, i32_w]
                  rfl
                refine pure_ (i := 9) (N := some 83) (v := ?_) (a' := ?_) #[true, true, true, true, true, true, true, true, true, true, false, false] rfl rfl (any_of HT_.out (by kernel_rfl)) (fun _ _ _ h => h) (Or.inl ⟨by rfl, ?_⟩) ?_ ?_
                rotate_left; (intro w'; go_simp; with_reducible rfl); rotate_left; (simp only [Act.put, List.setIfInBounds_toArray, List.set_cons_zero, List.set_cons_succ, i64_w, i32_w]; rfl)
                refine pure_ (i := 10) (N := some 84) (v := ?_) (a' := ?_) #[true, true, true, true, true, true, true, true, true, true, true, false] rfl rfl (any_of HT_.out (by kernel_rfl)) (fun _ _ _ h => h) (Or.inl ⟨by rfl, ?_⟩) ?_ ?_
                rotate_left; (intro w'; go_simp; with_reducible rfl); rotate_left; (simp only [Act.put, List.setIfInBounds_toArray, List.set_cons_zero, List.set_cons_succ, i64_w, i32_w]; rfl)
                refine last_ (i := 11) (N := none) #[true, true, true, true, true, true, true, true, true, true, true, true] rfl rfl (one_of HT_.out (by kernel_rfl)) (by decide) (fun K hK => ?_)
                have hs11 : w10.cell? ⟨G, 2, none⟩ = some (.slice A l.length c) := (blk_cell HS10.out.bG 2).trans rfl
                have hfs11 := blk_frozen HS10.out.bG 2
                refine skip_ (w1 := ?_) (by rfl) rfl ?_ ?_
                rotate_left
                · go_simp
                  rfl
                refine hK.out _ _ ?_
                clear hK K
                refine done_ (done_of HT_.out (by kernel_rfl)) ?_
                have HS11 := Aside0.mk (HS10.out.putG (vl' := .slice A10 l2.length c10) HG0.out hGw)
                have HF11 := Aside0.mk (Kd.F_far (p := ⟨G, 2, none⟩) (Kd.N_F HN10.out) (fun k hk => hk.1) (.slice A10 l2.length c10))
                have HFB11 := Aside0.mk (Kd.F_far (p := ⟨G, 2, none⟩) HFB10.out (fun k hk => hk.1) (.slice A10 l2.length c10))
                have HC11 := Aside0.mk (Kd.N_reads' HN10.out).2.1
                obtain ⟨i0, hi0, _, hs0, _⟩ := info_parts info80
                have hcut := cut_from (P := Try.prog) 23 80 .i64 Try.underlying23 hi0 2 hs0 A10 l2.length c10 m hm0 hm1
                have hdl : l2.length - m.toNat = l'.length := by rw [← HL'.out]; simp
                have hF12 := Kd.F_imp HF11.out (fun W' h => Kd.C_drop (m := m.toNat) h (by omega) HC11.out)
                rw [HL'.out] at hF12
                have hc12 : l'.length ≤ c10 - m.toNat := by rw [← hdl]; have := HC11.out; omega
                rw [hdl] at hcut
                have hF12' : Kd.F k80 (w10.setCell ⟨G, 2, none⟩ (.slice A10 l2.length c10)) (Okf P w.heap.size G) (if c10 = m.toNat then A10 else A10.map (·.add (m.toNat * 2))) l'.length l' := hF12
                generalize (if c10 = m.toNat then A10 else A10.map (·.add (m.toNat * 2))) = A12 at hcut hF12'
                generalize c10 - m.toNat = c12 at hcut hc12
                have HF12 := Aside0.mk hF12'
                have HC12 := Aside0.mk hc12
                clear hF12 hF12' hc12 hdl hi0 hs0 HS10 HN10 HFB10 HF11 HC11
                go_wp2
                have hmx : (if 0 < wrap64 ((l2.length : Int) - s) then wrap64 ((l2.length : Int) - s) else 0) = m := by rw [← hm]; split <;> omega
                replace HS11 := Aside0.mk (HS11.out.below HW.out (below_drew (Below.refl _ _)))
                replace HF12 := Aside0.mk (Kd.F_drew HF12.out)
                replace HFB11 := Aside0.mk (Kd.F_drew HFB11.out)
                refine start_ (n := 20) (S := fun w' => w'.cell? ⟨G, 2, none⟩ = some (.slice A10 l2.length c10) ∧ w'.cell? ⟨G, 1, none⟩ = some (.int .i64 s)) (ds := [19]) #[false, false, false, false, false, false, false, false, false, false, false, false, false, false, false, false, false, false, false, false] (by kernel_rfl) rfl rfl ⟨(blk_cell HS11.out.bG 2).trans rfl, (blk_cell HS11.out.bG 1).trans rfl⟩ (fun hHeld => ?_)
                refine with_tabW impl_fetch.tab12 impl_fetch.bits12 (fun HT_ HW_ => ?_)
                generalize (World.setCell w10 ⟨G, 2, none⟩ (.slice A10 l2.length c10)).drew = w11 at HS11 HF12 HFB11 hHeld ⊢
                refine pure_ (i := 0) (N := some 85) (v := ?_) (a' := ?_) #[true, false, false, false, false, false, false, false, false, false, false, false, false, false, false, false, false, false, false, false] rfl rfl (any_of HT_.out (by kernel_rfl)) (fun _ _ _ h => h) (Or.inl ⟨by rfl, ?_⟩) ?_ ?_
                rotate_left; (intro w'; go_simp; with_reducible rfl); rotate_left; (simp only [Act.put, List.setIfInBounds_toArray, List.set_cons_zero, List.set_cons_succ, i64_w, i32_w]; rfl)
                refine pure_ (i := 1) (N := some 86) (v := ?_) (a' := ?_) #[true, true, false, false, false, false, false, false, false, false, false, false, false, false, false, false, false, false, false, false] rfl rfl (any_of HT_.out (by kernel_rfl)) (fun _ _ _ h => h) (Or.inl ⟨by rfl, ?_⟩) ?_ ?_
                rotate_left; (intro w'; go_simp; with_reducible rfl); rotate_left; (simp only [Act.put, List.setIfInBounds_toArray, List.set_cons_zero, List.set_cons_succ, i64_w, i32_w]; rfl)
                refine pure_ (i := 2) (N := some 87) (v := ?_) (a' := ?_) #[true, true, true, false, false, false, false, false, false, false, false, false, false, false, false, false, false, false, false, false] rfl rfl (any_of HT_.out (by kernel_rfl)) (fun _ _ _ h => h) (Or.inl ⟨by rfl, ?_⟩) ?_ ?_
                rotate_left; (intro w'; go_simp; with_reducible rfl); rotate_left; (simp only [Act.put, List.setIfInBounds_toArray, List.set_cons_zero, List.set_cons_succ, i64_w, i32_w]; rfl)
                refine pure_ (i := 3) (N := some 88) (v := ?_) (a' := ?_) #[true, true, true, true, false, false, false, false, false, false, false, false, false, false, false, false, false, false, false, false] rfl rfl (any_of HT_.out (by kernel_rfl)) (fun _ _ _ h => h) (Or.inl ⟨by rfl, ?_⟩) ?_ ?_
                rotate_left; (intro w'; go_simp; with_reducible rfl); rotate_left; (simp only [Act.put, List.setIfInBounds_toArray, List.set_cons_zero, List.set_cons_succ, i64_w, i32_w]; rfl)
                refine pure_ (i := 5) (N := some 90) (v := ?_) (a' := ?_) #[true, true, true, true, false, true, false, false, false, false, false, false, false, false, false, false, false, false, false, false] rfl rfl (any_of HT_.out (by kernel_rfl)) (fun _ _ _ h => h) (Or.inl ⟨by rfl, ?_⟩) ?_ ?_
                rotate_left; (intro w'; go_simp; with_reducible rfl); rotate_left; (simp only [Act.put, List.setIfInBounds_toArray, List.set_cons_zero, List.set_cons_succ, i64_w, i32_w]; rfl)
                refine pure_ (i := 6) (N := some 91) (v := ?_) (a' := ?_) #[true, true, true, true, false, true, true, false, false, false, false, false, false, false, false, false, false, false, false, false] rfl rfl (any_of HT_.out (by kernel_rfl)) (fun _ _ _ h => h) (Or.inl ⟨by rfl, ?_⟩) ?_ ?_
                rotate_left; (intro w'; go_simp; with_reducible rfl); rotate_left; (simp only [Act.put, List.setIfInBounds_toArray, List.set_cons_zero, List.set_cons_succ, i64_w, i32_w]; rfl)
                refine pure_ (i := 7) (N := some 92) (v := ?_) (a' := ?_) #[true, true, true, true, false, true, true, true, false, false, false, false, false, false, false, false, false, false, false, false] rfl rfl (any_of HT_.out (by kernel_rfl)) (fun _ _ _ h => h) (Or.inl ⟨by rfl, ?_⟩) ?_ ?_
                rotate_left; (intro w'; go_simp; with_reducible rfl); rotate_left; (simp only [Act.put, List.setIfInBounds_toArray, List.set_cons_zero, List.set_cons_succ, i64_w, i32_w]; rfl)
                refine pure_ (i := 10) (N := some 95) (v := ?_) (a' := ?_) #[true, true, true, true, false, true, true, true, false, false, true, false, false, false, false, false, false, false, false, false] rfl rfl (any_of HT_.out (by kernel_rfl)) (fun _ _ _ h => h) (Or.inl ⟨by rfl, ?_⟩) ?_ ?_
                rotate_left; (intro w'; go_simp; with_reducible rfl); rotate_left; (simp only [Act.put, List.setIfInBounds_toArray, List.set_cons_zero, List.set_cons_succ, i64_w, i32_w]; rfl)
                refine pure_ (i := 11) (N := some 96) (v := ?_) (a' := ?_) #[true, true, true, true, false, true, true, true, false, false, true, true, false, false, false, false, false, false, false, false] rfl rfl (any_of HT_.out (by kernel_rfl)) (fun _ _ _ h => h) (Or.inl ⟨by rfl, ?_⟩) ?_ ?_
                rotate_left; (intro w'; go_simp; with_reducible rfl); rotate_left; (simp only [Act.put, List.setIfInBounds_toArray, List.set_cons_zero, List.set_cons_succ, i64_w, i32_w]; rfl)
                refine pure_ (i := 12) (N := some 97) (v := ?_) (a' := ?_) #[true, true, true, true, false, true, true, true, false, false, true, true, true, false, false, false, false, false, false, false] rfl rfl (any_of HT_.out (by kernel_rfl)) (fun _ _ _ h => h) (Or.inl ⟨by rfl, ?_⟩) ?_ ?_
                rotate_left; (intro w'; go_simp; with_reducible rfl); rotate_left; (simp only [Act.put, List.setIfInBounds_toArray, List.set_cons_zero, List.set_cons_succ, i64_w, i32_w]; rfl)
                refine take_ (i := 4) (N := some 89) (v := ?_) (a' := ?_) #[true, true, true, true, true, true, true, true, false, false, true, true, true, false, false, false, false, false, false, false] rfl rfl (take_ofW HT_.out HW_.out (by kernel_rfl)) (fun _ _ _ h => h) (Or.inl ⟨by rfl, ?_⟩) hHeld ?_ ?_
                rotate_left; (rintro w' ⟨s0, s1⟩; go_simp; with_reducible rfl); rotate_left; (simp only [Act.put, List.setIfInBounds_toArray, List.set_cons_zero, List.set_cons_succ, i64_w, i32_w]; rfl)
                refine take_ (i := 8) (N := some 93) (v := ?_) (a' := ?_) #[true, true, true, true, true, true, true, true, true, false, true, true, true, false, false, false, false, false, false, false] rfl rfl (take_ofW HT_.out HW_.out (by kernel_rfl)) (fun _ _ _ h => h) (Or.inl ⟨by rfl, ?_⟩) hHeld ?_ ?_
                rotate_left; (rintro w' ⟨s0, s1⟩; go_simp; with_reducible rfl); rotate_left; (simp only [Act.put, List.setIfInBounds_toArray, List.set_cons_zero, List.set_cons_succ, i64_w, i32_w]; rfl)
                refine pure_ (i := 9) (N := some 94) (v := ?_) (a' := ?_) #[true, true, true, true, true, true, true, true, true, true, true, true, true, false, false, false, false, false, false, false] rfl rfl (any_of HT_.out (by kernel_rfl)) (fun _ _ _ h => h) (Or.inl ⟨by rfl, ?_⟩) ?_ ?_
                rotate_left; (intro w'; go_simp; with_reducible rfl); rotate_left; (simp only [Act.put, List.setIfInBounds_toArray, List.set_cons_zero, List.set_cons_succ, i64_w, i32_w]; rfl)
                refine take_ (i := 13) (N := some 98) (v := ?_) (a' := ?_) #[true, true, true, true, true, true, true, true, true, true, true, true, true, true, false, false, false, false, false, false] rfl rfl (take_ofW HT_.out HW_.out (by kernel_rfl)) (fun _ _ _ h => h) (Or.inl ⟨by rfl, ?_⟩) hHeld ?_ ?_
                rotate_left; (rintro w' ⟨s0, s1⟩; go_simp; with_reducible rfl); rotate_left; (simp only [Act.put, List.setIfInBounds_toArray, List.set_cons_zero, List.set_cons_succ, i64_w, i32_w]; rfl)
                refine pure_ (i := 14) (N := some 99) (v := ?_) (a' := ?_) #[true, true, true, true, true, true, true, true, true, true, true, true, true, true, true, false, false, false, false, false] rfl rfl (any_of HT_.out (by kernel_rfl)) (fun _ _ _ h => h) (Or.inl ⟨by rfl, ?_⟩) ?_ ?_
                rotate_left; (intro w'; go_simp; with_reducible rfl); rotate_left; (simp only [Act.put, List.setIfInBounds_toArray, List.set_cons_zero, List.set_cons_succ, i64_w, i32_w]; rfl)
                refine pure_ (i := 15) (N := some 100) (v := ?_) (a' := ?_) #[true, true, true, true, true, true, true, true, true, true, true, true, true, true, true, true, false, false, false, false] rfl rfl (any_of HT_.out (by kernel_rfl)) (fun _ _ _ h => h) (Or.inl ⟨by rfl, ?_⟩) ?_ ?_
                rotate_left; (intro w'; go_simp; with_reducible rfl); rotate_left; (simp only [Act.put, List.setIfInBounds_toArray, List.set_cons_zero, List.set_cons_succ, i64_w, i32_w]; rfl)
                refine pure_ (i := 16) (N := some 101) (v := ?_) (a' := ?_) #[true, true, true, true, true, true, true, true, true, true, true, true, true, true, true, true, true, false, false, false] rfl rfl (any_of HT_.out (by kernel_rfl)) (fun _ _ _ h => h) (Or.inl ⟨by rfl, ?_⟩) ?_ ?_
                rotate_left; (intro w'; go_simp; with_reducible rfl); rotate_left; (simp only [Act.put, List.setIfInBounds_toArray, List.set_cons_zero, List.set_cons_succ, i64_w, i32_w]; rfl)
                refine pure_ (i := 17) (N := some 102) (v := ?_) (a' := ?_) #[true, true, true, true, true, true, true, true, true, true, true, true, true, true, true, true, true, true, false, false] rfl rfl (any_of HT_.out (by kernel_rfl)) (fun _ _ _ h => h) (Or.inl ⟨by rfl, ?_⟩) ?_ ?_
                rotate_left; (intro w'; go_simp; with_reducible rfl); rotate_left; (simp only [Act.put, List.setIfInBounds_toArray, List.set_cons_zero, List.set_cons_succ, i64_w, i32_w]; rfl)
                refine pure_ (i := 18) (N := some 103) (v := ?_) (a' := ?_) #[true, true, true, true, true, true, true, true, true, true, true, true, true, true, true, true, true, true, true, false] rfl rfl (any_of HT_.out (by kernel_rfl)) (fun _ _ _ h => h) (Or.inl ⟨by rfl, ?_⟩) ?_ ?_
                rotate_left; (intro w'; go_simp; with_reducible rfl); rotate_left; (simp only [Act.put, List.setIfInBounds_toArray, List.set_cons_zero, List.set_cons_succ, i64_w, i32_w]; rfl)
                refine last_ (i := 19) (N := none) #[true, true, true, true, true, true, true, true, true, true, true, true, true, true, true, true, true, true, true, true] rfl rfl (one_of HT_.out (by kernel_rfl)) (by decide) (fun K hK => ?_)
                have hs12 : w11.cell? ⟨G, 2, none⟩ = some (.slice A10 l2.length c10) := (blk_cell HS11.out.bG 2).trans rfl
                have hfs12 := blk_frozen HS11.out.bG 2
                refine skip_ (w1 := ?_) (by rfl) rfl ?_ ?_
                rotate_left
                · go_simp
                  rfl
                refine hK.out _ _ ?_
                clear hK K
                refine done_ (done_of HT_.out (by kernel_rfl)) ?_
                have HS13 := Aside0.mk (HS11.out.putG (vl' := .slice A12 l'.length c12) HG0.out hGw)
                have HF13 := Aside0.mk (Kd.F_far (p := ⟨G, 2, none⟩) HF12.out (fun k hk => hk.1) (.slice A12 l'.length c12))
                have HFB13 := Aside0.mk (Kd.F_far (p := ⟨G, 2, none⟩) HFB11.out (fun k hk => hk.1) (.slice A12 l'.length c12))
                obtain ⟨⟨e0, e1⟩, _⟩ := cells2 HS13.out.bb
                go_wp2
                go_ret
                exact ⟨_, _, _, _, rfl, HS13.out.bG, HF13.out, HC12.out, HFB13.out, HL2.out, HS13.out.K, HS13.out.B⟩
              · rw [if_neg hm1] at h; cases h
            · rw [if_neg hl4] at h; cases h
          · have hpb : decide ((0 : Int) < (bi.length : Int)) = false := decide_eq_false (by omega)
            rw [impl_fetch.put, if_neg hp] at h
            obtain ⟨rfl, rfl⟩ : bi = r ∧ l = l' := by simpa using h
            clear h
            go_wp2
            go_ret
            exact ⟨_, _, _, _, rfl, HS6.out.bG, HF6.out, HC6.out, HFB6.out, HL2.out, HS6.out.K, HS6.out.B⟩
        · rw [if_neg hp0] at hp2
          have hpb0 : ((p.length : Int) == 0) = false := beq_eq_false_iff_ne.2 (by omega)
          by_cases hp3 : bi.length + p.length < 140737488355328
          · rw [if_pos hp3] at hp2
            have HP2 := Aside0.mk hp2
            clear hp2
            go_wp2
            replace HS := Aside0.mk (HS.out.below HW.out (below_drew (Below.refl _ _)))
            replace HR := Aside0.mk (Kd.R_drew HR.out)
            replace HBw := Aside0.mk (below_drew1 HBw.out)
            replace HF := Aside0.mk (Kd.F_drew HF.out)
            replace HFf := Aside0.mk (Kd.F_drew HFf.out)
            refine start_ (n := 18) (S := fun w' => w'.cell? ⟨w.heap.size, 0, none⟩ = some (.slice Af f.length cf) ∧ w'.cell? ⟨G, 0, none⟩ = some (.int .i64 u)) (ds := []) #[false, false, false, false, false, false, false, false, false, false, false, false, false, false, false, false, false, false] (by kernel_rfl) rfl rfl ⟨(blk_cell HS.out.bf 0).trans rfl, (blk_cell HS.out.bG 0).trans rfl⟩ (fun hHeld => ?_)
            refine with_tabW impl_fetch.tab7 impl_fetch.bits7 (fun HT_ HW_ => ?_)
            generalize wr.drew = w3 at HS HR HBw HF HFf hHeld ⊢
            refine pure_ (i := 1) (N := some 46) (v := ?_) (a' := ?_) #[false, true, false, false, false, false, false, false, false, false, false, false, false, false, false, false, false, false] rfl rfl (any_of HT_.out (by kernel_rfl)) (fun _ _ _ h => h) (Or.inl ⟨by rfl, ?_⟩) ?_ ?_
            rotate_left; (intro w'; go_simp; with_reducible rfl); rotate_left; (simp only [Act.put, List.setIfInBounds_toArray, List.set_cons_zero, List.set_cons_succ, i64_w, i32_w]; rfl)
            refine pure_ (i := 2) (N := some 47) (v := ?_) (a' := ?_) #[false, true, true, false, false, false, false, false, false, false, false, false, false, false, false, false, false, false] rfl rfl (any_of HT_.out (by kernel_rfl)) (fun _ _ _ h => h) (Or.inl ⟨by rfl, ?_⟩) ?_ ?_
            rotate_left; (intro w'; go_simp; with_reducible rfl); rotate_left; (simp only [Act.put, List.setIfInBounds_toArray, List.set_cons_zero, List.set_cons_succ, i64_w, i32_w]; rfl)
            refine pure_ (i := 3) (N := some 48) (v := ?_) (a' := ?_) #[false, true, true, true, false, false, false, false, false, false, false, false, false, false, false, false, false, false] rfl rfl (any_of HT_.out (by kernel_rfl)) (fun _ _ _ h => h) (Or.inl ⟨by rfl, ?_⟩) ?_ ?_
            rotate_left; (intro w'; go_simp; with_reducible rfl); rotate_left; (simp only [Act.put, List.setIfInBounds_toArray, List.set_cons_zero, List.set_cons_succ, i64_w, i32_w]; rfl)
            refine pure_ (i := 4) (N := some 49) (v := ?_) (a' := ?_) #[false, true, true, true, true, false, false, false, false, false, false, false, false, false, false, false, false, false] rfl rfl (any_of HT_.out (by kernel_rfl)) (fun _ _ _ h => h) (Or.inl ⟨by rfl, ?_⟩) ?_ ?_
            rotate_left; (intro w'; go_simp; with_reducible rfl); rotate_left; (simp only [Act.put, List.setIfInBounds_toArray, List.set_cons_zero, List.set_cons_succ, i64_w, i32_w]; rfl)
            refine pure_ (i := 7) (N := some 52) (v := ?_) (a' := ?_) #[false, true, true, true, true, false, false, true, false, false, false, false, false, false, false, false, false, false] rfl rfl (any_of HT_.out (by kernel_rfl)) (fun _ _ _ h => h) (Or.inl ⟨by rfl, ?_⟩) ?_ ?_
            rotate_left; (intro w'; go_simp; with_reducible rfl); rotate_left; (simp only [Act.put, List.setIfInBounds_toArray, List.set_cons_zero, List.set_cons_succ, i64_w, i32_w]; rfl)
            refine pure_ (i := 9) (N := some 54) (v := ?_) (a' := ?_) #[false, true, true, true, true, false, false, true, false, true, false, false, false, false, false, false, false, false] rfl rfl (any_of HT_.out (by kernel_rfl)) (fun _ _ _ h => h) (Or.inl ⟨by rfl, ?_⟩) ?_ ?_
            rotate_left; (intro w'; go_simp; with_reducible rfl); rotate_left; (simp only [Act.put, List.setIfInBounds_toArray, List.set_cons_zero, List.set_cons_succ, i64_w, i32_w]; rfl)
            refine pure_ (i := 10) (N := some 55) (v := ?_) (a' := ?_) #[false, true, true, true, true, false, false, true, false, true, true, false, false, false, false, false, false, false] rfl rfl (any_of HT_.out (by kernel_rfl)) (fun _ _ _ h => h) (Or.inl ⟨by rfl, ?_⟩) ?_ ?_
            rotate_left; (intro w'; go_simp; with_reducible rfl); rotate_left; (simp only [Act.put, List.setIfInBounds_toArray, List.set_cons_zero, List.set_cons_succ, i64_w, i32_w]; rfl)
            refine pure_ (i := 11) (N := some 56) (v := ?_) (a' := ?_) #[false, true, true, true, true, false, false, true, false, true, true, true, false, false, false, false, false, false] rfl rfl (any_of HT_.out (by kernel_rfl)) (fun _ _ _ h => h) (Or.inl ⟨by rfl, ?_⟩) ?_ ?_
            rotate_left; (intro w'; go_simp; with_reducible rfl); rotate_left; (simp only [Act.put, List.setIfInBounds_toArray, List.set_cons_zero, List.set_cons_succ, i64_w, i32_w]; rfl)
            refine pure_ (i := 13) (N := some 58) (v := ?_) (a' := ?_) #[false, true, true, true, true, false, false, true, false, true, true, true, false, true, false, false, false, false] rfl rfl (any_of HT_.out (by kernel_rfl)) (fun _ _ _ h => h) (Or.inl ⟨by rfl, ?_⟩) ?_ ?_
            rotate_left; (intro w'; go_simp; with_reducible rfl); rotate_left; (simp only [Act.put, List.setIfInBounds_toArray, List.set_cons_zero, List.set_cons_succ, i64_w, i32_w]; rfl)
            refine pure_ (i := 15) (N := some 60) (v := ?_) (a' := ?_) #[false, true, true, true, true, false, false, true, false, true, true, true, false, true, false, true, false, false] rfl rfl (any_of HT_.out (by kernel_rfl)) (fun _ _ _ h => h) (Or.inl ⟨by rfl, ?_⟩) ?_ ?_
            rotate_left; (intro w'; go_simp; with_reducible rfl); rotate_left; (simp only [Act.put, List.setIfInBounds_toArray, List.set_cons_zero, List.set_cons_succ, i64_w, i32_w]; rfl)
            refine take_ (i := 0) (N := some 45) (v := ?_) (a' := ?_) #[true, true, true, true, true, false, false, true, false, true, true, true, false, true, false, true, false, false] rfl rfl (take_ofW HT_.out HW_.out (by kernel_rfl)) (fun _ _ _ h => h) (Or.inl ⟨by rfl, ?_⟩) hHeld ?_ ?_
            rotate_left; (rintro w' ⟨s0, s1⟩; go_simp; with_reducible rfl); rotate_left; (simp only [Act.put, List.setIfInBounds_toArray, List.set_cons_zero, List.set_cons_succ, i64_w, i32_w]; rfl)
            refine take_ (i := 5) (N := some 50) (v := ?_) (a' := ?_) #[true, true, true, true, true, true, false, true, false, true, true, true, false, true, false, true, false, false] rfl rfl (take_ofW HT_.out HW_.out (by kernel_rfl)) (fun _ _ _ h => h) (Or.inl ⟨by rfl, ?_⟩) hHeld ?_ ?_
            rotate_left; (rintro w' ⟨s0, s1⟩; go_simp; with_reducible rfl); rotate_left; (simp only [Act.put, List.setIfInBounds_toArray, List.set_cons_zero, List.set_cons_succ, i64_w, i32_w]; rfl)
            refine pure_ (i := 6) (N := some 51) (v := ?_) (a' := ?_) #[true, true, true, true, true, true, true, true, false, true, true, true, false, true, false, true, false, false] rfl rfl (any_of HT_.out (by kernel_rfl)) (fun _ _ _ h => h) (Or.inl ⟨by rfl, ?_⟩) ?_ ?_
            rotate_left; (intro w'; go_simp; with_reducible rfl); rotate_left; (simp only [Act.put, List.setIfInBounds_toArray, List.set_cons_zero, List.set_cons_succ, i64_w, i32_w]; rfl)
            refine pure_ (i := 8) (N := some 53) (v := ?_) (a' := ?_) #[true, true, true, true, true, true, true, true, true, true, true, true, false, true, false, true, false, false] rfl rfl (any_of HT_.out (by kernel_rfl)) (fun _ _ _ h => h) (Or.inl ⟨by rfl, ?_⟩) ?_ ?_
            rotate_left; (intro w'; go_simp; with_reducible rfl); rotate_left; (simp only [Act.put, List.setIfInBounds_toArray, List.set_cons_zero, List.set_cons_succ, i64_w, i32_w]; rfl)
            refine take_ (i := 12) (N := some 57) (v := ?_) (a' := ?_) #[true, true, true, true, true, true, true, true, true, true, true, true, true, true, false, true, false, false] rfl rfl (take_ofW HT_.out HW_.out (by kernel_rfl)) (fun _ _ _ h => h) (Or.inl ⟨by rfl, ?_⟩) hHeld ?_ ?_
            rotate_left; (rintro w' ⟨s0, s1⟩; go_simp; with_reducible rfl); rotate_left; (simp only [Act.put, List.setIfInBounds_toArray, List.set_cons_zero, List.set_cons_succ, i64_w, i32_w]; rfl)
            refine pure_ (i := 14) (N := some 59) (v := ?_) (a' := ?_) #[true, true, true, true, true, true, true, true, true, true, true, true, true, true, true, true, false, false] rfl rfl (any_of HT_.out (by kernel_rfl)) (fun _ _ _ h => h) (Or.inl ⟨by rfl, ?_⟩) ?_ ?_
            rotate_left; (intro w'; go_simp; with_reducible rfl); rotate_left; (simp only [Act.put, List.setIfInBounds_toArray, List.set_cons_zero, List.set_cons_succ, i64_w, i32_w]; rfl)
            refine one_ (i := 16) (N := some 61) #[true, true, true, true, true, true, true, true, true, true, true, true, true, true, true, true, true, false] rfl rfl (one_of HT_.out (by kernel_rfl)) (by decide) (fun K hK => ?_)
            refine goes_ Try.func60 (by kernel_rfl) rfl #[.agg #[.slice Af f.length cf], .int .i64 (wrap64 (wrap64 (num * u) + bi.length)), .int .i64 (wrap64 (u - bi.length)), .int .i64 most] (by rfl) rfl rfl (by simp only [List.map_toArray, List.map_cons, List.map_nil]; rfl) ?_
            with_reducible refine (impl_readPart.calls Af cf f (wrap64 (wrap64 (num * u) + bi.length)) (wrap64 (u - bi.length)) most p _ (Kd.F_now HFf.out) HCf.out HP1.out).mono ?_
            rintro e w5 ⟨Ap, cp, rfl, hCp, hlp, hb⟩
            refine ⟨_, rfl, ?_⟩
            have HCp := Aside0.mk (hCp w5 (Kd.C_below (Kd.F_now HFf.out) hb))
            replace HS := Aside0.mk (HS.out.below HW.out hb)
            replace HR := Aside0.mk (Kd.R_below HR.out hb)
            replace HBw := Aside0.mk (below_step HBw.out hb)
            replace HF := Aside0.mk (Kd.F_below HF.out hb)
            replace HFf := Aside0.mk (Kd.F_below HFf.out hb)
            clear hb hCp
            refine hK.out _ _ ⟨(blk_cell HS.out.bf 0).trans rfl, (blk_cell HS.out.bG 0).trans rfl⟩ (fun hHeld => ?_)
            clear hK K
            refine norm_ (a' := ?_) ?_ ?_
            rotate_left
            · show Act.put _ (some 61) _ = _
              simp only [Act.put, List.setIfInBounds_toArray, List.set_cons_zero, List.set_cons_succ, i64_w, i32_w]
              rfl
            refine pure_ (i := 17) (N := some 12) (v := ?_) (a' := ?_) #[true, true, true, true, true, true, true, true, true, true, true, true, true, true, true, true, true, true] rfl rfl (any_of HT_.out (by kernel_rfl)) (fun _ _ _ h => h) (Or.inl ⟨by rfl, ?_⟩) ?_ ?_
            rotate_left; (intro w'; go_simp; with_reducible rfl); rotate_left; (simp only [Act.put, List.setIfInBounds_toArray, List.set_cons_zero, List.set_cons_succ, i64_w, i32_w]; rfl)
            refine done_ (done_of HT_.out (by kernel_rfl)) ?_
            clear hHeld
            clear b0 b1 b2 b3
            obtain ⟨⟨b0, b1⟩, ⟨b2, b3⟩⟩ := cells2 HS.out.bb
            go_wp2_with (at_builtin; refine Kd.R_append_row (Value.int .u8) (0 : Int) (h1 := fun _ => rfl) (w0 := w) w.heap.size rfl _ _ 22 5 (.int .u8 0) 1 rfl Try.underlying22 info5 rfl (by decide) (.slice Bv bi.length cbv) bi p _ _ _ (fun k => w.heap.size + 1 < k) rfl rfl (fun k hk => Nat.lt_of_lt_of_le (blk_lt HS.out.bb) hk) HR.out HCp.out HBw.out HBw.out.size (by omega) ?_; intro v6 w6 hR6 hB6 hg6 _; have HO := Aside0.mk (fun k hk => HR.out.1 k hk); have HS6 := Aside0.mk (HS.out.grownN HW.out hg6 HO.out hGw); have HB6 := Aside0.mk hB6; have HF6 := Aside0.mk (Kd.F_grown HF.out hg6 (fun k hk e => by have := HO.out k e.symm; have := hk.2; omega)); have HFf6 := Aside0.mk (Kd.F_grown HFf.out hg6 (fun k hk e => by have := HO.out k e.symm; have := hk.2; omega)); clear b0 b1 b2 b3; obtain ⟨⟨b0, b1⟩, ⟨b2, b3⟩⟩ := cells2 HS6.out.bb; obtain ⟨Bw, cw, rfl⟩ := Kd.R_slice hR6; have hR7 := hR6; rw [List.length_append] at hR7; have HR6 := Aside0.mk hR7; clear hR7; clear hR6 hB6 hg6)
            go_roundg k1
            case measure => omega
            case rel => exact ⟨bi ++ p, _, HP2, ⟨HS6.out.putb1 HW.out hGw⟩, ⟨Kd.R_far (p := ⟨w.heap.size + 1, 1, none⟩) HR6.out (fun k hk => by show k ≠ w.heap.size + 1; omega) _⟩, ⟨HB6.out.setCell (p := ⟨w.heap.size + 1, 1, none⟩) (Nat.le_succ _) _⟩, ⟨Kd.F_far (p := ⟨w.heap.size + 1, 1, none⟩) HF6.out (fun k hk => by have := hk.2; show k ≠ w.heap.size + 1; omega) _⟩, ⟨Kd.F_far (p := ⟨w.heap.size + 1, 1, none⟩) HFf6.out (fun k hk => by have := hk.2; show k ≠ w.heap.size + 1; omega) _⟩⟩
          · rw [if_neg hp3] at hp2; cases hp2
  · rw [Nat.zero_add] at e1
    rw [e1] at hat
    rw [impl_fetch.f, e1, if_pos (Int.natCast_nonneg _)] at h
    by_cases hlm : l.length < 4398046511103
    · rw [if_pos hlm, Int.toNat_natCast] at h
      have hx : rd_T80 l (k0 : Int) = l[k0] := by simp [rd_T80, hk0]
      have hnum : l[k0].f0 = num := by simpa using ht
      rw [hx] at h
      obtain ⟨bs, hbs⟩ : ∃ bs, bs = l[k0].f1 := ⟨_, rfl⟩
      obtain ⟨l1, hl1⟩ : ∃ l1, l1 = l.eraseIdx k0 := ⟨_, rfl⟩
      rw [← hbs, ← hl1] at h
      have HBS := Aside0.mk hbs
      have HL1 := Aside0.mk hl1
      clear hbs hl1
      by_cases hp : 0 < bs.length
      · have hpb : decide ((0 : Int) < (bs.length : Int)) = true := decide_eq_true (by omega)
        rw [impl_fetch.put, if_pos hp] at h
        by_cases hl4 : l1.length < 4398046511103
        · rw [if_pos hl4] at h
          obtain ⟨m, hm⟩ : ∃ m, max 0 (wrap64 (((l1.length + 1 : Nat) : Int) - s)) = m := ⟨_, rfl⟩
          rw [hm] at h
          by_cases hm1 : m ≤ ((l1.length + 1 : Nat) : Int)
          · rw [if_pos hm1] at h
            obtain ⟨l2, hl2⟩ : ∃ l2 : List S80, l2 = l1 ++ [(⟨num, bs⟩ : S80)] := ⟨_, rfl⟩
            rw [← hl2] at h
            obtain ⟨rfl, hl'⟩ : bs = r ∧ l2.drop m.toNat = l' := by simpa using h
            have HL' := Aside0.mk hl'
            clear hl'
            have hl3 : l1.length + 1 = l2.length := by rw [hl2]; simp
            rw [hl3] at hm hm1
            have HL22 := Aside0.mk hl2
            have HL3 := Aside0.mk hl3
            have hm0 : 0 ≤ m := by omega
            clear h ht e1 hl2 hl3
            have hge : decide ((0 : Int) ≤ (k0 : Int)) = true := decide_eq_true (Int.natCast_nonneg _)
            go_enter Try.func68, Try.ntmps68
            go_wp2_with (go_at_call 53; refine hat.mono ?_; rintro e w2 ⟨rfl, hb⟩; have HS := Aside0.mk (HS0.out.below HW.out hb); have HF := Aside0.mk (Kd.F_below HF1.out hb); obtain ⟨ad, cs, hA, hcsl, hFK, hcc, _⟩ := Kd.F_get HF.out z80 (k0 : Int) (by omega) (by omega); obtain rfl := hA; have hgd : l.getD ((k0 : Int).toNat) z80 = l[k0] := (by simp [hk0]); rw [hgd] at hFK; obtain ⟨A1, c1, hcse, hl1, _⟩ := k80_open (Kd.FK_now hFK); subst hcse; rw [Int.toNat_natCast] at hcc; rw [← HBS.out] at hcc hl1; have q0 : w2.cell? (ad.add (k0 * 2)) = some (.int .i64 num) := hnum ▸ hcc 0 _ rfl; have q1 : w2.cell? ⟨(ad.add (k0 * 2)).block, (ad.add (k0 * 2)).off + 1, none⟩ = some (.slice A1 bs.length c1) := (by rw [← add_field _ _ 1 (by omega)]; exact hcc 1 _ rfl); have hFb : Kd.F (Kd.int .u8) w2 (fun k => (k ≠ G ∧ P k) ∧ k < w.heap.size) A1 bs.length bs := (fun W' hW => by obtain ⟨A1', c1', e, _, h2⟩ := k80_open (hFK W' hW); injection e with _ e; injection e with e _; injection e with ea _ _; subst ea; rw [HBS.out]; exact h2); obtain ⟨⟨b0, b1⟩, ⟨b2, b3⟩⟩ := cells2 HS.out.bb; obtain ⟨⟨y0, y1, y2⟩, _⟩ := cells3 HS.out.bG; have HFB := Aside0.mk hFb; have HL2 := Aside0.mk hl1; clear z0 z1 z2 hFb hFK hcc hcsl hgd hb hl1)
            go_wp2_with (first | (go_at_call 93; refine (clone93 (some ad) c l _ (fun k => (k ≠ G ∧ P k) ∧ k < w.heap.size) (Kd.F_far (p := ⟨w.heap.size + 1, 1, none⟩) (Kd.F_far (p := ⟨w.heap.size + 1, 0, none⟩) HF.out (fun k hk => by have := hk.2; show k ≠ w.heap.size + 1; omega) _) (fun k hk => by have := hk.2; show k ≠ w.heap.size + 1; omega) _) (by omega)).mono ?_; rintro e w4 ⟨v4, rfl, hN4, hb4⟩; obtain ⟨g, cap, rfl, hgb, hgl, _⟩ := Kd.N_form hN4 (by omega); have hS3 := Fet.putb (vb' := .slice A1 bs.length c1) HS.out HW.out hGw; have HSZ := Aside0.mk (show w.heap.size + 1 < g from Nat.lt_of_lt_of_le (blk_lt hS3.bb) hgb); have HS4 := Aside0.mk (hS3.below HW.out hb4); have HN4 := Aside0.mk hN4; have HB4 := Aside0.mk hb4; have HFB3 := Aside0.mk (Kd.F_below (Kd.F_far (p := ⟨w.heap.size + 1, 1, none⟩) (Kd.F_far (p := ⟨w.heap.size + 1, 0, none⟩) HFB.out (fun k hk => by have := hk.2; show k ≠ w.heap.size + 1; omega) (.int .i64 num)) (fun k hk => by have := hk.2; show k ≠ w.heap.size + 1; omega) (.slice A1 bs.length c1)) hb4); clear hN4 hb4 hS3 y0 y1 y2) | (go_at_call 92; refine (delete92e g l.length cap k0 l l1 _ w4 _ _ HL1.out HN4.out hk0 HB4.out HB4.out.size).mono ?_; rintro e w5 ⟨rfl, hN5, hb5, hg5⟩; have HS5 := Aside0.mk (HS4.out.grown HW.out hg5 HSZ.out hGw); obtain ⟨⟨y0, y1, y2⟩, ⟨f0, f1, f2⟩⟩ := cells3 HS5.out.bG; have HS6 := Aside0.mk (HS5.out.putG (vl' := .slice (some ⟨g, 0, none⟩) l1.length cap) HG0.out hGw); have hF6 := Kd.F_far (p := ⟨G, 2, none⟩) (Kd.N_F hN5) (fun k hk => by rcases hk with hk | hk; exact hk.1.1; simp at hk; have := HS.out.K.1; show k ≠ G; omega) (.slice (some ⟨g, 0, none⟩) l1.length cap); have HF6 := Aside0.mk (Kd.F_mono (ok' := Okf P w.heap.size G) hF6 (fun k hk => by rcases hk with hk | hk; exact ⟨hk.1.1, .inl hk.1.2⟩; simp at hk; have := HS.out.K.1; exact ⟨by omega, .inr (by omega)⟩)); have HFB6 := Aside0.mk (Kd.F_mono (ok' := Okf P w.heap.size G) (Kd.F_far (p := ⟨G, 2, none⟩) (Kd.F_grown HFB3.out hg5 (fun k hk e => by injection e with e; have := hk.2; have := HSZ.out; omega)) (fun k hk => hk.1.1) (.slice (some ⟨g, 0, none⟩) l1.length cap)) (fun k hk => ⟨hk.1.1, .inl hk.1.2⟩)); obtain ⟨⟨b4, b5⟩, _⟩ := cells2 HS6.out.bb; have HC6 := Aside0.mk (Kd.N_reads' hN5).2.1; clear hN5 hb5 hg5 hF6))
            replace HS6 := Aside0.mk (HS6.out.below HW.out (below_drew (Below.refl _ _)))
            replace HF6 := Aside0.mk (Kd.F_drew HF6.out)
            replace HFB6 := Aside0.mk (Kd.F_drew HFB6.out)
            refine start_ (n := 12) (S := fun w' => w'.cell? ⟨G, 2, none⟩ = some (.slice (some ⟨g, 0, none⟩) l1.length cap) ∧ w'.cell? ⟨w.heap.size + 1, 0, none⟩ = some (.int .i64 num) ∧ w'.cell? ⟨w.heap.size + 1, 1, none⟩ = some (.slice A1 bs.length c1)) (ds := [11]) #[false, false, false, false, false, false, false, false, false, false, false, false] (by kernel_rfl) rfl rfl ⟨(blk_cell HS6.out.bG 2).trans rfl, (blk_cell HS6.out.bb 0).trans rfl, (blk_cell HS6.out.bb 1).trans rfl⟩ (fun hHeld => ?_)
            refine with_tabW impl_fetch.tab11 impl_fetch.bits11 (fun HT_ HW_ => ?_)
            generalize (World.setCell w5 ⟨G, 2, none⟩ (.slice (some ⟨g, 0, none⟩) l1.length cap)).drew = w7 at HS6 HF6 HFB6 hHeld ⊢
            have HS7 := HS6
            have HF7 := HF6
            have HFB7 := HFB6
            clear HS6 HF6 HFB6
            refine pure_ (i := 0) (N := some 74) (v := ?_) (a' := ?_) #[true, false, false, false, false, false, false, false, false, false, false, false] rfl rfl (any_of HT_.out (by kernel_rfl)) (fun _ _ _ h => h) (Or.inl ⟨by rfl, ?_⟩) ?_ ?_
            rotate_left; (intro w'; go_simp; with_reducible rfl); rotate_left; (simp only [Act.put, List.setIfInBounds_toArray, List.set_cons_zero, List.set_cons_succ, i64_w, i32_w]; rfl)
            refine pure_ (i := 1) (N := some 75) (v := ?_) (a' := ?_) #[true, true, false, false, false, false, false, false, false, false, false, false] rfl rfl (any_of HT_.out (by kernel_rfl)) (fun _ _ _ h => h) (Or.inl ⟨by rfl, ?_⟩) ?_ ?_
            rotate_left; (intro w'; go_simp; with_reducible rfl); rotate_left; (simp only [Act.put, List.setIfInBounds_toArray, List.set_cons_zero, List.set_cons_succ, i64_w, i32_w]; rfl)
            refine pure_ (i := 2) (N := some 76) (v := ?_) (a' := ?_) #[true, true, true, false, false, false, false, false, false, false, false, false] rfl rfl (any_of HT_.out (by kernel_rfl)) (fun _ _ _ h => h) (Or.inl ⟨by rfl, ?_⟩) ?_ ?_
            rotate_left; (intro w'; go_simp; with_reducible rfl); rotate_left; (simp only [Act.put, List.setIfInBounds_toArray, List.set_cons_zero, List.set_cons_succ, i64_w, i32_w]; rfl)
            refine pure_ (i := 3) (N := some 77) (v := ?_) (a' := ?_) #[true, true, true, true, false, false, false, false, false, false, false, false] rfl rfl (any_of HT_.out (by kernel_rfl)) (fun _ _ _ h => h) (Or.inl ⟨by rfl, ?_⟩) ?_ ?_
            rotate_left; (intro w'; go_simp; with_reducible rfl); rotate_left; (simp only [Act.put, List.setIfInBounds_toArray, List.set_cons_zero, List.set_cons_succ, i64_w, i32_w]; rfl)
            refine take_ (i := 4) (N := some 78) (v := ?_) (a' := ?_) #[true, true, true, true, true, false, false, false, false, false, false, false] rfl rfl (take_ofW HT_.out HW_.out (by kernel_rfl)) (fun _ _ _ h => h) (Or.inl ⟨by rfl, ?_⟩) hHeld ?_ ?_
            rotate_left; (rintro w' ⟨s0, s1, s2⟩; go_simp; with_reducible rfl); rotate_left; (simp only [Act.put, List.setIfInBounds_toArray, List.set_cons_zero, List.set_cons_succ, i64_w, i32_w]; rfl)
            refine take_ (i := 6) (N := some 80) (v := ?_) (a' := ?_) #[true, true, true, true, true, false, true, false, false, false, false, false] rfl rfl (take_ofW HT_.out HW_.out (by kernel_rfl)) (fun _ _ _ h => h) (Or.inl ⟨by rfl, ?_⟩) hHeld ?_ ?_
            rotate_left; (rintro w' ⟨s0, s1, s2⟩; go_simp; with_reducible rfl); rotate_left; (simp only [Act.put, List.setIfInBounds_toArray, List.set_cons_zero, List.set_cons_succ, i64_w, i32_w]; rfl)
            refine join_ (σ := Value × Nat) 4 #[true, true, true, true, true, true, true, true, false, false, false, false] (fun s_ => [(79, s_.1), (81, .slice (some ⟨s_.2, 0, none⟩) 1 1)]) (fun s_ w' => Put11 P w0 w w' G u s (.slice (some ⟨g, 0, none⟩) l1.length cap) (.slice Af f.length cf) num A1 c1 bs l1 s_.1 s_.2) ?_ ?_
            rotate_left
            · intro hCont
              refine two_ (i := 5) (j := 7) (Ni := some 79) (Nj := some 81) #[true, true, true, true, true, true, true, false, false, false, false, false] #[true, true, true, true, true, false, true, true, false, false, false, false] rfl rfl rfl rfl (two_of HT_.out (by kernel_rfl)) (by decide) (by decide) (fun K hK => ?_) (fun K hK => ?_)
              · skip
                refine goes_ Try.func93 (by kernel_rfl) rfl #[.slice (some ⟨g, 0, none⟩) l1.length cap] (by rfl) rfl rfl (by simp only [List.map_toArray, List.map_cons, List.map_nil]; rfl) ?_
                with_reducible refine (clone93 (some ⟨g, 0, none⟩) cap l1 _ (Okf P w.heap.size G) HF7.out (by omega)).mono ?_
                rintro e w8 ⟨v8, rfl, hN8, hb8⟩
                refine ⟨_, rfl, ?_⟩
                have HS8 := Aside0.mk (HS7.out.below HW.out hb8)
                refine hK.out _ _ ⟨(blk_cell HS8.out.bG 2).trans rfl, (blk_cell HS8.out.bb 0).trans rfl, (blk_cell HS8.out.bb 1).trans rfl⟩ (fun hHeld => ?_)
                clear hK K
                refine norm_ (a' := ?_) ?_ ?_
                rotate_left
                · show Act.put _ (some 79) _ = _
                  simp only [Act.put, List.setIfInBounds_toArray, List.set_cons_zero, List.set_cons_succ, i64_w, i32_w]
                  rfl
                refine one_ (i := 7) (N := some 81) #[true, true, true, true, true, true, true, true, false, false, false, false] rfl rfl (one_of HT_.out (by kernel_rfl)) (by decide) (fun K hK => ?_)
                refine value_ (w1 := ?_) (v := ?_) (by rfl) rfl ?_ ?_
                rotate_left 2
                · go_simp
                  constructor
                  · rfl
                  · rfl
                have HS9 := Aside0.mk (HS8.out.below HW.out (below_alloc (Below.refl _ _) (.cells #[.int .i64 num, .slice A1 bs.length c1] 80)))
                refine hK.out _ _ ⟨(blk_cell HS9.out.bG 2).trans rfl, (blk_cell HS9.out.bb 0).trans rfl, (blk_cell HS9.out.bb 1).trans rfl⟩ (fun hHeld => ?_)
                clear hK K
                refine norm_ (a' := ?_) ?_ ?_
                rotate_left
                · show Act.put _ (some 81) _ = _
                  simp only [Act.put, List.setIfInBounds_toArray, List.set_cons_zero, List.set_cons_succ, i64_w, i32_w]
                  rfl
                exact norm_ (by simp only [putAll, Act.put, List.setIfInBounds_toArray, List.set_cons_zero, List.set_cons_succ]) (hCont (v8, w8.heap.size) _ (put_57 HS7.out HW.out hGw HFB7.out HL2.out hN8 hb8))
              · skip
                refine value_ (w1 := ?_) (v := ?_) (by rfl) rfl ?_ ?_
                rotate_left 2
                · go_simp
                  constructor
                  · rfl
                  · rfl
                have HS8 := Aside0.mk (HS7.out.below HW.out (below_alloc (Below.refl _ _) (.cells #[.int .i64 num, .slice A1 bs.length c1] 80)))
                refine hK.out _ _ ⟨(blk_cell HS8.out.bG 2).trans rfl, (blk_cell HS8.out.bb 0).trans rfl, (blk_cell HS8.out.bb 1).trans rfl⟩ (fun hHeld => ?_)
                clear hK K
                refine norm_ (a' := ?_) ?_ ?_
                rotate_left
                · show Act.put _ (some 81) _ = _
                  simp only [Act.put, List.setIfInBounds_toArray, List.set_cons_zero, List.set_cons_succ, i64_w, i32_w]
                  rfl
                refine one_ (i := 5) (N := some 79) #[true, true, true, true, true, true, true, true, false, false, false, false] rfl rfl (one_of HT_.out (by kernel_rfl)) (by decide) (fun K hK => ?_)
                refine goes_ Try.func93 (by kernel_rfl) rfl #[.slice (some ⟨g, 0, none⟩) l1.length cap] (by rfl) rfl rfl (by simp only [List.map_toArray, List.map_cons, List.map_nil]; rfl) ?_
                with_reducible refine (clone93 (some ⟨g, 0, none⟩) cap l1 _ (Okf P w.heap.size G) (Kd.F_alloc HF7.out (.cells #[.int .i64 num, .slice A1 bs.length c1] 80)) (by omega)).mono ?_
                rintro e w9 ⟨v9, rfl, hN9, hb9⟩
                refine ⟨_, rfl, ?_⟩
                have HS9 := Aside0.mk (HS8.out.below HW.out hb9)
                refine hK.out _ _ ⟨(blk_cell HS9.out.bG 2).trans rfl, (blk_cell HS9.out.bb 0).trans rfl, (blk_cell HS9.out.bb 1).trans rfl⟩ (fun hHeld => ?_)
                clear hK K
                refine norm_ (a' := ?_) ?_ ?_
                rotate_left
                · show Act.put _ (some 79) _ = _
                  simp only [Act.put, List.setIfInBounds_toArray, List.set_cons_zero, List.set_cons_succ, i64_w, i32_w]
                  rfl
                exact norm_ (by simp only [putAll, Act.put, List.setIfInBounds_toArray, List.set_cons_zero, List.set_cons_succ]) (hCont (v9, w7.heap.size) _ (put_75 HS7.out HW.out hGw HFB7.out HL2.out hN9 hb9))
            rintro ⟨v9, b9⟩ w9 hP9
            have HP9 := Aside0.mk hP9
            obtain ⟨A9, c9, ev9⟩ := Kd.N_slice hP9.n
            simp only at ev9
            subst ev9
            have hHeld : w9.cell? ⟨G, 2, none⟩ = some (.slice (some ⟨g, 0, none⟩) l1.length cap) ∧ w9.cell? ⟨w.heap.size + 1, 0, none⟩ = some (.int .i64 num) ∧ w9.cell? ⟨w.heap.size + 1, 1, none⟩ = some (.slice A1 bs.length c1) := ⟨(blk_cell HP9.out.s.bG 2).trans rfl, (blk_cell HP9.out.s.bb 0).trans rfl, (blk_cell HP9.out.s.bb 1).trans rfl⟩
            clear hP9
            refine norm_ (a' := ?_) ?_ ?_
            rotate_left
            · simp only [putAll, Act.put, List.setIfInBounds_toArray, List.set_cons_zero, List.set_cons_succ]
              rfl
            refine one_ (i := 8) (N := some 82) #[true, true, true, true, true, true, true, true, true, false, false, false] rfl rfl (one_of HT_.out (by kernel_rfl)) (by decide) (fun K hK => ?_)
            refine Kd.N_append_rows_step k80 (w0 := w0) w0.heap.size (by rfl) (.tmp 79) (.tmp 81) 23 80 (.agg #[(.int .i64 0), (.slice none 0 0)]) 32 rfl Try.underlying23 info80 rfl (by decide) (by omega) (.slice A9 l1.length c9) l1 [(⟨num, bs⟩ : S80)] (some ⟨b9, 0, none⟩) 1 1 (Okf P w.heap.size G) (fun k => Okf P w.heap.size G k ∧ some k ≠ (Value.slice A9 l1.length c9).ownBlock) rfl rfl HP9.out.n HP9.out.f (fun k hk => hk) (fun k hk => ⟨by have := HP9.out.s.K.1; omega, .inr (by have := HP9.out.s.K.1; omega)⟩) HP9.out.s.B (Nat.le_trans HW.out HP9.out.s.K.1) (by omega) ?_
            intro v10 w10 hN10 _ hg10 _
            rw [← HL22.out] at hN10
            obtain ⟨A10, c10, ev10⟩ := Kd.N_slice hN10
            subst ev10
            have HS10 := Aside0.mk (HP9.out.s.grownN HW.out hg10 HP9.out.o hGw)
            have HFB10 := Aside0.mk (Kd.F_mono (ok' := Okf P w.heap.size G) (Kd.F_grown HP9.out.fb hg10 (fun k hk => hk.2)) (fun k hk => hk.1))
            have HN10 := Aside0.mk hN10
            clear hN10 hg10 HP9
            refine hK.out _ _ ⟨(blk_cell HS10.out.bG 2).trans rfl, (blk_cell HS10.out.bb 0).trans rfl, (blk_cell HS10.out.bb 1).trans rfl⟩ (fun hHeld => ?_)
            clear hK K
            refine norm_ (a' := ?_) ?_ ?_
            rotate_left
            · show Act.put _ (some 82) _ = _
              simp only [Act.put, List.setIfInBounds_toArray, List.set_cons_zero, List.set_cons_succ, i64_w, i32_w]
              rfl
            refine pure_ (i := 9) (N := some 83) (v := ?_) (a' := ?_) #[true, true, true, true, true, true, true, true, true, true, false, false] rfl rfl (any_of HT_.out (by kernel_rfl)) (fun _ _ _ h => h) (Or.inl ⟨by rfl, ?_⟩) ?_ ?_
            rotate_left; (intro w'; go_simp; with_reducible rfl); rotate_left; (simp only [Act.put, List.setIfInBounds_toArray, List.set_cons_zero, List.set_cons_succ, i64_w, i32_w]; rfl)
            refine pure_ (i := 10) (N := some 84) (v := ?_) (a' := ?_) #[true, true, true, true, true, true, true, true, true, true, true, false] rfl rfl (any_of HT_.out (by kernel_rfl)) (fun _ _ _ h => h) (Or.inl ⟨by rfl, ?_⟩) ?_ ?_
            rotate_left; (intro w'; go_simp; with_reducible rfl); rotate_left; (simp only [Act.put, List.setIfInBounds_toArray, List.set_cons_zero, List.set_cons_succ, i64_w, i32_w]; rfl)
            refine last_ (i := 11) (N := none) #[true, true, true, true, true, true, true, true, true, true, true, true] rfl rfl (one_of HT_.out (by kernel_rfl)) (by decide) (fun K hK => ?_)
            have hs11 : w10.cell? ⟨G, 2, none⟩ = some (.slice (some ⟨g, 0, none⟩) l1.length cap) := (blk_cell HS10.out.bG 2).trans rfl
            have hfs11 := blk_frozen HS10.out.bG 2
            refine skip_ (w1 := ?_) (by rfl) rfl ?_ ?_
            rotate_left
            · go_simp
              rfl
            refine hK.out _ _ ?_
            clear hK K
            refine done_ (done_of HT_.out (by kernel_rfl)) ?_
            have HS11 := Aside0.mk (HS10.out.putG (vl' := .slice A10 l2.length c10) HG0.out hGw)
            have HF11 := Aside0.mk (Kd.F_far (p := ⟨G, 2, none⟩) (Kd.N_F HN10.out) (fun k hk => hk.1) (.slice A10 l2.length c10))
            have HFB11 := Aside0.mk (Kd.F_far (p := ⟨G, 2, none⟩) HFB10.out (fun k hk => hk.1) (.slice A10 l2.length c10))
            have HC11 := Aside0.mk (Kd.N_reads' HN10.out).2.1
            obtain ⟨i0, hi0, _, hs0, _⟩ := info_parts info80
            have hcut := cut_from (P := Try.prog) 23 80 .i64 Try.underlying23 hi0 2 hs0 A10 l2.length c10 m hm0 hm1
            have hdl : l2.length - m.toNat = l'.length := by rw [← HL'.out]; simp
            have hF12 := Kd.F_imp HF11.out (fun W' h => Kd.C_drop (m := m.toNat) h (by omega) HC11.out)
            rw [HL'.out] at hF12
            have hc12 : l'.length ≤ c10 - m.toNat := by rw [← hdl]; have := HC11.out; omega
            rw [hdl] at hcut
            have hF12' : Kd.F k80 (w10.setCell ⟨G, 2, none⟩ (.slice A10 l2.length c10)) (Okf P w.heap.size G) (if c10 = m.toNat then A10 else A10.map (·.add (m.toNat * 2))) l'.length l' := hF12
            generalize (if c10 = m.toNat then A10 else A10.map (·.add (m.toNat * 2))) = A12 at hcut hF12'
            generalize c10 - m.toNat = c12 at hcut hc12
            have HF12 := Aside0.mk hF12'
            have HC12 := Aside0.mk hc12
            clear hF12 hF12' hc12 hdl hi0 hs0 HS10 HN10 HFB10 HF11 HC11
            go_wp2
            have hmx : (if 0 < wrap64 ((l2.length : Int) - s) then wrap64 ((l2.length : Int) - s) else 0) = m := by rw [← hm]; split <;> omega
            replace HS11 := Aside0.mk (HS11.out.below HW.out (below_drew (Below.refl _ _)))
            replace HF12 := Aside0.mk (Kd.F_drew HF12.out)
            replace HFB11 := Aside0.mk (Kd.F_drew HFB11.out)
            refine start_ (n := 20) (S := fun w' => w'.cell? ⟨G, 2, none⟩ = some (.slice A10 l2.length c10) ∧ w'.cell? ⟨G, 1, none⟩ = some (.int .i64 s)) (ds := [19]) #[false, false, false, false, false, false, false, false, false, false, false, false, false, false, false, false, false, false, false, false] (by kernel_rfl) rfl rfl ⟨(blk_cell HS11.out.bG 2).trans rfl, (blk_cell HS11.out.bG 1).trans rfl⟩ (fun hHeld => ?_)
            refine with_tabW impl_fetch.tab12 impl_fetch.bits12 (fun HT_ HW_ => ?_)
            generalize (World.setCell w10 ⟨G, 2, none⟩ (.slice A10 l2.length c10)).drew = w11 at HS11 HF12 HFB11 hHeld ⊢
            refine pure_ (i := 0) (N := some 85) (v := ?_) (a' := ?_) #[true, false, false, false, false, false, false, false, false, false, false, false, false, false, false, false, false, false, false, false] rfl rfl (any_of HT_.out (by kernel_rfl)) (fun _ _ _ h => h) (Or.inl ⟨by rfl, ?_⟩) ?_ ?_
            rotate_left; (intro w'; go_simp; with_reducible rfl); rotate_left; (simp only [Act.put, List.setIfInBounds_toArray, List.set_cons_zero, List.set_cons_succ, i64_w, i32_w]; rfl)
            refine pure_ (i := 1) (N := some 86) (v := ?_) (a' := ?_) #[true, true, false, false, false, false, false, false, false, false, false, false, false, false, false, false, false, false, false, false] rfl rfl (any_of HT_.out (by kernel_rfl)) (fun _ _ _ h => h) (Or.inl ⟨by rfl, ?_⟩) ?_ ?_
            rotate_left; (intro w'; go_simp; with_reducible rfl); rotate_left; (simp only [Act.put, List.setIfInBounds_toArray, List.set_cons_zero, List.set_cons_succ, i64_w, i32_w]; rfl)
            refine pure_ (i := 2) (N := some 87) (v := ?_) (a' := ?_) #[true, true, true, false, false, false, false, false, false, false, false, false, false, false, false, false, false, false, false, false] rfl rfl (any_of HT_.out (by kernel_rfl)) (fun _ _ _ h => h) (Or.inl ⟨by rfl, ?_⟩) ?_ ?_
            rotate_left; (intro w'; go_simp; with_reducible rfl); rotate_left; (simp only [Act.put, List.setIfInBounds_toArray, List.set_cons_zero, List.set_cons_succ, i64_w, i32_w]; rfl)
            refine pure_ (i := 3) (N := some 88) (v := ?_) (a' := ?_) #[true, true, true, true, false, false, false, false, false, false, false, false, false, false, false, false, false, false, false, false] rfl rfl (any_of HT_.out (by kernel_rfl)) (fun _ _ _ h => h) (Or.inl ⟨by rfl, ?_⟩) ?_ ?_
            rotate_left; (intro w'; go_simp; with_reducible rfl); rotate_left; (simp only [Act.put, List.setIfInBounds_toArray, List.set_cons_zero, List.set_cons_succ, i64_w, i32_w]; rfl)
            refine pure_ (i := 5) (N := some 90) (v := ?_) (a' := ?_) #[true, true, true, true, false, true, false, false, false, false, false, false, false, false, false, false, false, false, false, false] rfl rfl (any_of HT_.out (by kernel_rfl)) (fun _ _ _ h => h) (Or.inl ⟨by rfl, ?_⟩) ?_ ?_
            rotate_left; (intro w'; go_simp; with_reducible rfl); rotate_left; (simp only [Act.put, List.setIfInBounds_toArray, List.set_cons_zero, List.set_cons_succ, i64_w, i32_w]; rfl)
            refine pure_ (i := 6) (N := some 91) (v := ?_) (a' := ?_) #[true, true, true, true, false, true, true, false, false, false, false, false, false, false, false, false, false, false, false, false] rfl rfl (any_of HT_.out (by kernel_rfl)) (fun _ _ _ h => h) (Or.inl ⟨by rfl, ?_⟩) ?_ ?_
            rotate_left; (intro w'; go_simp; with_reducible rfl); rotate_left; (simp only [Act.put, List.setIfInBounds_toArray, List.set_cons_zero, List.set_cons_succ, i64_w, i32_w]; rfl)
            refine pure_ (i := 7) (N := some 92) (v := ?_) (a' := ?_) #[true, true, true, true, false, true, true, true, false, false, false, false, false, false, false, false, false, false, false, false] rfl rfl (any_of HT_.out (by kernel_rfl)) (fun _ _ _ h => h) (Or.inl ⟨by rfl, ?_⟩) ?_ ?_
            rotate_left; (intro w'; go_simp; with_reducible rfl); rotate_left; (simp only [Act.put, List.setIfInBounds_toArray, List.set_cons_zero, List.set_cons_succ, i64_w, i32_w]; rfl)
            refine pure_ (i := 10) (N := some 95) (v := ?_) (a' := ?_) #[true, true, true, true, false, true, true, true, false, false, true, false, false, false, false, false, false, false, false, false] rfl rfl (any_of HT_.out (by kernel_rfl)) (fun _ _ _ h => h) (Or.inl ⟨by rfl, ?_⟩) ?_ ?_
            rotate_left; (intro w'; go_simp; with_reducible rfl); rotate_left; (simp only [Act.put, List.setIfInBounds_toArray, List.set_cons_zero, List.set_cons_succ, i64_w, i32_w]; rfl)
            refine pure_ (i := 11) (N := some 96) (v := ?_) (a' := ?_) #[true, true, true, true, false, true, true, true, false, false, true, true, false, false, false, false, false, false, false, false] rfl rfl (any_of HT_.out (by kernel_rfl)) (fun _ _ _ h => h) (Or.inl ⟨by rfl, ?_⟩) ?_ ?_
            rotate_left; (intro w'; go_simp; with_reducible rfl); rotate_left; (simp only [Act.put, List.setIfInBounds_toArray, List.set_cons_zero, List.set_cons_succ, i64_w, i32_w]; rfl)
            refine pure_ (i := 12) (N := some 97) (v := ?_) (a' := ?_) #[true, true, true, true, false, true, true, true, false, false, true, true, true, false, false, false, false, false, false, false] rfl rfl (any_of HT_.out (by kernel_rfl)) (fun _ _ _ h => h) (Or.inl ⟨by rfl, ?_⟩) ?_ ?_
            rotate_left; (intro w'; go_simp; with_reducible rfl); rotate_left; (simp only [Act.put, List.setIfInBounds_toArray, List.set_cons_zero, List.set_cons_succ, i64_w, i32_w]; rfl)
            refine take_ (i := 4) (N := some 89) (v := ?_) (a' := ?_) #[true, true, true, true, true, true, true, true, false, false, true, true, true, false, false, false, false, false, false, false] rfl rfl (take_ofW HT_.out HW_.out (by kernel_rfl)) (fun _ _ _ h => h) (Or.inl ⟨by rfl, ?_⟩) hHeld ?_ ?_
            rotate_left; (rintro w' ⟨s0, s1⟩; go_simp; with_reducible rfl); rotate_left; (simp only [Act.put, List.setIfInBounds_toArray, List.set_cons_zero, List.set_cons_succ, i64_w, i32_w]; rfl)
            refine take_ (i := 8) (N := some 93) (v := ?_) (a' := ?_) #[true, true, true, true, true, true, true, true, true, false, true, true, true, false, false, false, false, false, false, false] rfl rfl (take_ofW HT_.out HW_.out (by kernel_rfl)) (fun _ _ _ h => h) (Or.inl ⟨by rfl, ?_⟩) hHeld ?_ ?_
            rotate_left; (rintro w' ⟨s0, s1⟩; go_simp; with_reducible rfl); rotate_left; (simp only [Act.put, List.setIfInBounds_toArray, List.set_cons_zero, List.set_cons_succ, i64_w, i32_w]; rfl)
            refine pure_ (i := 9) (N := some 94) (v := ?_) (a' := ?_) #[true, true, true, true, true, true, true, true, true, true, true, true, true, false, false, false, false, false, false, false] rfl rfl (any_of HT_.out (by kernel_rfl)) (fun _ _ _ h => h) (Or.inl ⟨by rfl, ?_⟩) ?_ ?_
            rotate_left; (intro w'; go_simp; with_reducible rfl); rotate_left; (simp only [Act.put, List.setIfInBounds_toArray, List.set_cons_zero, List.set_cons_succ, i64_w, i32_w]; rfl)
            refine take_ (i := 13) (N := some 98) (v := ?_) (a' := ?_) #[true, true, true, true, true, true, true, true, true, true, true, true, true, true, false, false, false, false, false, false] rfl rfl (take_ofW HT_.out HW_.out (by kernel_rfl)) (fun _ _ _ h => h) (Or.inl ⟨by rfl, ?_⟩) hHeld ?_ ?_
            rotate_left; (rintro w' ⟨s0, s1⟩; go_simp; with_reducible rfl); rotate_left; (simp only [Act.put, List.setIfInBounds_toArray, List.set_cons_zero, List.set_cons_succ, i64_w, i32_w]; rfl)
            refine pure_ (i := 14) (N := some 99) (v := ?_) (a' := ?_) #[true, true, true, true, true, true, true, true, true, true, true, true, true, true, true, false, false, false, false, false] rfl rfl (any_of HT_.out (by kernel_rfl)) (fun _ _ _ h => h) (Or.inl ⟨by rfl, ?_⟩) ?_ ?_
            rotate_left; (intro w'; go_simp; with_reducible rfl); rotate_left; (simp only [Act.put, List.setIfInBounds_toArray, List.set_cons_zero, List.set_cons_succ, i64_w, i32_w]; rfl)
            refine pure_ (i := 15) (N := some 100) (v := ?_) (a' := ?_) #[true, true, true, true, true, true, true, true, true, true, true, true, true, true, true, true, false, false, false, false] rfl rfl (any_of HT_.out (by kernel_rfl)) (fun _ _ _ h => h) (Or.inl ⟨by rfl, ?_⟩) ?_ ?_
            rotate_left; (intro w'; go_simp; with_reducible rfl); rotate_left; (simp only [Act.put, List.setIfInBounds_toArray, List.set_cons_zero, List.set_cons_succ, i64_w, i32_w]; rfl)
            refine pure_ (i := 16) (N := some 101) (v := ?_) (a' := ?_) #[true, true, true, true, true, true, true, true, true, true, true, true, true, true, true, true, true, false, false, false] rfl rfl (any_of HT_.out (by kernel_rfl)) (fun _ _ _ h => h) (Or.inl ⟨by rfl, ?_⟩) ?_ ?_
            rotate_left; (intro w'; go_simp; with_reducible rfl); rotate_left; (simp only [Act.put, List.setIfInBounds_toArray, List.set_cons_zero, List.set_cons_succ, i64_w, i32_w]; rfl)
            refine pure_ (i := 17) (N := some 102) (v := ?_) (a' := ?_) #[true, true, true, true, true, true, true, true, true, true, true, true, true, true, true, true, true, true, false, false] rfl rfl (any_of HT_.out (by kernel_rfl)) (fun _ _ _ h => h) (Or.inl ⟨by rfl, ?_⟩) ?_ ?_
            rotate_left; (intro w'; go_simp; with_reducible rfl); rotate_left; (simp only [Act.put, List.setIfInBounds_toArray, List.set_cons_zero, List.set_cons_succ, i64_w, i32_w]; rfl)
            refine pure_ (i := 18) (N := some 103) (v := ?_) (a' := ?_) #[true, true, true, true, true, true, true, true, true, true, true, true, true, true, true, true, true, true, true, false] rfl rfl (any_of HT_.out (by kernel_rfl)) (fun _ _ _ h => h) (Or.inl ⟨by rfl, ?_⟩) ?_ ?_
            rotate_left; (intro w'; go_simp; with_reducible rfl); rotate_left; (simp only [Act.put, List.setIfInBounds_toArray, List.set_cons_zero, List.set_cons_succ, i64_w, i32_w]; rfl)
            refine last_ (i := 19) (N := none) #[true, true, true, true, true, true, true, true, true, true, true, true, true, true, true, true, true, true, true, true] rfl rfl (one_of HT_.out (by kernel_rfl)) (by decide) (fun K hK => ?_)
            have hs12 : w11.cell? ⟨G, 2, none⟩ = some (.slice A10 l2.length c10) := (blk_cell HS11.out.bG 2).trans rfl
            have hfs12 := blk_frozen HS11.out.bG 2
            refine skip_ (w1 := ?_) (by rfl) rfl ?_ ?_
            rotate_left
            · go_simp
              rfl
            refine hK.out _ _ ?_
            clear hK K
            refine done_ (done_of HT_.out (by kernel_rfl)) ?_
            have HS13 := Aside0.mk (HS11.out.putG (vl' := .slice A12 l'.length c12) HG0.out hGw)
            have HF13 := Aside0.mk (Kd.F_far (p := ⟨G, 2, none⟩) HF12.out (fun k hk => hk.1) (.slice A12 l'.length c12))
            have HFB13 := Aside0.mk (Kd.F_far (p := ⟨G, 2, none⟩) HFB11.out (fun k hk => hk.1) (.slice A12 l'.length c12))
            obtain ⟨⟨e0, e1⟩, _⟩ := cells2 HS13.out.bb
            go_wp2
            go_ret
            exact ⟨_, _, _, _, rfl, HS13.out.bG, HF13.out, HC12.out, HFB13.out, HL2.out, HS13.out.K, HS13.out.B⟩
          · rw [if_neg hm1] at h; cases h
        · rw [if_neg hl4] at h; cases h
      · have hpb : decide ((0 : Int) < (bs.length : Int)) = false := decide_eq_false (by omega)
        rw [impl_fetch.put, if_neg hp] at h
        obtain ⟨rfl, rfl⟩ : bs = r ∧ l1 = l' := by simpa using h
        clear h ht e1
        have hge : decide ((0 : Int) ≤ (k0 : Int)) = true := decide_eq_true (Int.natCast_nonneg _)
        go_enter Try.func68, Try.ntmps68
        go_wp2_with (go_at_call 53; refine hat.mono ?_; rintro e w2 ⟨rfl, hb⟩; have HS := Aside0.mk (HS0.out.below HW.out hb); have HF := Aside0.mk (Kd.F_below HF1.out hb); obtain ⟨ad, cs, hA, hcsl, hFK, hcc, _⟩ := Kd.F_get HF.out z80 (k0 : Int) (by omega) (by omega); obtain rfl := hA; have hgd : l.getD ((k0 : Int).toNat) z80 = l[k0] := (by simp [hk0]); rw [hgd] at hFK; obtain ⟨A1, c1, hcse, hl1, _⟩ := k80_open (Kd.FK_now hFK); subst hcse; rw [Int.toNat_natCast] at hcc; rw [← HBS.out] at hcc hl1; have q0 : w2.cell? (ad.add (k0 * 2)) = some (.int .i64 num) := hnum ▸ hcc 0 _ rfl; have q1 : w2.cell? ⟨(ad.add (k0 * 2)).block, (ad.add (k0 * 2)).off + 1, none⟩ = some (.slice A1 bs.length c1) := (by rw [← add_field _ _ 1 (by omega)]; exact hcc 1 _ rfl); have hFb : Kd.F (Kd.int .u8) w2 (fun k => (k ≠ G ∧ P k) ∧ k < w.heap.size) A1 bs.length bs := (fun W' hW => by obtain ⟨A1', c1', e, _, h2⟩ := k80_open (hFK W' hW); injection e with _ e; injection e with e _; injection e with ea _ _; subst ea; rw [HBS.out]; exact h2); obtain ⟨⟨b0, b1⟩, ⟨b2, b3⟩⟩ := cells2 HS.out.bb; obtain ⟨⟨y0, y1, y2⟩, _⟩ := cells3 HS.out.bG; have HFB := Aside0.mk hFb; have HL2 := Aside0.mk hl1; clear z0 z1 z2 hFb hFK hcc hcsl hgd hb hl1)
        go_wp2_with (first | (go_at_call 93; refine (clone93 (some ad) c l _ (fun k => (k ≠ G ∧ P k) ∧ k < w.heap.size) (Kd.F_far (p := ⟨w.heap.size + 1, 1, none⟩) (Kd.F_far (p := ⟨w.heap.size + 1, 0, none⟩) HF.out (fun k hk => by have := hk.2; show k ≠ w.heap.size + 1; omega) _) (fun k hk => by have := hk.2; show k ≠ w.heap.size + 1; omega) _) (by omega)).mono ?_; rintro e w4 ⟨v4, rfl, hN4, hb4⟩; obtain ⟨g, cap, rfl, hgb, hgl, _⟩ := Kd.N_form hN4 (by omega); have hS3 := Fet.putb (vb' := .slice A1 bs.length c1) HS.out HW.out hGw; have HSZ := Aside0.mk (show w.heap.size + 1 < g from Nat.lt_of_lt_of_le (blk_lt hS3.bb) hgb); have HS4 := Aside0.mk (hS3.below HW.out hb4); have HN4 := Aside0.mk hN4; have HB4 := Aside0.mk hb4; have HFB3 := Aside0.mk (Kd.F_below (Kd.F_far (p := ⟨w.heap.size + 1, 1, none⟩) (Kd.F_far (p := ⟨w.heap.size + 1, 0, none⟩) HFB.out (fun k hk => by have := hk.2; show k ≠ w.heap.size + 1; omega) (.int .i64 num)) (fun k hk => by have := hk.2; show k ≠ w.heap.size + 1; omega) (.slice A1 bs.length c1)) hb4); clear hN4 hb4 hS3 y0 y1 y2) | (go_at_call 92; refine (delete92e g l.length cap k0 l l1 _ w4 _ _ HL1.out HN4.out hk0 HB4.out HB4.out.size).mono ?_; rintro e w5 ⟨rfl, hN5, hb5, hg5⟩; have HS5 := Aside0.mk (HS4.out.grown HW.out hg5 HSZ.out hGw); obtain ⟨⟨y0, y1, y2⟩, ⟨f0, f1, f2⟩⟩ := cells3 HS5.out.bG; have HS6 := Aside0.mk (HS5.out.putG (vl' := .slice (some ⟨g, 0, none⟩) l1.length cap) HG0.out hGw); have hF6 := Kd.F_far (p := ⟨G, 2, none⟩) (Kd.N_F hN5) (fun k hk => by rcases hk with hk | hk; exact hk.1.1; simp at hk; have := HS.out.K.1; show k ≠ G; omega) (.slice (some ⟨g, 0, none⟩) l1.length cap); have HF6 := Aside0.mk (Kd.F_mono (ok' := Okf P w.heap.size G) hF6 (fun k hk => by rcases hk with hk | hk; exact ⟨hk.1.1, .inl hk.1.2⟩; simp at hk; have := HS.out.K.1; exact ⟨by omega, .inr (by omega)⟩)); have HFB6 := Aside0.mk (Kd.F_mono (ok' := Okf P w.heap.size G) (Kd.F_far (p := ⟨G, 2, none⟩) (Kd.F_grown HFB3.out hg5 (fun k hk e => by injection e with e; have := hk.2; have := HSZ.out; omega)) (fun k hk => hk.1.1) (.slice (some ⟨g, 0, none⟩) l1.length cap)) (fun k hk => ⟨hk.1.1, .inl hk.1.2⟩)); obtain ⟨⟨b4, b5⟩, _⟩ := cells2 HS6.out.bb; have HC6 := Aside0.mk (Kd.N_reads' hN5).2.1; clear hN5 hb5 hg5 hF6))
        go_ret
        exact ⟨_, _, _, _, rfl, HS6.out.bG, HF6.out, HC6.out, HFB6.out, HL2.out, HS6.out.K, HS6.out.B⟩
    · rw [if_neg hlm] at h; cases h
end Go.Proofs.Ytkocconggohdgaa.PFnExactReadRange
