/- Functions of the given program as plain Lean functions, each with a proof that the Go code answers just so; walked by hand. Conditions: those that each theorem names. -/
import Derived.Test.YtkocconggohdgaaPFnExactReadRangex15
namespace Go.Proofs.Ytkocconggohdgaa.PFnExactReadRange
open Go.RowKit Go.Proofs.YtkocconggohdgaaW.PrintWords Go.Proofs.YtkocconggohdgaaW.PrintLast Go.Proofs.YtkocconggohdgaaW.PrintMore
attribute [local go_sem] max2_int min2_int max_two min_two max_three min_three max_four min_four   -- for this text's walks alone
set_option linter.unusedVariables false
set_option linter.unusedSimpArgs false
theorem cells3b {W : World} {g : Nat} {t : TypeId} {a b c : Value} (h : W.heap[g]? = some (.cells #[a, b, c] t (0, 0))) : W.cell? ⟨g, 0, none⟩ = some a ∧ W.cell? ⟨g, 1, none⟩ = some b ∧ W.cell? ⟨g, 2, none⟩ = some c := (cells3 h).1
theorem F_put5 {α : Type} {d : Kd α} {W : World} {g n : Nat} {ok : Nat → Prop} {A : Option Addr} {xs : List α} (h : Kd.F d W ok A n xs) (hok : ∀ k, ok k → k ≠ g) (v0 v1 v2 v3 v4 : Value) :
    Kd.F d (((((W.setCell ⟨g, 0, none⟩ v0).setCell ⟨g, 1, none⟩ v1).setCell ⟨g, 2, none⟩ v2).setCell ⟨g, 3, none⟩ v3).setCell ⟨g, 4, none⟩ v4) ok A n xs :=
  Kd.F_far (p := ⟨g, 4, none⟩) (Kd.F_far (p := ⟨g, 3, none⟩) (Kd.F_far (p := ⟨g, 2, none⟩) (Kd.F_far (p := ⟨g, 1, none⟩) (Kd.F_far (p := ⟨g, 0, none⟩) h hok v0) hok v1) hok v2) hok v3) hok v4
/-- What a call of a row's own gives, laid into a block made beside it. -/
structure Got (W0 W : World) (rb : List Int) (bs : List S80) (Ap : Option Addr) (cp : Nat) (Az : Option Addr) (cz : Nat) (bb : Nat) : Prop where
  B : Below W0.heap.size W0 W
  le : W0.heap.size ≤ bb
  b : W.heap[bb]? = some (.cells #[.int .i64 0, .slice none 0 0, .int .i64 0, .int .i64 0, .slice none 0 0] 27 (0, 0))
  r : Kd.R (Kd.int .u8) 5 W W0.heap.size (fun k => k ≠ bb) (.slice Ap rb.length cp) rb
  s : Kd.F k80 W (fun k => k ≠ bb) Az bs.length bs
  lz : bs.length ≤ cz
/-- .. and the block behind its store. -/
structure Got2 (W0 W : World) (rb : List Int) (bs : List S80) (Ap : Option Addr) (cp : Nat) (Az : Option Addr) (cz : Nat) (bb : Nat) (o : Obj) : Prop where
  B : Below W0.heap.size W0 W
  le : W0.heap.size ≤ bb
  b : W.heap[bb]? = some o
  r : Kd.R (Kd.int .u8) 5 W W0.heap.size (fun k => k ≠ bb) (.slice Ap rb.length cp) rb
  s : Kd.F k80 W (fun k => k ≠ bb) Az bs.length bs
  lz : bs.length ≤ cz
theorem Got.put {W0 W : World} {rb : List Int} {bs : List S80} {Ap : Option Addr} {cp : Nat} {Az : Option Addr} {cz bb : Nat} (h : Got W0 W rb bs Ap cp Az cz bb) (v0 v1 v2 v3 v4 : Value) :
    Got2 W0 (((((W.setCell ⟨bb, 0, none⟩ v0).setCell ⟨bb, 1, none⟩ v1).setCell ⟨bb, 2, none⟩ v2).setCell ⟨bb, 3, none⟩ v3).setCell ⟨bb, 4, none⟩ v4) rb bs Ap cp Az cz bb (.cells #[v0, v1, v2, v3, v4] 27 (0, 0)) :=
  ⟨below_put5 h.B h.le _ _ _ _ _, h.le, put5 h.b _ _ _ _ _, R_put5 h.r (fun k hk => hk) _ _ _ _ _, F_put5 h.s (fun k hk => hk) _ _ _ _ _, h.lz⟩
theorem Got2.below {W0 W W' : World} {rb : List Int} {bs : List S80} {Ap : Option Addr} {cp : Nat} {Az : Option Addr} {cz bb : Nat} {o : Obj} (h : Got2 W0 W rb bs Ap cp Az cz bb o) (hb : Below W.heap.size W W') : Got2 W0 W' rb bs Ap cp Az cz bb o :=
  ⟨below_step h.B hb, h.le, blk_below h.b hb, Kd.R_below h.r hb, Kd.F_below h.s hb, h.lz⟩
/-- What is held while the law runs: the arguments' boxes; the reference's answer; the copies; the answer. -/
structure H0 (w W : World) (o of : Obj) : Prop where
  B : Below w.heap.size w W
  ba : W.heap[w.heap.size]? = some o
  bf : W.heap[w.heap.size + 1]? = some of
theorem H0.below {w W W' : World} {o of : Obj} (h : H0 w W o of) (hb : Below W.heap.size W W') : H0 w W' o of := ⟨below_step h.B hb, blk_below h.ba hb, blk_below h.bf hb⟩
theorem H0.kept {w W W' : World} {o of : Obj} {S : Nat → Prop} (h : H0 w W o of) (hB : Below w.heap.size w W') (hk : Kept W W' S) (hS : ∀ k, S k → w.heap.size + 1 < k) : H0 w W' o of := ⟨hB, blk_kept h.ba hk (fun hh => by have := hS _ hh; omega), blk_kept h.bf hk (fun hh => by have := hS _ hh; omega)⟩
structure H1 (w W : World) (o of : Obj) (m6 n3 : Nat) (o6 : Obj) (vp : Value) (vz : Option Addr) (cz : Nat) (rb : List Int) (zs : List S80) : Prop where
  p : H0 w W o of
  b6 : W.heap[m6]? = some o6
  zb : Kd.R (Kd.int .u8) 5 W w.heap.size (fun k => w.heap.size + 1 < k ∧ k < n3) vp rb
  z : Kd.F k80 W (fun k => k < n3) vz zs.length zs
  lz : zs.length ≤ cz
  l1 : m6 < n3
theorem H1.below {w W W' : World} {o of o6 : Obj} {m6 n3 : Nat} {vp : Value} {vz : Option Addr} {cz : Nat} {rb : List Int} {zs : List S80} (h : H1 w W o of m6 n3 o6 vp vz cz rb zs) (hb : Below W.heap.size W W') : H1 w W' o of m6 n3 o6 vp vz cz rb zs := ⟨h.p.below hb, blk_below h.b6 hb, Kd.R_below h.zb hb, Kd.F_below h.z hb, h.lz, h.l1⟩
theorem H1.kept {w W W' : World} {o of o6 : Obj} {m6 n3 : Nat} {vp : Value} {vz : Option Addr} {cz : Nat} {rb : List Int} {zs : List S80} {S : Nat → Prop} (h : H1 w W o of m6 n3 o6 vp vz cz rb zs) (hB : Below w.heap.size w W') (hk : Kept W W' S) (hS : ∀ k, S k → n3 ≤ k) (hw : w.heap.size + 1 < n3) : H1 w W' o of m6 n3 o6 vp vz cz rb zs :=
  ⟨h.p.kept hB hk (fun k hk => Nat.lt_of_lt_of_le hw (hS k hk)), blk_kept h.b6 hk (fun hh => by have := hS _ hh; have := h.l1; omega), Kd.R_kept h.zb hk (fun k ho hh => by have := hS _ hh; omega), Kd.F_kept h.z hk (fun k ho hh => by have := hS _ hh; omega), h.lz, h.l1⟩
structure H2 (w W : World) (o of : Obj) (m6 n3 : Nat) (o6 : Obj) (vp : Value) (vz : Option Addr) (cz : Nat) (rb : List Int) (zs : List S80) (n4 : Nat) (o7 : Obj) (vx : Value) (xs : List S80) : Prop where
  p : H1 w W o of m6 n3 o6 vp vz cz rb zs
  b7 : W.heap[n4]? = some o7
  x : Kd.S k80 80 W w.heap.size (fun k => n3 ≤ k ∧ k < n4) vx xs
  l3 : w.heap.size + 1 < n3
  l4 : n3 ≤ n4
theorem H2.below {w W W' : World} {o of o6 o7 : Obj} {m6 n3 n4 : Nat} {vp vx : Value} {vz : Option Addr} {cz : Nat} {rb : List Int} {zs xs : List S80} (h : H2 w W o of m6 n3 o6 vp vz cz rb zs n4 o7 vx xs) (hb : Below W.heap.size W W') : H2 w W' o of m6 n3 o6 vp vz cz rb zs n4 o7 vx xs := ⟨h.p.below hb, blk_below h.b7 hb, Kd.S_below h.x hb, h.l3, h.l4⟩
structure H3 (w W : World) (o of : Obj) (m6 n3 : Nat) (o6 : Obj) (vp : Value) (vz : Option Addr) (cz : Nat) (rb : List Int) (zs : List S80) (n4 : Nat) (o7 : Obj) (vx : Value) (xs : List S80) (n5 : Nat) (o8 : Obj) (vy : Value) (ys : List Int) : Prop where
  p : H2 w W o of m6 n3 o6 vp vz cz rb zs n4 o7 vx xs
  b8 : W.heap[n5]? = some o8
  y : Kd.R (Kd.int .u8) 5 W w.heap.size (fun k => n4 < k ∧ k < n5) vy ys
  l5 : n4 < n5
theorem H3.below {w W W' : World} {o of o6 o7 o8 : Obj} {m6 n3 n4 n5 : Nat} {vp vx vy : Value} {vz : Option Addr} {cz : Nat} {rb ys : List Int} {zs xs : List S80} (h : H3 w W o of m6 n3 o6 vp vz cz rb zs n4 o7 vx xs n5 o8 vy ys) (hb : Below W.heap.size W W') : H3 w W' o of m6 n3 o6 vp vz cz rb zs n4 o7 vx xs n5 o8 vy ys := ⟨h.p.below hb, blk_below h.b8 hb, Kd.R_below h.y hb, h.l5⟩
structure H4 (w W : World) (o of : Obj) (m6 n3 : Nat) (o6 : Obj) (vp : Value) (vz : Option Addr) (cz : Nat) (rb : List Int) (zs : List S80) (n4 : Nat) (o7 : Obj) (vx : Value) (xs : List S80) (n5 : Nat) (o8 : Obj) (vy : Value) (ys : List Int) (n6 : Nat) (o9 : Obj) (vb vg : Value) (gb : List Int) (gs : List S80) : Prop where
  p : H3 w W o of m6 n3 o6 vp vz cz rb zs n4 o7 vx xs n5 o8 vy ys
  b9 : W.heap[n6]? = some o9
  gb : Kd.R (Kd.int .u8) 5 W w.heap.size (fun k => (n5 < k ∧ k < n6) ∧ some k = vb.ownBlock) vb gb
  g : Kd.S k80 80 W w.heap.size (fun k => (n5 < k ∧ k < n6) ∧ some k ≠ vb.ownBlock) vg gs
  l6 : n5 < n6
section
variable {w W W' : World} {o of o6 o7 o8 o9 : Obj} {m6 n3 n4 n5 n6 : Nat} {vp vx vy vb vg : Value} {vz : Option Addr} {cz : Nat} {rb ys ys' gb gb' : List Int} {zs xs xs' gs gs' : List S80}
theorem H4.below (h : H4 w W o of m6 n3 o6 vp vz cz rb zs n4 o7 vx xs n5 o8 vy ys n6 o9 vb vg gb gs) (hb : Below W.heap.size W W') : H4 w W' o of m6 n3 o6 vp vz cz rb zs n4 o7 vx xs n5 o8 vy ys n6 o9 vb vg gb gs := ⟨h.p.below hb, blk_below h.b9 hb, Kd.R_below h.gb hb, Kd.S_below h.g hb, h.l6⟩
theorem H4.markX (h : H4 w W o of m6 n3 o6 vp vz cz rb zs n4 o7 vx xs n5 o8 vy ys n6 o9 vb vg gb gs) (hB : Below w.heap.size w W') (hx : Kd.S k80 80 W' w.heap.size (fun k => n3 ≤ k ∧ k < n4) vx xs') (hk : Kept W W' (fun k => n3 ≤ k ∧ k < n4)) : H4 w W' o of m6 n3 o6 vp vz cz rb zs n4 o7 vx xs' n5 o8 vy ys n6 o9 vb vg gb gs := by
  have l3 := h.p.p.l3
  have l4 := h.p.p.l4
  have l5 := h.p.l5
  have l6 := h.l6
  exact ⟨⟨⟨h.p.p.p.kept hB hk (fun k hk => hk.1) l3, blk_kept h.p.p.b7 hk (fun hh => by have := hh.2; omega), hx, l3, l4⟩, blk_kept h.p.b8 hk (fun hh => by have := hh.2; omega), Kd.R_kept h.p.y hk (fun k ho hh => by have := ho.1; have := hh.2; omega), l5⟩, blk_kept h.b9 hk (fun hh => by have := hh.2; omega), Kd.R_kept h.gb hk (fun k ho hh => by have := ho.1.1; have := hh.2; omega), Kd.S_kept h.g hk (fun k ho hh => by have := ho.1.1; have := hh.2; omega), l6⟩
theorem H4.markY (h : H4 w W o of m6 n3 o6 vp vz cz rb zs n4 o7 vx xs n5 o8 vy ys n6 o9 vb vg gb gs) (hB : Below w.heap.size w W') (hy : Kd.R (Kd.int .u8) 5 W' w.heap.size (fun k => (n4 < k ∧ k < n5) ∨ W.heap.size ≤ k) vy ys') (hk : Kept W W' (fun k => n4 < k ∧ k < n5)) : H4 w W' o of m6 n3 o6 vp vz cz rb zs n4 o7 vx xs n5 o8 vy ys' n6 o9 vb vg gb gs := by
  have l3 := h.p.p.l3
  have l4 := h.p.p.l4
  have l5 := h.p.l5
  have l6 := h.l6
  have hy2 : Kd.R (Kd.int .u8) 5 W' w.heap.size (fun k => n4 < k ∧ k < n5) vy ys' := Kd.R_mono (Kd.R_tight rfl hy) (fun k hk => h.p.y.1 k hk.symm)
  exact ⟨⟨⟨h.p.p.p.kept hB hk (fun k hk => by have := hk.1; omega) l3, blk_kept h.p.p.b7 hk (fun hh => by have := hh.1; omega), Kd.S_kept h.p.p.x hk (fun k ho hh => by have := ho.2; have := hh.1; omega), l3, l4⟩, blk_kept h.p.b8 hk (fun hh => by have := hh.2; omega), hy2, l5⟩, blk_kept h.b9 hk (fun hh => by have := hh.2; omega), Kd.R_kept h.gb hk (fun k ho hh => by have := ho.1.1; have := hh.2; omega), Kd.S_kept h.g hk (fun k ho hh => by have := ho.1.1; have := hh.2; omega), l6⟩
theorem H4.markG (h : H4 w W o of m6 n3 o6 vp vz cz rb zs n4 o7 vx xs n5 o8 vy ys n6 o9 vb vg gb gs) (hB : Below w.heap.size w W') (hb : Kd.R (Kd.int .u8) 5 W' w.heap.size (fun k => (n5 < k ∧ k < n6) ∧ some k = vb.ownBlock) vb gb') (hx : Kd.S k80 80 W' w.heap.size (fun k => (n5 < k ∧ k < n6) ∧ some k ≠ vb.ownBlock) vg gs') (hk : Kept W W' (fun k => ((n5 < k ∧ k < n6) ∧ some k = vb.ownBlock) ∨ ((n5 < k ∧ k < n6) ∧ some k ≠ vb.ownBlock))) : H4 w W' o of m6 n3 o6 vp vz cz rb zs n4 o7 vx xs n5 o8 vy ys n6 o9 vb vg gb' gs' := by
  have l3 := h.p.p.l3
  have l4 := h.p.p.l4
  have l5 := h.p.l5
  have l6 := h.l6
  have hk2 : Kept W W' (fun k => n5 < k ∧ k < n6) := hk.mono (fun k hh => hh.elim (fun h => h.1) (fun h => h.1))
  exact ⟨⟨⟨h.p.p.p.kept hB hk2 (fun k hk => by have := hk.1; omega) l3, blk_kept h.p.p.b7 hk2 (fun hh => by have := hh.1; omega), Kd.S_kept h.p.p.x hk2 (fun k ho hh => by have := ho.2; have := hh.1; omega), l3, l4⟩, blk_kept h.p.b8 hk2 (fun hh => by have := hh.1; omega), Kd.R_kept h.p.y hk2 (fun k ho hh => by have := ho.2; have := hh.1; omega), l5⟩, blk_kept h.b9 hk2 (fun hh => by have := hh.2; omega), hb, hx, l6⟩
end
theorem heldC (k : Nat) (c : Int) (Aq : Option Addr) (cq nq : Nat) (rb : List Int) (u s : Int) (Ag : Option Addr) (cg ng : Nat) (bs' : List S80) (m : Int) (w : World) (eq_ : nq = rb.length) (eg_ : ng = bs'.length) (hq : Kd.C (Kd.int .u8) w Aq rb.length rb) (hg : Kd.C k80 w Ag bs'.length bs') (hqc : nq ≤ cq) (hgc : ng ≤ cg) (h : laws_heldCacheResult.f k c rb u s bs' 1 = some m) :
    Calls Try.prog 15 #[.agg #[.int .i64 c, .slice Aq nq cq, .int .i64 u, .int .i64 s, .slice Ag ng cg], .int .i64 1] w fun e w' => e = .returned (.int .i64 m) ∧ Below w.heap.size w w' := by
  subst eq_ eg_
  exact laws_heldCacheResult.calls k c Aq cq rb u s Ag cg bs' 1 m w hq hqc hg hgc h
/-- THE ONE PURE STATEMENT of the law. -/
def laws_FnExactReadRange.Pure : Prop := ∀ (a0_0 : Int) (a0_1 : Int) (l0_2 : List (S108)) (l1_0 : List Int) (a2 : Int) (a3 : Int) (a4 : Int), (Lit.int .i64 a0_0).wf = true → (Lit.int .i64 a0_1).wf = true → l0_2.length ≤ maxLen → (∀ x ∈ l0_2, (Lit.int .i64 x.f0).wf = true ∧ (x.f1.length ≤ maxLen ∧ ∀ y0_ ∈ x.f1, (Lit.int .u8 y0_).wf = true)) → l1_0.length ≤ maxLen → (∀ y0_ ∈ l1_0, (Lit.int .u8 y0_).wf = true) → (Lit.int .i64 a2).wf = true → (Lit.int .i64 a3).wf = true → (Lit.int .i64 a4).wf = true →
  ∃ (k : Nat) (q : Int), laws_szCache.f k a0_0 a0_1 l0_2 1048576 = some q ∧ (q < 0 ∨ ¬ q < 0 ∧ ∃ q2 : Int, laws_szFile.f l1_0 q = some q2 ∧ (q2 < 0 ∨ ¬ q2 < 0 ∧ ∃ (u0 s0 : Int) (l : List S80) (fl : List Int) (c : Int) (rb : List Int) (u s : Int) (bs : List S80) (m0 : Int) (l' : List S80) (m1 : Int) (fl' : List Int) (mb : Int) (rb' : List Int) (m : Int) (bs' : List S80),
    laws_toCache.f k a0_0 a0_1 l0_2 = some (u0, s0, l) ∧ laws_toFile.f k l1_0 = some fl ∧ spec_ReadRange.f k u0 s0 l fl a2 a3 a4 = some (c, rb, u, s, bs) ∧ impl_ReadRange.f k u0 s0 l fl a2 a3 a4 = some (c, rb, u, s, bs) ∧ laws_eqCacheResult.f k c rb u s bs c rb u s bs = some true ∧ laws_eqCache.f k u0 s0 l u0 s0 l = some true ∧ laws_eqFile.f k fl fl = some true ∧
    laws_markBlockS.f k l 1 = some (m0, l') ∧ laws_markFile.f k fl m0 = some (m1, fl') ∧ ¬ m1 < 0 ∧ laws_markByteS.f k rb 1 = some (mb, rb') ∧ laws_markBlockS.f k bs mb = some (m, bs') ∧ laws_heldCacheResult.f k c rb' u s bs' 1 = some m ∧ ¬ m < 0))
def lawsReadRange.t8_.T8 : Bool × List (List Nat × List Nat) := (true, [([], []), ([0], [0]), ([], []), ([2, 1], [2]), ([], []), ([], []), ([], []), ([1, 3, 4, 5, 6, 3], [1, 3, 4, 5, 6]), ([], []), ([8, 7, 7, 0, 1, 2, 3, 4, 5, 6, 7, 8], [7, 8])])
def lawsReadRange.t8_.B8 : List Nat := [0, 1, 0, 7, 0, 0, 0, 127, 0, 511]
theorem lawsReadRange.t8_.tab8 : rtab .any (opsOf Try.f8 8) = lawsReadRange.t8_.T8 := by kernel_rfl
theorem lawsReadRange.t8_.bits8 : waitsOk lawsReadRange.t8_.T8.2 lawsReadRange.t8_.B8 = true := by kernel_rfl
def lawsReadRange.t31_.T31 : Bool × List (List Nat × List Nat) := (true, [([], []), ([0], [0]), ([], []), ([2, 1], [2]), ([], []), ([], []), ([], []), ([1, 3, 4, 5, 6, 3], [1, 3, 4, 5, 6]), ([], []), ([8, 7, 7, 0, 1, 2, 3, 4, 5, 6, 7, 8], [7, 8])])
def lawsReadRange.t31_.B31 : List Nat := [0, 1, 0, 7, 0, 0, 0, 127, 0, 511]
theorem lawsReadRange.t31_.tab31 : rtab .any (opsOf Try.f8 31) = lawsReadRange.t31_.T31 := by kernel_rfl
theorem lawsReadRange.t31_.bits31 : waitsOk lawsReadRange.t31_.T31.2 lawsReadRange.t31_.B31 = true := by kernel_rfl
set_option maxHeartbeats 8000000 in
set_option maxRecDepth 100000 in
theorem laws_FnExactReadRange.walk (P : laws_FnExactReadRange.Pure) (a0_0 : Int) (a0_1 : Int) (A0_2 : Option Addr) (c0_2 : Nat) (l0_2 : List (S108)) (A1_0 : Option Addr) (c1_0 : Nat) (l1_0 : List Int) (a2 : Int) (a3 : Int) (a4 : Int) (w : World) (hr0_2 : Kd.C k108 w A0_2 l0_2.length l0_2) (hc0_2 : l0_2.length ≤ c0_2) (hr1_0 : Kd.C (Kd.int .u8) w A1_0 l1_0.length l1_0) (hc1_0 : l1_0.length ≤ c1_0) (y0 : (Lit.int .i64 a0_0).wf = true) (y1 : (Lit.int .i64 a0_1).wf = true) (y2 : l0_2.length ≤ maxLen) (y3 : (∀ x ∈ l0_2, (Lit.int .i64 x.f0).wf = true ∧ (x.f1.length ≤ maxLen ∧ ∀ y0_ ∈ x.f1, (Lit.int .u8 y0_).wf = true))) (y4 : l1_0.length ≤ maxLen) (y5 : ∀ y0_ ∈ l1_0, (Lit.int .u8 y0_).wf = true) (z0 : (Lit.int .i64 a2).wf = true) (z1 : (Lit.int .i64 a3).wf = true) (z2 : (Lit.int .i64 a4).wf = true) :
    Calls Try.prog 8 #[.agg #[.int .i64 a0_0, .int .i64 a0_1, .slice A0_2 l0_2.length c0_2], .agg #[.slice A1_0 l1_0.length c1_0], .int .i64 a2, .int .i64 a3, .int .i64 a4] w fun e w' => e = .returned (.bool true) ∧ Below w.heap.size w w' := by
  obtain ⟨k, q, hq, hcase⟩ := P a0_0 a0_1 l0_2 l1_0 a2 a3 a4 y0 y1 y2 y3 y4 y5 z0 z1 z2
  clear P y0 y1 y2 y3 y4 y5 z0 z1 z2
  have hu25 := Try.underlying25
  have hu27 := Try.underlying27
  have hu34 := Try.underlying34
  have hu41 := Try.underlying41
  have hu44 := Try.underlying44
  have HR := Aside0.mk hr0_2
  have HRf := Aside0.mk hr1_0
  have HQ := Aside0.mk hq
  have hh0 : H0 w ((w.alloc (.cells #[.int .i64 a0_0, .int .i64 a0_1, .slice A0_2 l0_2.length c0_2] 34)).alloc (.cells #[.slice A1_0 l1_0.length c1_0] 41)) (.cells #[.int .i64 a0_0, .int .i64 a0_1, .slice A0_2 l0_2.length c0_2] 34) (.cells #[.slice A1_0 l1_0.length c1_0] 41) := ⟨below_alloc (below_alloc (Below.refl _ _) _) _, blk_alloc (blk_new _ _) _, blk_new_at _ _ _ (by simp)⟩
  obtain ⟨a0_, a1_, a2_⟩ := cells3b hh0.ba
  have f0_ := cells1 hh0.bf
  have HA := Aside0.mk hh0
  have HC := Aside0.mk hc0_2
  have HCf := Aside0.mk hc1_0
  clear hr0_2 hr1_0 hq hh0 hc0_2 hc1_0
  rcases hcase with hneg | ⟨hneg, q2, hq2, hcase⟩
  · have hnb : decide (q < 0) = true := decide_eq_true hneg
    clear hneg
    go_enter Try.func8, Try.ntmps8
    go_wp2_with (go_at_call 16; refine (laws_szCache.calls k a0_0 a0_1 A0_2 c0_2 l0_2 1048576 q _ (Kd.C_below HR.out HA.out.B) HC.out HQ.out).mono ?_; rintro e w1 ⟨rfl, hb⟩; have HW := Aside0.mk (HA.out.below hb); clear hb)
    go_ret
    exact ⟨rfl, HW.out.B⟩
  have hnb : decide (q < 0) = false := decide_eq_false hneg
  have HQ2 := Aside0.mk hq2
  clear hneg hq2
  rcases hcase with hneg | ⟨hneg, u0, s0, l, fl, c, rb, u, s, bs, m0, l', m1, fl', mb, rb', m, bs', h1, h1f, h2, h3, h4, h5, h5f, h6, h6f, h7, h8, h9, h10, h11⟩
  · have hnb2 : decide (q2 < 0) = true := decide_eq_true hneg
    clear hneg
    go_enter Try.func8, Try.ntmps8
    go_wp2_with (first | (go_at_call 16; refine (laws_szCache.calls k a0_0 a0_1 A0_2 c0_2 l0_2 1048576 q _ (Kd.C_below HR.out HA.out.B) HC.out HQ.out).mono ?_; rintro e w1 ⟨rfl, hb⟩; have HW := Aside0.mk (HA.out.below hb); clear a0_ a1_ a2_ f0_; obtain ⟨a0_, a1_, a2_⟩ := cells3b HW.out.ba; have f0_ := cells1 HW.out.bf; clear hb) | (go_at_call 21; refine (laws_szFile.calls A1_0 c1_0 l1_0 q q2 _ (Kd.C_below HRf.out HW.out.B) HCf.out HQ2.out).mono ?_; rintro e w2 ⟨rfl, hb⟩; replace HW := Aside0.mk (HW.out.below hb); clear hb))
    go_ret
    exact ⟨rfl, HW.out.B⟩
  have hnb2 : decide (q2 < 0) = false := decide_eq_false hneg
  have hmb0 : decide (m1 < 0) = false := decide_eq_false h7
  have hmb : decide (m < 0) = false := decide_eq_false h11
  have K1 := Aside0.mk h1
  have K1f := Aside0.mk h1f
  have K2 := Aside0.mk h2
  have K3 := Aside0.mk h3
  have K4 := Aside0.mk h4
  have K5 := Aside0.mk h5
  have K5f := Aside0.mk h5f
  have K6 := Aside0.mk h6
  have K6f := Aside0.mk h6f
  have K8 := Aside0.mk h8
  have K9 := Aside0.mk h9
  have K10 := Aside0.mk h10
  clear h1 h1f h2 h3 h4 h5 h5f h6 h6f h7 h8 h9 h10 h11 hneg
  go_enter Try.func8, Try.ntmps8
  go_wp2_with (first | (go_at_call 16; refine (laws_szCache.calls k a0_0 a0_1 A0_2 c0_2 l0_2 1048576 q _ (Kd.C_below HR.out HA.out.B) HC.out HQ.out).mono ?_; rintro e w1 ⟨rfl, hb⟩; have HW := Aside0.mk (HA.out.below hb); clear a0_ a1_ a2_ f0_; obtain ⟨a0_, a1_, a2_⟩ := cells3b HW.out.ba; have f0_ := cells1 HW.out.bf; clear hb HA) | (go_at_call 21; refine (laws_szFile.calls A1_0 c1_0 l1_0 q q2 _ (Kd.C_below HRf.out HW.out.B) HCf.out HQ2.out).mono ?_; rintro e w2 ⟨rfl, hb⟩; replace HW := Aside0.mk (HW.out.below hb); clear a0_ a1_ a2_ f0_; obtain ⟨a0_, a1_, a2_⟩ := cells3b HW.out.ba; have f0_ := cells1 HW.out.bf; clear hb))
  clear a0_ a1_ a2_ f0_
  replace HW := Aside0.mk (HW.out.below (below_drew (Below.refl _ _)))
  refine start_ (n := 10) (S := fun w' => w'.cell? ⟨w.heap.size, 0, none⟩ = some (.int .i64 a0_0) ∧ w'.cell? ⟨w.heap.size, 1, none⟩ = some (.int .i64 a0_1) ∧ w'.cell? ⟨w.heap.size, 2, none⟩ = some (.slice A0_2 l0_2.length c0_2) ∧ w'.cell? ⟨w.heap.size + 1, 0, none⟩ = some (.slice A1_0 l1_0.length c1_0)) (ds := [9]) #[false, false, false, false, false, false, false, false, false, false] (by kernel_rfl) rfl rfl ⟨(blk_cell HW.out.ba 0).trans rfl, (blk_cell HW.out.ba 1).trans rfl, (blk_cell HW.out.ba 2).trans rfl, (blk_cell HW.out.bf 0).trans rfl⟩ (fun hHeld => ?_)
  refine with_tabW lawsReadRange.t8_.tab8 lawsReadRange.t8_.bits8 (fun HT_ HW_ => ?_)
  generalize w2.drew = w3 at HW hHeld ⊢
  have HBB := Aside0.mk (Below.refl w3.heap.size w3)
  refine pure_ (i := 4) (N := some 34) (v := ?_) (a' := ?_) #[false, false, false, false, true, false, false, false, false, false] rfl rfl (any_of HT_.out (by kernel_rfl)) (fun _ _ _ h => h) (Or.inl ⟨by rfl, ?_⟩) ?_ ?_
  rotate_left; (intro w'; go_simp; with_reducible rfl); rotate_left; (simp only [Act.put, List.setIfInBounds_toArray, List.set_cons_zero, List.set_cons_succ, i64_w, i32_w]; rfl)
  refine pure_ (i := 5) (N := some 35) (v := ?_) (a' := ?_) #[false, false, false, false, true, true, false, false, false, false] rfl rfl (any_of HT_.out (by kernel_rfl)) (fun _ _ _ h => h) (Or.inl ⟨by rfl, ?_⟩) ?_ ?_
  rotate_left; (intro w'; go_simp; with_reducible rfl); rotate_left; (simp only [Act.put, List.setIfInBounds_toArray, List.set_cons_zero, List.set_cons_succ, i64_w, i32_w]; rfl)
  refine pure_ (i := 6) (N := some 36) (v := ?_) (a' := ?_) #[false, false, false, false, true, true, true, false, false, false] rfl rfl (any_of HT_.out (by kernel_rfl)) (fun _ _ _ h => h) (Or.inl ⟨by rfl, ?_⟩) ?_ ?_
  rotate_left; (intro w'; go_simp; with_reducible rfl); rotate_left; (simp only [Act.put, List.setIfInBounds_toArray, List.set_cons_zero, List.set_cons_succ, i64_w, i32_w]; rfl)
  refine take_ (i := 0) (N := some 30) (v := ?_) (a' := ?_) #[true, false, false, false, true, true, true, false, false, false] rfl rfl (take_ofW HT_.out HW_.out (by kernel_rfl)) (fun _ _ _ h => h) (Or.inl ⟨by rfl, ?_⟩) hHeld ?_ ?_
  rotate_left; (rintro w' ⟨s0, s1, s2, s3⟩; go_simp; with_reducible rfl); rotate_left; (simp only [Act.put, List.setIfInBounds_toArray, List.set_cons_zero, List.set_cons_succ, i64_w, i32_w]; rfl)
  refine take_ (i := 2) (N := some 32) (v := ?_) (a' := ?_) #[true, false, true, false, true, true, true, false, false, false] rfl rfl (take_ofW HT_.out HW_.out (by kernel_rfl)) (fun _ _ _ h => h) (Or.inl ⟨by rfl, ?_⟩) hHeld ?_ ?_
  rotate_left; (rintro w' ⟨s0, s1, s2, s3⟩; go_simp; with_reducible rfl); rotate_left; (simp only [Act.put, List.setIfInBounds_toArray, List.set_cons_zero, List.set_cons_succ, i64_w, i32_w]; rfl)
  refine join_ (σ := (Option Addr × Nat) × (Option Addr × Nat) × (Option Addr × Nat) × (Option Addr × Nat) × Nat) 1 #[true, true, true, true, true, true, true, true, true, false] (fun s_ => [(31, .agg #[.int .i64 u0, .int .i64 s0, .slice s_.1.1 l.length s_.1.2]), (33, .agg #[.slice s_.2.1.1 fl.length s_.2.1.2]), (37, .agg #[.int .i64 c, .slice s_.2.2.1.1 rb.length s_.2.2.1.2, .int .i64 u, .int .i64 s, .slice s_.2.2.2.1.1 bs.length s_.2.2.2.1.2]), (12, .pointer (some ⟨s_.2.2.2.2, 0, none⟩))]) (fun s_ w' => Got w3 w' rb bs s_.2.2.1.1 s_.2.2.1.2 s_.2.2.2.1.1 s_.2.2.2.1.2 s_.2.2.2.2) ?_ ?_
  rotate_left
  · intro hCont
    refine two_ (i := 1) (j := 8) (Ni := some 31) (Nj := some 12) #[true, true, true, false, true, true, true, false, false, false] #[true, false, true, false, true, true, true, false, true, false] rfl rfl rfl rfl (two_of HT_.out (by kernel_rfl)) (by decide) (by decide) (fun K hK => ?_) (fun K hK => ?_)
    · skip
      refine goes_ Try.func18 (by kernel_rfl) rfl #[.agg #[.int .i64 a0_0, .int .i64 a0_1, .slice A0_2 l0_2.length c0_2]] (by rfl) rfl rfl (by simp only [List.map_toArray, List.map_cons, List.map_nil]; rfl) ?_
      with_reducible refine (laws_toCache.calls k a0_0 a0_1 A0_2 c0_2 l0_2 u0 s0 l _ (Kd.C_below HR.out (HW.out.below HBB.out).B) HC.out K1.out).mono ?_
      rintro e wv ⟨vl_, rfl, hS_, hb⟩
      refine ⟨_, rfl, ?_⟩
      obtain ⟨Al_, cl_, rfl⟩ := Kd.S_slice hS_
      have HL_ := Aside0.mk hS_
      replace HBB := Aside0.mk (below_step HBB.out hb)
      clear hS_ hb
      refine hK.out _ _ ⟨(blk_cell (HW.out.below HBB.out).ba 0).trans rfl, (blk_cell (HW.out.below HBB.out).ba 1).trans rfl, (blk_cell (HW.out.below HBB.out).ba 2).trans rfl, (blk_cell (HW.out.below HBB.out).bf 0).trans rfl⟩ (fun hHeld => ?_)
      clear hK K
      refine norm_ (a' := ?_) ?_ ?_
      rotate_left
      · show Act.put _ (some 31) _ = _
        simp only [Act.put, List.setIfInBounds_toArray, List.set_cons_zero, List.set_cons_succ, i64_w, i32_w]
        rfl
      refine two_ (i := 3) (j := 8) (Ni := some 33) (Nj := some 12) #[true, true, true, true, true, true, true, false, false, false] #[true, true, true, false, true, true, true, false, true, false] rfl rfl rfl rfl (two_of HT_.out (by kernel_rfl)) (by decide) (by decide) (fun K hK => ?_) (fun K hK => ?_)
      · skip
        refine goes_ Try.func23 (by kernel_rfl) rfl #[.agg #[.slice A1_0 l1_0.length c1_0]] (by rfl) rfl rfl (by simp only [List.map_toArray, List.map_cons, List.map_nil]; rfl) ?_
        with_reducible refine (laws_toFile.calls k A1_0 c1_0 l1_0 fl _ (Kd.C_below HRf.out (HW.out.below HBB.out).B) HCf.out K1f.out).mono ?_
        rintro e wv ⟨vf_, rfl, hR_, hb⟩
        refine ⟨_, rfl, ?_⟩
        obtain ⟨Af_, cf_, rfl⟩ := Kd.R_slice hR_
        have HFL_ := Aside0.mk hR_
        replace HL_ := Aside0.mk (Kd.S_below HL_.out hb)
        replace HBB := Aside0.mk (below_step HBB.out hb)
        clear hR_ hb
        refine hK.out _ _ ⟨(blk_cell (HW.out.below HBB.out).ba 0).trans rfl, (blk_cell (HW.out.below HBB.out).ba 1).trans rfl, (blk_cell (HW.out.below HBB.out).ba 2).trans rfl, (blk_cell (HW.out.below HBB.out).bf 0).trans rfl⟩ (fun hHeld => ?_)
        clear hK K
        refine norm_ (a' := ?_) ?_ ?_
        rotate_left
        · show Act.put _ (some 33) _ = _
          simp only [Act.put, List.setIfInBounds_toArray, List.set_cons_zero, List.set_cons_succ, i64_w, i32_w]
          rfl
        refine two_ (i := 7) (j := 8) (Ni := some 37) (Nj := some 12) #[true, true, true, true, true, true, true, true, false, false] #[true, true, true, true, true, true, true, false, true, false] rfl rfl rfl rfl (two_of HT_.out (by kernel_rfl)) (by decide) (by decide) (fun K hK => ?_) (fun K hK => ?_)
        · skip
          refine goes_ Try.func32 (by kernel_rfl) rfl #[.agg #[.int .i64 u0, .int .i64 s0, .slice Al_ l.length cl_], .agg #[.slice Af_ fl.length cf_], .int .i64 a2, .int .i64 a3, .int .i64 a4] (by rfl) rfl rfl (by simp only [List.map_toArray, List.map_cons, List.map_nil]; rfl) ?_
          with_reducible refine (spec_ReadRange.calls k u0 s0 Al_ cl_ l Af_ cf_ fl a2 a3 a4 c rb u s bs _ (Kd.S_reads' HL_.out).2.2 (Kd.S_reads' HL_.out).2.1 (Kd.R_reads' HFL_.out).2.2 (Kd.R_reads' HFL_.out).2.1 K2.out).mono ?_
          rintro e wv ⟨vp_, vz_, rfl, hR_, hS_, hb⟩
          refine ⟨_, rfl, ?_⟩
          obtain ⟨Ap_, cp_, rfl⟩ := Kd.R_slice hR_
          obtain ⟨Az_, cz_, rfl, hlz_, hFz0_⟩ := hS_
          have hFz_ := Kd.F_mono hFz0_ (fun k hk => hk.1)
          have HLZ := Aside0.mk hlz_
          have hle_ := HBB.out.size
          have HZr := Aside0.mk (Kd.R_lower hR_ hle_)
          have HZs := Aside0.mk hFz_
          replace HBB := Aside0.mk (below_step HBB.out hb)
          clear hR_ hb hle_ hFz_ hlz_
          refine hK.out _ _ ⟨(blk_cell (HW.out.below HBB.out).ba 0).trans rfl, (blk_cell (HW.out.below HBB.out).ba 1).trans rfl, (blk_cell (HW.out.below HBB.out).ba 2).trans rfl, (blk_cell (HW.out.below HBB.out).bf 0).trans rfl⟩ (fun hHeld => ?_)
          clear hK K
          refine norm_ (a' := ?_) ?_ ?_
          rotate_left
          · show Act.put _ (some 37) _ = _
            simp only [Act.put, List.setIfInBounds_toArray, List.set_cons_zero, List.set_cons_succ, i64_w, i32_w]
            rfl
          refine one_ (i := 8) (N := some 12) #[true, true, true, true, true, true, true, true, true, false] rfl rfl (one_of HT_.out (by kernel_rfl)) (by decide) (fun K hK => ?_)
          refine value_ (w1 := ?_) (v := ?_) (by rfl) rfl ?_ ?_
          rotate_left 2
          · go_simp
            constructor
            · rfl
            · rfl
          have hle_ := HBB.out.size
          have HZR := Aside0.mk (Kd.R_alloc (Kd.R_mono (ok' := fun k => k ≠ wv.heap.size) (Kd.R_bound HZr.out) (fun k hk => by have := hk.2.2.1; omega)) (.cells #[.int .i64 0, .slice none 0 0, .int .i64 0, .int .i64 0, .slice none 0 0] 27))
          have HZS := Aside0.mk (Kd.F_alloc (Kd.F_mono (ok' := fun k => k ≠ wv.heap.size) (Kd.F_bound HZs.out) (fun k hk => by have := hk.2; omega)) (.cells #[.int .i64 0, .slice none 0 0, .int .i64 0, .int .i64 0, .slice none 0 0] 27))
          have HBE := Aside0.mk hle_
          have HBK_ := Aside0.mk (blk_new wv (.cells #[.int .i64 0, .slice none 0 0, .int .i64 0, .int .i64 0, .slice none 0 0] 27))
          replace HBB := Aside0.mk (below_step HBB.out (below_alloc (Below.refl _ _) (.cells #[.int .i64 0, .slice none 0 0, .int .i64 0, .int .i64 0, .slice none 0 0] 27)))
          refine hK.out _ _ ⟨(blk_cell (HW.out.below HBB.out).ba 0).trans rfl, (blk_cell (HW.out.below HBB.out).ba 1).trans rfl, (blk_cell (HW.out.below HBB.out).ba 2).trans rfl, (blk_cell (HW.out.below HBB.out).bf 0).trans rfl⟩ (fun hHeld => ?_)
          clear hK K
          refine norm_ (a' := ?_) ?_ ?_
          rotate_left
          · show Act.put _ (some 12) _ = _
            simp only [Act.put, List.setIfInBounds_toArray, List.set_cons_zero, List.set_cons_succ, i64_w, i32_w]
            rfl
          exact norm_ (by first | (simp only [putAll, Act.put, List.setIfInBounds_toArray, List.set_cons_zero, List.set_cons_succ]; done) | (simp only [putAll, Act.put, List.setIfInBounds_toArray, List.set_cons_zero, List.set_cons_succ]; rfl) | (simp only [putAll, Act.put, List.setIfInBounds_toArray, List.set_cons_zero, List.set_cons_succ]; rw [hbb_])) (hCont ((Al_, cl_), (Af_, cf_), (Ap_, cp_), (Az_, cz_), wv.heap.size) _ ⟨HBB.out, HBE.out, HBK_.out, HZR.out, HZS.out, HLZ.out⟩)
        · skip
          refine value_ (w1 := ?_) (v := ?_) (by rfl) rfl ?_ ?_
          rotate_left 2
          · go_simp
            constructor
            · rfl
            · rfl
          replace HL_ := Aside0.mk (Kd.S_alloc HL_.out (.cells #[.int .i64 0, .slice none 0 0, .int .i64 0, .int .i64 0, .slice none 0 0] 27))
          replace HFL_ := Aside0.mk (Kd.R_alloc HFL_.out (.cells #[.int .i64 0, .slice none 0 0, .int .i64 0, .int .i64 0, .slice none 0 0] 27))
          have hle_ := HBB.out.size
          obtain ⟨bb_, hbb_⟩ : ∃ b, b = wv.heap.size := ⟨_, rfl⟩
          have HBE : Aside0 (w3.heap.size ≤ bb_) := ⟨by rw [hbb_]; exact hle_⟩
          have HBK_ : Aside0 ((wv.alloc (.cells #[.int .i64 0, .slice none 0 0, .int .i64 0, .int .i64 0, .slice none 0 0] 27)).heap[bb_]? = some (.cells #[.int .i64 0, .slice none 0 0, .int .i64 0, .int .i64 0, .slice none 0 0] 27 (0, 0))) := ⟨by rw [hbb_]; exact blk_new wv _⟩
          replace HBB := Aside0.mk (below_step HBB.out (below_alloc (Below.refl _ _) (.cells #[.int .i64 0, .slice none 0 0, .int .i64 0, .int .i64 0, .slice none 0 0] 27)))
          refine hK.out _ _ ⟨(blk_cell (HW.out.below HBB.out).ba 0).trans rfl, (blk_cell (HW.out.below HBB.out).ba 1).trans rfl, (blk_cell (HW.out.below HBB.out).ba 2).trans rfl, (blk_cell (HW.out.below HBB.out).bf 0).trans rfl⟩ (fun hHeld => ?_)
          clear hK K
          refine norm_ (a' := ?_) ?_ ?_
          rotate_left
          · show Act.put _ (some 12) _ = _
            simp only [Act.put, List.setIfInBounds_toArray, List.set_cons_zero, List.set_cons_succ, i64_w, i32_w]
            rfl
          refine one_ (i := 7) (N := some 37) #[true, true, true, true, true, true, true, true, true, false] rfl rfl (one_of HT_.out (by kernel_rfl)) (by decide) (fun K hK => ?_)
          refine goes_ Try.func32 (by kernel_rfl) rfl #[.agg #[.int .i64 u0, .int .i64 s0, .slice Al_ l.length cl_], .agg #[.slice Af_ fl.length cf_], .int .i64 a2, .int .i64 a3, .int .i64 a4] (by rfl) rfl rfl (by simp only [List.map_toArray, List.map_cons, List.map_nil]; rfl) ?_
          with_reducible refine (spec_ReadRange.calls k u0 s0 Al_ cl_ l Af_ cf_ fl a2 a3 a4 c rb u s bs _ (Kd.S_reads' HL_.out).2.2 (Kd.S_reads' HL_.out).2.1 (Kd.R_reads' HFL_.out).2.2 (Kd.R_reads' HFL_.out).2.1 K2.out).mono ?_
          rintro e wv ⟨vp_, vz_, rfl, hR_, hS_, hb⟩
          refine ⟨_, rfl, ?_⟩
          obtain ⟨Ap_, cp_, rfl⟩ := Kd.R_slice hR_
          obtain ⟨Az_, cz_, rfl, hlz_, hFz0_⟩ := hS_
          have hFz_ := Kd.F_mono hFz0_ (fun k hk => hk.1)
          have HLZ := Aside0.mk hlz_
          have hle_ := HBB.out.size
          have hlt_ := blk_lt HBK_.out
          have HZR := Aside0.mk (Kd.R_mono (ok' := fun k => k ≠ bb_) (Kd.R_lower (Kd.R_bound hR_) hle_) (fun k hk => by have := hk.2.1; omega))
          have HZS := Aside0.mk (Kd.F_mono (ok' := fun k => k ≠ bb_) hFz_ (fun k hk => by omega))
          replace HBK_ := Aside0.mk (blk_below HBK_.out hb)
          replace HBB := Aside0.mk (below_step HBB.out hb)
          clear hR_ hb hle_ hFz_ hlz_
          refine hK.out _ _ ⟨(blk_cell (HW.out.below HBB.out).ba 0).trans rfl, (blk_cell (HW.out.below HBB.out).ba 1).trans rfl, (blk_cell (HW.out.below HBB.out).ba 2).trans rfl, (blk_cell (HW.out.below HBB.out).bf 0).trans rfl⟩ (fun hHeld => ?_)
          clear hK K
          refine norm_ (a' := ?_) ?_ ?_
          rotate_left
          · show Act.put _ (some 37) _ = _
            simp only [Act.put, List.setIfInBounds_toArray, List.set_cons_zero, List.set_cons_succ, i64_w, i32_w]
            rfl
          exact norm_ (by first | (simp only [putAll, Act.put, List.setIfInBounds_toArray, List.set_cons_zero, List.set_cons_succ]; done) | (simp only [putAll, Act.put, List.setIfInBounds_toArray, List.set_cons_zero, List.set_cons_succ]; rfl) | (simp only [putAll, Act.put, List.setIfInBounds_toArray, List.set_cons_zero, List.set_cons_succ]; rw [hbb_])) (hCont ((Al_, cl_), (Af_, cf_), (Ap_, cp_), (Az_, cz_), bb_) _ ⟨HBB.out, HBE.out, HBK_.out, HZR.out, HZS.out, HLZ.out⟩)
      · skip
        refine value_ (w1 := ?_) (v := ?_) (by rfl) rfl ?_ ?_
        rotate_left 2
        · go_simp
          constructor
          · rfl
          · rfl
        replace HL_ := Aside0.mk (Kd.S_alloc HL_.out (.cells #[.int .i64 0, .slice none 0 0, .int .i64 0, .int .i64 0, .slice none 0 0] 27))
        have hle_ := HBB.out.size
        obtain ⟨bb_, hbb_⟩ : ∃ b, b = wv.heap.size := ⟨_, rfl⟩
        have HBE : Aside0 (w3.heap.size ≤ bb_) := ⟨by rw [hbb_]; exact hle_⟩
        have HBK_ : Aside0 ((wv.alloc (.cells #[.int .i64 0, .slice none 0 0, .int .i64 0, .int .i64 0, .slice none 0 0] 27)).heap[bb_]? = some (.cells #[.int .i64 0, .slice none 0 0, .int .i64 0, .int .i64 0, .slice none 0 0] 27 (0, 0))) := ⟨by rw [hbb_]; exact blk_new wv _⟩
        replace HBB := Aside0.mk (below_step HBB.out (below_alloc (Below.refl _ _) (.cells #[.int .i64 0, .slice none 0 0, .int .i64 0, .int .i64 0, .slice none 0 0] 27)))
        refine hK.out _ _ ⟨(blk_cell (HW.out.below HBB.out).ba 0).trans rfl, (blk_cell (HW.out.below HBB.out).ba 1).trans rfl, (blk_cell (HW.out.below HBB.out).ba 2).trans rfl, (blk_cell (HW.out.below HBB.out).bf 0).trans rfl⟩ (fun hHeld => ?_)
        clear hK K
        refine norm_ (a' := ?_) ?_ ?_
        rotate_left
        · show Act.put _ (some 12) _ = _
          simp only [Act.put, List.setIfInBounds_toArray, List.set_cons_zero, List.set_cons_succ, i64_w, i32_w]
          rfl
        refine one_ (i := 3) (N := some 33) #[true, true, true, true, true, true, true, false, true, false] rfl rfl (one_of HT_.out (by kernel_rfl)) (by decide) (fun K hK => ?_)
        refine goes_ Try.func23 (by kernel_rfl) rfl #[.agg #[.slice A1_0 l1_0.length c1_0]] (by rfl) rfl rfl (by simp only [List.map_toArray, List.map_cons, List.map_nil]; rfl) ?_
        with_reducible refine (laws_toFile.calls k A1_0 c1_0 l1_0 fl _ (Kd.C_below HRf.out (HW.out.below HBB.out).B) HCf.out K1f.out).mono ?_
        rintro e wv ⟨vf_, rfl, hR_, hb⟩
        refine ⟨_, rfl, ?_⟩
        obtain ⟨Af_, cf_, rfl⟩ := Kd.R_slice hR_
        have HFL_ := Aside0.mk hR_
        replace HL_ := Aside0.mk (Kd.S_below HL_.out hb)
        replace HBK_ := Aside0.mk (blk_below HBK_.out hb)
        replace HBB := Aside0.mk (below_step HBB.out hb)
        clear hR_ hb
        refine hK.out _ _ ⟨(blk_cell (HW.out.below HBB.out).ba 0).trans rfl, (blk_cell (HW.out.below HBB.out).ba 1).trans rfl, (blk_cell (HW.out.below HBB.out).ba 2).trans rfl, (blk_cell (HW.out.below HBB.out).bf 0).trans rfl⟩ (fun hHeld => ?_)
        clear hK K
        refine norm_ (a' := ?_) ?_ ?_
        rotate_left
        · show Act.put _ (some 33) _ = _
          simp only [Act.put, List.setIfInBounds_toArray, List.set_cons_zero, List.set_cons_succ, i64_w, i32_w]
          rfl
        refine one_ (i := 7) (N := some 37) #[true, true, true, true, true, true, true, true, true, false] rfl rfl (one_of HT_.out (by kernel_rfl)) (by decide) (fun K hK => ?_)
        refine goes_ Try.func32 (by kernel_rfl) rfl #[.agg #[.int .i64 u0, .int .i64 s0, .slice Al_ l.length cl_], .agg #[.slice Af_ fl.length cf_], .int .i64 a2, .int .i64 a3, .int .i64 a4] (by rfl) rfl rfl (by simp only [List.map_toArray, List.map_cons, List.map_nil]; rfl) ?_
        with_reducible refine (spec_ReadRange.calls k u0 s0 Al_ cl_ l Af_ cf_ fl a2 a3 a4 c rb u s bs _ (Kd.S_reads' HL_.out).2.2 (Kd.S_reads' HL_.out).2.1 (Kd.R_reads' HFL_.out).2.2 (Kd.R_reads' HFL_.out).2.1 K2.out).mono ?_
        rintro e wv ⟨vp_, vz_, rfl, hR_, hS_, hb⟩
        refine ⟨_, rfl, ?_⟩
        obtain ⟨Ap_, cp_, rfl⟩ := Kd.R_slice hR_
        obtain ⟨Az_, cz_, rfl, hlz_, hFz0_⟩ := hS_
        have hFz_ := Kd.F_mono hFz0_ (fun k hk => hk.1)
        have HLZ := Aside0.mk hlz_
        have hle_ := HBB.out.size
        have hlt_ := blk_lt HBK_.out
        have HZR := Aside0.mk (Kd.R_mono (ok' := fun k => k ≠ bb_) (Kd.R_lower (Kd.R_bound hR_) hle_) (fun k hk => by have := hk.2.1; omega))
        have HZS := Aside0.mk (Kd.F_mono (ok' := fun k => k ≠ bb_) hFz_ (fun k hk => by omega))
        replace HBK_ := Aside0.mk (blk_below HBK_.out hb)
        replace HBB := Aside0.mk (below_step HBB.out hb)
        clear hR_ hb hle_ hFz_ hlz_
        refine hK.out _ _ ⟨(blk_cell (HW.out.below HBB.out).ba 0).trans rfl, (blk_cell (HW.out.below HBB.out).ba 1).trans rfl, (blk_cell (HW.out.below HBB.out).ba 2).trans rfl, (blk_cell (HW.out.below HBB.out).bf 0).trans rfl⟩ (fun hHeld => ?_)
        clear hK K
        refine norm_ (a' := ?_) ?_ ?_
        rotate_left
        · show Act.put _ (some 37) _ = _
          simp only [Act.put, List.setIfInBounds_toArray, List.set_cons_zero, List.set_cons_succ, i64_w, i32_w]
          rfl
        exact norm_ (by first | (simp only [putAll, Act.put, List.setIfInBounds_toArray, List.set_cons_zero, List.set_cons_succ]; done) | (simp only [putAll, Act.put, List.setIfInBounds_toArray, List.set_cons_zero, List.set_cons_succ]; rfl) | (simp only [putAll, Act.put, List.setIfInBounds_toArray, List.set_cons_zero, List.set_cons_succ]; rw [hbb_])) (hCont ((Al_, cl_), (Af_, cf_), (Ap_, cp_), (Az_, cz_), bb_) _ ⟨HBB.out, HBE.out, HBK_.out, HZR.out, HZS.out, HLZ.out⟩)
    · skip
      refine value_ (w1 := ?_) (v := ?_) (by rfl) rfl ?_ ?_
      rotate_left 2
      · go_simp
        constructor
        · rfl
        · rfl
      have hle_ := HBB.out.size
      obtain ⟨bb_, hbb_⟩ : ∃ b, b = w3.heap.size := ⟨_, rfl⟩
      have HBE : Aside0 (w3.heap.size ≤ bb_) := ⟨by rw [hbb_]; exact hle_⟩
      have HBK_ : Aside0 ((w3.alloc (.cells #[.int .i64 0, .slice none 0 0, .int .i64 0, .int .i64 0, .slice none 0 0] 27)).heap[bb_]? = some (.cells #[.int .i64 0, .slice none 0 0, .int .i64 0, .int .i64 0, .slice none 0 0] 27 (0, 0))) := ⟨by rw [hbb_]; exact blk_new w3 _⟩
      replace HBB := Aside0.mk (below_step HBB.out (below_alloc (Below.refl _ _) (.cells #[.int .i64 0, .slice none 0 0, .int .i64 0, .int .i64 0, .slice none 0 0] 27)))
      refine hK.out _ _ ⟨(blk_cell (HW.out.below HBB.out).ba 0).trans rfl, (blk_cell (HW.out.below HBB.out).ba 1).trans rfl, (blk_cell (HW.out.below HBB.out).ba 2).trans rfl, (blk_cell (HW.out.below HBB.out).bf 0).trans rfl⟩ (fun hHeld => ?_)
      clear hK K
      refine norm_ (a' := ?_) ?_ ?_
      rotate_left
      · show Act.put _ (some 12) _ = _
        simp only [Act.put, List.setIfInBounds_toArray, List.set_cons_zero, List.set_cons_succ, i64_w, i32_w]
        rfl
      refine one_ (i := 1) (N := some 31) #[true, true, true, false, true, true, true, false, true, false] rfl rfl (one_of HT_.out (by kernel_rfl)) (by decide) (fun K hK => ?_)
      refine goes_ Try.func18 (by kernel_rfl) rfl #[.agg #[.int .i64 a0_0, .int .i64 a0_1, .slice A0_2 l0_2.length c0_2]] (by rfl) rfl rfl (by simp only [List.map_toArray, List.map_cons, List.map_nil]; rfl) ?_
      with_reducible refine (laws_toCache.calls k a0_0 a0_1 A0_2 c0_2 l0_2 u0 s0 l _ (Kd.C_below HR.out (HW.out.below HBB.out).B) HC.out K1.out).mono ?_
      rintro e wv ⟨vl_, rfl, hS_, hb⟩
      refine ⟨_, rfl, ?_⟩
      obtain ⟨Al_, cl_, rfl⟩ := Kd.S_slice hS_
      have HL_ := Aside0.mk hS_
      replace HBK_ := Aside0.mk (blk_below HBK_.out hb)
      replace HBB := Aside0.mk (below_step HBB.out hb)
      clear hS_ hb
      refine hK.out _ _ ⟨(blk_cell (HW.out.below HBB.out).ba 0).trans rfl, (blk_cell (HW.out.below HBB.out).ba 1).trans rfl, (blk_cell (HW.out.below HBB.out).ba 2).trans rfl, (blk_cell (HW.out.below HBB.out).bf 0).trans rfl⟩ (fun hHeld => ?_)
      clear hK K
      refine norm_ (a' := ?_) ?_ ?_
      rotate_left
      · show Act.put _ (some 31) _ = _
        simp only [Act.put, List.setIfInBounds_toArray, List.set_cons_zero, List.set_cons_succ, i64_w, i32_w]
        rfl
      refine one_ (i := 3) (N := some 33) #[true, true, true, true, true, true, true, false, true, false] rfl rfl (one_of HT_.out (by kernel_rfl)) (by decide) (fun K hK => ?_)
      refine goes_ Try.func23 (by kernel_rfl) rfl #[.agg #[.slice A1_0 l1_0.length c1_0]] (by rfl) rfl rfl (by simp only [List.map_toArray, List.map_cons, List.map_nil]; rfl) ?_
      with_reducible refine (laws_toFile.calls k A1_0 c1_0 l1_0 fl _ (Kd.C_below HRf.out (HW.out.below HBB.out).B) HCf.out K1f.out).mono ?_
      rintro e wv ⟨vf_, rfl, hR_, hb⟩
      refine ⟨_, rfl, ?_⟩
      obtain ⟨Af_, cf_, rfl⟩ := Kd.R_slice hR_
      have HFL_ := Aside0.mk hR_
      replace HL_ := Aside0.mk (Kd.S_below HL_.out hb)
      replace HBK_ := Aside0.mk (blk_below HBK_.out hb)
      replace HBB := Aside0.mk (below_step HBB.out hb)
      clear hR_ hb
      refine hK.out _ _ ⟨(blk_cell (HW.out.below HBB.out).ba 0).trans rfl, (blk_cell (HW.out.below HBB.out).ba 1).trans rfl, (blk_cell (HW.out.below HBB.out).ba 2).trans rfl, (blk_cell (HW.out.below HBB.out).bf 0).trans rfl⟩ (fun hHeld => ?_)
      clear hK K
      refine norm_ (a' := ?_) ?_ ?_
      rotate_left
      · show Act.put _ (some 33) _ = _
        simp only [Act.put, List.setIfInBounds_toArray, List.set_cons_zero, List.set_cons_succ, i64_w, i32_w]
        rfl
      refine one_ (i := 7) (N := some 37) #[true, true, true, true, true, true, true, true, true, false] rfl rfl (one_of HT_.out (by kernel_rfl)) (by decide) (fun K hK => ?_)
      refine goes_ Try.func32 (by kernel_rfl) rfl #[.agg #[.int .i64 u0, .int .i64 s0, .slice Al_ l.length cl_], .agg #[.slice Af_ fl.length cf_], .int .i64 a2, .int .i64 a3, .int .i64 a4] (by rfl) rfl rfl (by simp only [List.map_toArray, List.map_cons, List.map_nil]; rfl) ?_
      with_reducible refine (spec_ReadRange.calls k u0 s0 Al_ cl_ l Af_ cf_ fl a2 a3 a4 c rb u s bs _ (Kd.S_reads' HL_.out).2.2 (Kd.S_reads' HL_.out).2.1 (Kd.R_reads' HFL_.out).2.2 (Kd.R_reads' HFL_.out).2.1 K2.out).mono ?_
      rintro e wv ⟨vp_, vz_, rfl, hR_, hS_, hb⟩
      refine ⟨_, rfl, ?_⟩
      obtain ⟨Ap_, cp_, rfl⟩ := Kd.R_slice hR_
      obtain ⟨Az_, cz_, rfl, hlz_, hFz0_⟩ := hS_
      have hFz_ := Kd.F_mono hFz0_ (fun k hk => hk.1)
      have HLZ := Aside0.mk hlz_
      have hle_ := HBB.out.size
      have hlt_ := blk_lt HBK_.out
      have HZR := Aside0.mk (Kd.R_mono (ok' := fun k => k ≠ bb_) (Kd.R_lower (Kd.R_bound hR_) hle_) (fun k hk => by have := hk.2.1; omega))
      have HZS := Aside0.mk (Kd.F_mono (ok' := fun k => k ≠ bb_) hFz_ (fun k hk => by omega))
      replace HBK_ := Aside0.mk (blk_below HBK_.out hb)
      replace HBB := Aside0.mk (below_step HBB.out hb)
      clear hR_ hb hle_ hFz_ hlz_
      refine hK.out _ _ ⟨(blk_cell (HW.out.below HBB.out).ba 0).trans rfl, (blk_cell (HW.out.below HBB.out).ba 1).trans rfl, (blk_cell (HW.out.below HBB.out).ba 2).trans rfl, (blk_cell (HW.out.below HBB.out).bf 0).trans rfl⟩ (fun hHeld => ?_)
      clear hK K
      refine norm_ (a' := ?_) ?_ ?_
      rotate_left
      · show Act.put _ (some 37) _ = _
        simp only [Act.put, List.setIfInBounds_toArray, List.set_cons_zero, List.set_cons_succ, i64_w, i32_w]
        rfl
      exact norm_ (by first | (simp only [putAll, Act.put, List.setIfInBounds_toArray, List.set_cons_zero, List.set_cons_succ]; done) | (simp only [putAll, Act.put, List.setIfInBounds_toArray, List.set_cons_zero, List.set_cons_succ]; rfl) | (simp only [putAll, Act.put, List.setIfInBounds_toArray, List.set_cons_zero, List.set_cons_succ]; rw [hbb_])) (hCont ((Al_, cl_), (Af_, cf_), (Ap_, cp_), (Az_, cz_), bb_) _ ⟨HBB.out, HBE.out, HBK_.out, HZR.out, HZS.out, HLZ.out⟩)
  rintro ⟨⟨A29, c29⟩, ⟨A31, c31⟩, ⟨Ap, cp⟩, ⟨Az, cz⟩, b6⟩ w9 hG_
  simp only at hG_
  have HG_ := Aside0.mk hG_
  clear hG_
  have hHeld : w9.cell? ⟨w.heap.size, 0, none⟩ = some (.int .i64 a0_0) ∧ w9.cell? ⟨w.heap.size, 1, none⟩ = some (.int .i64 a0_1) ∧ w9.cell? ⟨w.heap.size, 2, none⟩ = some (.slice A0_2 l0_2.length c0_2) ∧ w9.cell? ⟨w.heap.size + 1, 0, none⟩ = some (.slice A1_0 l1_0.length c1_0) := ⟨(blk_cell (HW.out.below HG_.out.B).ba 0).trans rfl, (blk_cell (HW.out.below HG_.out.B).ba 1).trans rfl, (blk_cell (HW.out.below HG_.out.B).ba 2).trans rfl, (blk_cell (HW.out.below HG_.out.B).bf 0).trans rfl⟩
  refine norm_ (a' := ?_) ?_ ?_
  rotate_left
  · simp only [putAll, Act.put, List.setIfInBounds_toArray, List.set_cons_zero, List.set_cons_succ]
    rfl
  refine last_ (i := 9) (N := none) #[true, true, true, true, true, true, true, true, true, true] rfl rfl (one_of HT_.out (by kernel_rfl)) (by decide) (fun K hK => ?_)
  obtain ⟨⟨r0_, r1_, r2_, r3_, r4_⟩, ⟨v0_, v1_, v2_, v3_, v4_⟩⟩ := cells5 HG_.out.b
  refine skip_ (w1 := ?_) (by rfl) rfl ?_ ?_
  rotate_left
  · go_simp
    rfl
  refine hK.out _ _ ?_
  clear hK K
  refine done_ (done_of HT_.out (by kernel_rfl)) ?_
  have HB3 := Aside0.mk (blk_lt HW.out.bf)
  have hG2 := HG_.out.put (.int .i64 c) (.slice Ap rb.length cp) (.int .i64 u) (.int .i64 s) (.slice Az bs.length cz)
  have HGG := Aside0.mk hG2
  clear hG2 HG_
  generalize (((((World.setCell w9 ⟨b6, 0, none⟩ (.int .i64 c)).setCell ⟨b6, 1, none⟩ (.slice Ap rb.length cp)).setCell ⟨b6, 2, none⟩ (.int .i64 u)).setCell ⟨b6, 3, none⟩ (.int .i64 s)).setCell ⟨b6, 4, none⟩ (.slice Az bs.length cz)) = wz at HGG ⊢
  have HH1 : Aside0 (H1 w wz (.cells #[.int .i64 a0_0, .int .i64 a0_1, .slice A0_2 l0_2.length c0_2] 34) (.cells #[.slice A1_0 l1_0.length c1_0] 41) b6 wz.heap.size (.cells #[.int .i64 c, .slice Ap rb.length cp, .int .i64 u, .int .i64 s, .slice Az bs.length cz] 27) (.slice Ap rb.length cp) Az cz rb bs) := ⟨⟨HW.out.below HGG.out.B, HGG.out.b, Kd.R_mono (Kd.R_lower (Kd.R_bound HGG.out.r) (by have := HB3.out; omega)) (fun k hk => ⟨Nat.lt_of_lt_of_le HB3.out hk.2.1, hk.2.2.1⟩), Kd.F_mono (Kd.F_bound HGG.out.s) (fun k hk => hk.2), HGG.out.lz, blk_lt HGG.out.b⟩⟩
  have HT3 := Aside0.mk (Nat.lt_of_lt_of_le HB3.out HGG.out.B.size)
  obtain ⟨a0_, a1_, a2_⟩ := cells3b HH1.out.p.ba; have f0_ := cells1 HH1.out.p.bf; obtain ⟨s0_, s1_, s2_, s3_, s4_⟩ := cells5b HH1.out.b6
  clear HGG HW HB3 HBB
  go_wp2_with (go_at_call 18; refine (laws_toCache.calls k a0_0 a0_1 A0_2 c0_2 l0_2 u0 s0 l _ (Kd.C_below HR.out HH1.out.p.B) HC.out K1.out).mono ?_; rintro e w10 ⟨vx, rfl, hS, hb⟩; obtain ⟨Ax, cx, rfl⟩ := Kd.S_slice hS; have HX := Aside0.mk (Kd.S_mono (Kd.S_lower (Kd.S_bound hS) HH1.out.p.B.size) (fun k hk => (⟨hk.2.1, hk.2.2.1⟩ : wz.heap.size ≤ k ∧ k < w10.heap.size))); have HH2 : Aside0 (H2 w (w10.alloc (.cells #[.int .i64 u0, .int .i64 s0, .slice Ax l.length cx] 25)) (.cells #[.int .i64 a0_0, .int .i64 a0_1, .slice A0_2 l0_2.length c0_2] 34) (.cells #[.slice A1_0 l1_0.length c1_0] 41) b6 wz.heap.size (.cells #[.int .i64 c, .slice Ap rb.length cp, .int .i64 u, .int .i64 s, .slice Az bs.length cz] 27) (.slice Ap rb.length cp) Az cz rb bs w10.heap.size (.cells #[.int .i64 u0, .int .i64 s0, .slice Ax l.length cx] 25) (.slice Ax l.length cx) l) := ⟨⟨(HH1.out.below hb).below (below_alloc (Below.refl _ _) _), blk_new _ _, Kd.S_alloc HX.out _, HT3.out, hb.size⟩⟩; clear a0_ a1_ a2_ f0_ s0_ s1_ s2_ s3_ s4_; obtain ⟨a0_, a1_, a2_⟩ := cells3b HH2.out.p.p.ba; have f0_ := cells1 HH2.out.p.p.bf; obtain ⟨s0_, s1_, s2_, s3_, s4_⟩ := cells5b HH2.out.p.b6; obtain ⟨x0_, x1_, x2_⟩ := cells3b HH2.out.b7; clear hS hb HH1 HX)
  go_wp2_with (go_at_call 23; refine (laws_toFile.calls k A1_0 c1_0 l1_0 fl _ (Kd.C_below HRf.out HH2.out.p.p.B) HCf.out K1f.out).mono ?_; rintro e w11 ⟨vy, rfl, hR, hb⟩; obtain ⟨Ay, cy, rfl⟩ := Kd.R_slice hR; have hlt := blk_lt HH2.out.b7; have HY := Aside0.mk (Kd.R_mono (Kd.R_lower (Kd.R_bound hR) HH2.out.p.p.B.size) (fun k hk => (⟨Nat.lt_of_lt_of_le hlt hk.2.1, hk.2.2.1⟩ : w10.heap.size < k ∧ k < w11.heap.size))); have HH3 : Aside0 (H3 w (w11.alloc (.cells #[.slice Ay fl.length cy] 44)) (.cells #[.int .i64 a0_0, .int .i64 a0_1, .slice A0_2 l0_2.length c0_2] 34) (.cells #[.slice A1_0 l1_0.length c1_0] 41) b6 wz.heap.size (.cells #[.int .i64 c, .slice Ap rb.length cp, .int .i64 u, .int .i64 s, .slice Az bs.length cz] 27) (.slice Ap rb.length cp) Az cz rb bs w10.heap.size (.cells #[.int .i64 u0, .int .i64 s0, .slice Ax l.length cx] 25) (.slice Ax l.length cx) l w11.heap.size (.cells #[.slice Ay fl.length cy] 44) (.slice Ay fl.length cy) fl) := ⟨⟨(HH2.out.below hb).below (below_alloc (Below.refl _ _) _), blk_new _ _, Kd.R_alloc HY.out _, Nat.lt_of_lt_of_le hlt hb.size⟩⟩; clear a0_ a1_ a2_ f0_ s0_ s1_ s2_ s3_ s4_ x0_ x1_ x2_; obtain ⟨a0_, a1_, a2_⟩ := cells3b HH3.out.p.p.p.ba; have f0_ := cells1 HH3.out.p.p.p.bf; obtain ⟨s0_, s1_, s2_, s3_, s4_⟩ := cells5b HH3.out.p.p.b6; obtain ⟨x0_, x1_, x2_⟩ := cells3b HH3.out.p.b7; have y0_ := cells1 HH3.out.b8; clear hR hb HH2 HY hlt)
  go_wp2_with (go_at_call 33; refine (impl_ReadRange.calls k u0 s0 Ax cx l Ay cy fl a2 a3 a4 c rb u s bs _ (Kd.S_reads' HH3.out.p.x).2.2 (Kd.S_reads' HH3.out.p.x).2.1 (Kd.R_reads' HH3.out.y).2.2 (Kd.R_reads' HH3.out.y).2.1 K3.out).mono ?_; rintro e w12 ⟨vq, vg, rfl, hR, hS, hb⟩; obtain ⟨Aq, cq, rfl⟩ := Kd.R_slice hR; obtain ⟨Ag, cg, rfl⟩ := Kd.S_slice hS; have hlt := blk_lt HH3.out.b8; have HGB := Aside0.mk (Kd.R_mono (Kd.R_lower (Kd.R_bound (Kd.R_tight rfl hR)) HH3.out.p.p.p.B.size) (fun k hk => (⟨⟨Nat.lt_of_lt_of_le hlt hk.2.1, hk.2.2.1⟩, hk.1⟩ : (w11.heap.size < k ∧ k < w12.heap.size) ∧ some k = (Value.slice Aq rb.length cq).ownBlock))); have HGG := Aside0.mk (Kd.S_mono (Kd.S_lower (Kd.S_bound hS) HH3.out.p.p.p.B.size) (fun k hk => (⟨⟨Nat.lt_of_lt_of_le hlt hk.2.1, hk.2.2.1⟩, hk.1⟩ : (w11.heap.size < k ∧ k < w12.heap.size) ∧ some k ≠ (Value.slice Aq rb.length cq).ownBlock))); have HH4 : Aside0 (H4 w (w12.alloc (.cells #[.int .i64 c, .slice Aq rb.length cq, .int .i64 u, .int .i64 s, .slice Ag bs.length cg] 27)) (.cells #[.int .i64 a0_0, .int .i64 a0_1, .slice A0_2 l0_2.length c0_2] 34) (.cells #[.slice A1_0 l1_0.length c1_0] 41) b6 wz.heap.size (.cells #[.int .i64 c, .slice Ap rb.length cp, .int .i64 u, .int .i64 s, .slice Az bs.length cz] 27) (.slice Ap rb.length cp) Az cz rb bs w10.heap.size (.cells #[.int .i64 u0, .int .i64 s0, .slice Ax l.length cx] 25) (.slice Ax l.length cx) l w11.heap.size (.cells #[.slice Ay fl.length cy] 44) (.slice Ay fl.length cy) fl w12.heap.size (.cells #[.int .i64 c, .slice Aq rb.length cq, .int .i64 u, .int .i64 s, .slice Ag bs.length cg] 27) (.slice Aq rb.length cq) (.slice Ag bs.length cg) rb bs) := ⟨⟨(HH3.out.below hb).below (below_alloc (Below.refl _ _) _), blk_new _ _, Kd.R_alloc HGB.out _, Kd.S_alloc HGG.out _, Nat.lt_of_lt_of_le hlt hb.size⟩⟩; clear a0_ a1_ a2_ f0_ s0_ s1_ s2_ s3_ s4_ x0_ x1_ x2_ y0_; obtain ⟨a0_, a1_, a2_⟩ := cells3b HH4.out.p.p.p.p.ba; have f0_ := cells1 HH4.out.p.p.p.p.bf; obtain ⟨s0_, s1_, s2_, s3_, s4_⟩ := cells5b HH4.out.p.p.p.b6; obtain ⟨x0_, x1_, x2_⟩ := cells3b HH4.out.p.p.b7; have y0_ := cells1 HH4.out.p.b8; obtain ⟨g0_, g1_, g2_, g3_, g4_⟩ := cells5b HH4.out.b9; clear hR hS hb HH3 HGB HGG hlt)
  go_wp2_with (go_at_call 13; refine (laws_eqCacheResult.calls k c Aq cq rb u s Ag cg bs c Ap cp rb u s Az cz bs true _ (Kd.R_reads' HH4.out.gb).2.2 (Kd.R_reads' HH4.out.gb).2.1 (Kd.S_reads' HH4.out.g).2.2 (Kd.S_reads' HH4.out.g).2.1 (Kd.R_reads' HH4.out.p.p.p.zb).2.2 (Kd.R_reads' HH4.out.p.p.p.zb).2.1 (Kd.F_now HH4.out.p.p.p.z) HH4.out.p.p.p.lz K4.out).mono ?_; rintro e w13 ⟨rfl, hb⟩; have HH := Aside0.mk (HH4.out.below hb); clear a0_ a1_ a2_ f0_ s0_ s1_ s2_ s3_ s4_ x0_ x1_ x2_ y0_ g0_ g1_ g2_ g3_ g4_; obtain ⟨a0_, a1_, a2_⟩ := cells3b HH.out.p.p.p.p.ba; have f0_ := cells1 HH.out.p.p.p.p.bf; obtain ⟨s0_, s1_, s2_, s3_, s4_⟩ := cells5b HH.out.p.p.p.b6; obtain ⟨x0_, x1_, x2_⟩ := cells3b HH.out.p.p.b7; have y0_ := cells1 HH.out.p.b8; obtain ⟨g0_, g1_, g2_, g3_, g4_⟩ := cells5b HH.out.b9; clear hb HH4)
  replace HH := Aside0.mk (HH.out.below (below_drew (Below.refl _ _)))
  clear a0_ a1_ a2_ f0_ s0_ s1_ s2_ s3_ s4_ x0_ x1_ x2_ y0_ g0_ g1_ g2_ g3_ g4_
  refine start_ (n := 5) (S := fun w' => w'.cell? ⟨w10.heap.size, 0, none⟩ = some (.int .i64 u0) ∧ w'.cell? ⟨w10.heap.size, 1, none⟩ = some (.int .i64 s0) ∧ w'.cell? ⟨w10.heap.size, 2, none⟩ = some (.slice Ax l.length cx) ∧ w'.cell? ⟨w.heap.size, 0, none⟩ = some (.int .i64 a0_0) ∧ w'.cell? ⟨w.heap.size, 1, none⟩ = some (.int .i64 a0_1) ∧ w'.cell? ⟨w.heap.size, 2, none⟩ = some (.slice A0_2 l0_2.length c0_2)) (ds := []) #[false, false, false, false, false] (by kernel_rfl) rfl rfl ⟨(blk_cell HH.out.p.p.b7 0).trans rfl, (blk_cell HH.out.p.p.b7 1).trans rfl, (blk_cell HH.out.p.p.b7 2).trans rfl, (blk_cell HH.out.p.p.p.p.ba 0).trans rfl, (blk_cell HH.out.p.p.p.p.ba 1).trans rfl, (blk_cell HH.out.p.p.p.p.ba 2).trans rfl⟩ (fun hHeld => ?_)
  generalize w13.drew = w14 at HH hHeld ⊢
  refine take_ (i := 0) (N := some 52) (v := ?_) (a' := ?_) #[true, false, false, false, false] rfl rfl (by kernel_rfl) (fun _ _ _ h => h) (Or.inl ⟨by rfl, ?_⟩) hHeld ?_ ?_
  rotate_left; (rintro w' ⟨s0, s1, s2, s3, s4, s5⟩; go_simp; with_reducible rfl); rotate_left; (simp only [Act.put, List.setIfInBounds_toArray, List.set_cons_zero, List.set_cons_succ, i64_w, i32_w]; rfl)
  refine take_ (i := 1) (N := some 53) (v := ?_) (a' := ?_) #[true, true, false, false, false] rfl rfl (by kernel_rfl) (fun _ _ _ h => h) (Or.inl ⟨by rfl, ?_⟩) hHeld ?_ ?_
  rotate_left; (rintro w' ⟨s0, s1, s2, s3, s4, s5⟩; go_simp; with_reducible rfl); rotate_left; (simp only [Act.put, List.setIfInBounds_toArray, List.set_cons_zero, List.set_cons_succ, i64_w, i32_w]; rfl)
  refine one_ (i := 2) (N := some 54) #[true, true, true, false, false] rfl rfl (by kernel_rfl) (by decide) (fun K hK => ?_)
  refine goes_ Try.func18 (by kernel_rfl) rfl #[.agg #[.int .i64 a0_0, .int .i64 a0_1, .slice A0_2 l0_2.length c0_2]] (by rfl) rfl rfl (by simp only [List.map_toArray, List.map_cons, List.map_nil]; rfl) ?_
  with_reducible refine (laws_toCache.calls k a0_0 a0_1 A0_2 c0_2 l0_2 u0 s0 l _ (Kd.C_below HR.out HH.out.p.p.p.p.B) HC.out K1.out).mono ?_
  rintro e w15 ⟨vv, rfl, hS, hb⟩
  refine ⟨_, rfl, ?_⟩
  obtain ⟨Av, cv, rfl⟩ := Kd.S_slice hS
  have HV := Aside0.mk hS
  replace HH := Aside0.mk (HH.out.below hb)
  clear hS hb
  refine hK.out _ _ ⟨(blk_cell HH.out.p.p.b7 0).trans rfl, (blk_cell HH.out.p.p.b7 1).trans rfl, (blk_cell HH.out.p.p.b7 2).trans rfl, (blk_cell HH.out.p.p.p.p.ba 0).trans rfl, (blk_cell HH.out.p.p.p.p.ba 1).trans rfl, (blk_cell HH.out.p.p.p.p.ba 2).trans rfl⟩ (fun hHeld => ?_)
  clear hK K
  refine norm_ (a' := ?_) ?_ ?_
  rotate_left
  · show Act.put _ (some 54) _ = _
    simp only [Act.put, List.setIfInBounds_toArray, List.set_cons_zero, List.set_cons_succ, i64_w, i32_w]
    rfl
  refine one_ (i := 3) (N := some 55) #[true, true, true, true, false] rfl rfl (by kernel_rfl) (by decide) (fun K hK => ?_)
  refine goes_ Try.func20 (by kernel_rfl) rfl #[.agg #[.int .i64 u0, .int .i64 s0, .slice Ax l.length cx], .agg #[.int .i64 u0, .int .i64 s0, .slice Av l.length cv]] (by rfl) rfl rfl (by simp only [List.map_toArray, List.map_cons, List.map_nil]; rfl) ?_
  with_reducible refine (laws_eqCache.calls k u0 s0 Ax cx l u0 s0 Av cv l true _ (Kd.S_reads' HH.out.p.p.x).2.2 (Kd.S_reads' HH.out.p.p.x).2.1 (Kd.S_reads' HV.out).2.2 (Kd.S_reads' HV.out).2.1 K5.out).mono ?_
  rintro e w16 ⟨rfl, hb⟩
  refine ⟨_, rfl, ?_⟩
  replace HH := Aside0.mk (HH.out.below hb)
  clear hb HV
  refine hK.out _ _ ⟨(blk_cell HH.out.p.p.b7 0).trans rfl, (blk_cell HH.out.p.p.b7 1).trans rfl, (blk_cell HH.out.p.p.b7 2).trans rfl, (blk_cell HH.out.p.p.p.p.ba 0).trans rfl, (blk_cell HH.out.p.p.p.p.ba 1).trans rfl, (blk_cell HH.out.p.p.p.p.ba 2).trans rfl⟩ (fun hHeld => ?_)
  clear hK K
  refine norm_ (a' := ?_) ?_ ?_
  rotate_left
  · show Act.put _ (some 55) _ = _
    simp only [Act.put, List.setIfInBounds_toArray, List.set_cons_zero, List.set_cons_succ, i64_w, i32_w]
    rfl
  refine pure_ (i := 4) (N := some 56) (v := ?_) (a' := ?_) #[true, true, true, true, true] rfl rfl (by kernel_rfl) (fun _ _ _ h => h) (Or.inl ⟨by rfl, ?_⟩) ?_ ?_
  rotate_left; (intro w'; go_simp; with_reducible rfl); rotate_left; (simp only [Act.put, List.setIfInBounds_toArray, List.set_cons_zero, List.set_cons_succ, i64_w, i32_w]; rfl)
  refine done_ (by kernel_rfl) ?_
  clear hHeld
  obtain ⟨a0_, a1_, a2_⟩ := cells3b HH.out.p.p.p.p.ba; have f0_ := cells1 HH.out.p.p.p.p.bf; obtain ⟨s0_, s1_, s2_, s3_, s4_⟩ := cells5b HH.out.p.p.p.b6; obtain ⟨x0_, x1_, x2_⟩ := cells3b HH.out.p.p.b7; have y0_ := cells1 HH.out.p.b8; obtain ⟨g0_, g1_, g2_, g3_, g4_⟩ := cells5b HH.out.b9
  go_wp2
  replace HH := Aside0.mk (HH.out.below (below_drew (Below.refl _ _)))
  clear a0_ a1_ a2_ f0_ s0_ s1_ s2_ s3_ s4_ x0_ x1_ x2_ y0_ g0_ g1_ g2_ g3_ g4_
  refine start_ (n := 5) (S := fun w' => w'.cell? ⟨w11.heap.size, 0, none⟩ = some (.slice Ay fl.length cy) ∧ w'.cell? ⟨w.heap.size + 1, 0, none⟩ = some (.slice A1_0 l1_0.length c1_0)) (ds := []) #[false, false, false, false, false] (by kernel_rfl) rfl rfl ⟨(blk_cell HH.out.p.b8 0).trans rfl, (blk_cell HH.out.p.p.p.p.bf 0).trans rfl⟩ (fun hHeld => ?_)
  generalize w16.drew = w17 at HH hHeld ⊢
  refine take_ (i := 0) (N := some 57) (v := ?_) (a' := ?_) #[true, false, false, false, false] rfl rfl (by kernel_rfl) (fun _ _ _ h => h) (Or.inl ⟨by rfl, ?_⟩) hHeld ?_ ?_
  rotate_left; (rintro w' ⟨s0, s1⟩; go_simp; with_reducible rfl); rotate_left; (simp only [Act.put, List.setIfInBounds_toArray, List.set_cons_zero, List.set_cons_succ, i64_w, i32_w]; rfl)
  refine take_ (i := 1) (N := some 58) (v := ?_) (a' := ?_) #[true, true, false, false, false] rfl rfl (by kernel_rfl) (fun _ _ _ h => h) (Or.inl ⟨by rfl, ?_⟩) hHeld ?_ ?_
  rotate_left; (rintro w' ⟨s0, s1⟩; go_simp; with_reducible rfl); rotate_left; (simp only [Act.put, List.setIfInBounds_toArray, List.set_cons_zero, List.set_cons_succ, i64_w, i32_w]; rfl)
  refine one_ (i := 2) (N := some 59) #[true, true, true, false, false] rfl rfl (by kernel_rfl) (by decide) (fun K hK => ?_)
  refine goes_ Try.func23 (by kernel_rfl) rfl #[.agg #[.slice A1_0 l1_0.length c1_0]] (by rfl) rfl rfl (by simp only [List.map_toArray, List.map_cons, List.map_nil]; rfl) ?_
  with_reducible refine (laws_toFile.calls k A1_0 c1_0 l1_0 fl _ (Kd.C_below HRf.out HH.out.p.p.p.p.B) HCf.out K1f.out).mono ?_
  rintro e w18 ⟨vv, rfl, hR, hb⟩
  refine ⟨_, rfl, ?_⟩
  obtain ⟨Av, cv, rfl⟩ := Kd.R_slice hR
  have HV := Aside0.mk hR
  replace HH := Aside0.mk (HH.out.below hb)
  clear hR hb
  refine hK.out _ _ ⟨(blk_cell HH.out.p.b8 0).trans rfl, (blk_cell HH.out.p.p.p.p.bf 0).trans rfl⟩ (fun hHeld => ?_)
  clear hK K
  refine norm_ (a' := ?_) ?_ ?_
  rotate_left
  · show Act.put _ (some 59) _ = _
    simp only [Act.put, List.setIfInBounds_toArray, List.set_cons_zero, List.set_cons_succ, i64_w, i32_w]
    rfl
  refine one_ (i := 3) (N := some 60) #[true, true, true, true, false] rfl rfl (by kernel_rfl) (by decide) (fun K hK => ?_)
  refine goes_ Try.func25 (by kernel_rfl) rfl #[.agg #[.slice Ay fl.length cy], .agg #[.slice Av fl.length cv]] (by rfl) rfl rfl (by simp only [List.map_toArray, List.map_cons, List.map_nil]; rfl) ?_
  with_reducible refine (laws_eqFile.calls k Ay cy fl Av cv fl true _ (Kd.R_reads' HH.out.p.y).2.2 (Kd.R_reads' HH.out.p.y).2.1 (Kd.R_reads' HV.out).2.2 (Kd.R_reads' HV.out).2.1 K5f.out).mono ?_
  rintro e w19 ⟨rfl, hb⟩
  refine ⟨_, rfl, ?_⟩
  replace HH := Aside0.mk (HH.out.below hb)
  clear hb HV
  refine hK.out _ _ ⟨(blk_cell HH.out.p.b8 0).trans rfl, (blk_cell HH.out.p.p.p.p.bf 0).trans rfl⟩ (fun hHeld => ?_)
  clear hK K
  refine norm_ (a' := ?_) ?_ ?_
  rotate_left
  · show Act.put _ (some 60) _ = _
    simp only [Act.put, List.setIfInBounds_toArray, List.set_cons_zero, List.set_cons_succ, i64_w, i32_w]
    rfl
  refine pure_ (i := 4) (N := some 61) (v := ?_) (a' := ?_) #[true, true, true, true, true] rfl rfl (by kernel_rfl) (fun _ _ _ h => h) (Or.inl ⟨by rfl, ?_⟩) ?_ ?_
  rotate_left; (intro w'; go_simp; with_reducible rfl); rotate_left; (simp only [Act.put, List.setIfInBounds_toArray, List.set_cons_zero, List.set_cons_succ, i64_w, i32_w]; rfl)
  refine done_ (by kernel_rfl) ?_
  clear hHeld
  obtain ⟨a0_, a1_, a2_⟩ := cells3b HH.out.p.p.p.p.ba; have f0_ := cells1 HH.out.p.p.p.p.bf; obtain ⟨s0_, s1_, s2_, s3_, s4_⟩ := cells5b HH.out.p.p.p.b6; obtain ⟨x0_, x1_, x2_⟩ := cells3b HH.out.p.p.b7; have y0_ := cells1 HH.out.p.b8; obtain ⟨g0_, g1_, g2_, g3_, g4_⟩ := cells5b HH.out.b9
  go_wp2_with (first | (go_at_call 28; refine (laws_markCache.calls k u0 s0 _ l 1 m0 l' w _ _ HH.out.p.p.p.p.B HH.out.p.p.x K6.out).mono ?_; rintro e w20 ⟨rfl, hx, hB, hk⟩; replace HH := Aside0.mk (HH.out.markX hB hx hk); clear a0_ a1_ a2_ f0_ s0_ s1_ s2_ s3_ s4_ x0_ x1_ x2_ y0_ g0_ g1_ g2_ g3_ g4_; obtain ⟨a0_, a1_, a2_⟩ := cells3b HH.out.p.p.p.p.ba; have f0_ := cells1 HH.out.p.p.p.p.bf; obtain ⟨s0_, s1_, s2_, s3_, s4_⟩ := cells5b HH.out.p.p.p.b6; obtain ⟨x0_, x1_, x2_⟩ := cells3b HH.out.p.p.b7; have y0_ := cells1 HH.out.p.b8; obtain ⟨g0_, g1_, g2_, g3_, g4_⟩ := cells5b HH.out.b9; clear hx hB hk) | (go_at_call 31; refine (laws_markFile.calls k (fun k => w10.heap.size < k ∧ k < w11.heap.size) _ fl m0 m1 fl' w _ HH.out.p.p.p.p.B HH.out.p.y K6f.out).mono ?_; rintro e w21 ⟨rfl, hy, hB, hk⟩; replace HH := Aside0.mk (HH.out.markY hB hy hk); clear a0_ a1_ a2_ f0_ s0_ s1_ s2_ s3_ s4_ x0_ x1_ x2_ y0_ g0_ g1_ g2_ g3_ g4_; obtain ⟨a0_, a1_, a2_⟩ := cells3b HH.out.p.p.p.p.ba; have f0_ := cells1 HH.out.p.p.p.p.bf; obtain ⟨s0_, s1_, s2_, s3_, s4_⟩ := cells5b HH.out.p.p.p.b6; obtain ⟨x0_, x1_, x2_⟩ := cells3b HH.out.p.p.b7; have y0_ := cells1 HH.out.p.b8; obtain ⟨g0_, g1_, g2_, g3_, g4_⟩ := cells5b HH.out.b9; clear hy hB hk) | (go_at_call 13; refine (laws_eqCacheResult.calls k c Aq cq rb u s Ag cg bs c Ap cp rb u s Az cz bs true _ (Kd.R_reads' HH.out.gb).2.2 (Kd.R_reads' HH.out.gb).2.1 (Kd.S_reads' HH.out.g).2.2 (Kd.S_reads' HH.out.g).2.1 (Kd.R_reads' HH.out.p.p.p.zb).2.2 (Kd.R_reads' HH.out.p.p.p.zb).2.1 (Kd.F_now HH.out.p.p.p.z) HH.out.p.p.p.lz K4.out).mono ?_; rintro e w22 ⟨rfl, hb⟩; replace HH := Aside0.mk (HH.out.below hb); clear a0_ a1_ a2_ f0_ s0_ s1_ s2_ s3_ s4_ x0_ x1_ x2_ y0_ g0_ g1_ g2_ g3_ g4_; obtain ⟨a0_, a1_, a2_⟩ := cells3b HH.out.p.p.p.p.ba; have f0_ := cells1 HH.out.p.p.p.p.bf; obtain ⟨s0_, s1_, s2_, s3_, s4_⟩ := cells5b HH.out.p.p.p.b6; obtain ⟨x0_, x1_, x2_⟩ := cells3b HH.out.p.p.b7; have y0_ := cells1 HH.out.p.b8; obtain ⟨g0_, g1_, g2_, g3_, g4_⟩ := cells5b HH.out.b9; clear hb))
  go_wp2_with (first | (go_at_call 14; refine (laws_markCacheResult.calls k c _ rb u s _ bs 1 mb rb' m bs' w _ _ _ (fun k h1 h2 => h2.2 h1.2) HH.out.p.p.p.p.B HH.out.gb HH.out.g K8.out K9.out).mono ?_; rintro e w23 ⟨rfl, hr, hx, hB, hk⟩; replace HH := Aside0.mk (HH.out.markG hB hr hx hk); clear a0_ a1_ a2_ f0_ s0_ s1_ s2_ s3_ s4_ x0_ x1_ x2_ y0_ g0_ g1_ g2_ g3_ g4_; obtain ⟨a0_, a1_, a2_⟩ := cells3b HH.out.p.p.p.p.ba; have f0_ := cells1 HH.out.p.p.p.p.bf; obtain ⟨s0_, s1_, s2_, s3_, s4_⟩ := cells5b HH.out.p.p.p.b6; obtain ⟨x0_, x1_, x2_⟩ := cells3b HH.out.p.p.b7; have y0_ := cells1 HH.out.p.b8; obtain ⟨g0_, g1_, g2_, g3_, g4_⟩ := cells5b HH.out.b9; clear hr hx hB hk) | (go_at_call 15; refine (heldC k c Aq cq rb.length rb' u s Ag cg bs.length bs' m _ (Kd.R_reads' HH.out.gb).1 (Kd.S_reads' HH.out.g).1 (Kd.R_reads' HH.out.gb).2.2 (Kd.S_reads' HH.out.g).2.2 (Kd.R_reads' HH.out.gb).2.1 (Kd.S_reads' HH.out.g).2.1 K10.out).mono ?_; rintro e w24 ⟨rfl, hb⟩; replace HH := Aside0.mk (HH.out.below hb); clear a0_ a1_ a2_ f0_ s0_ s1_ s2_ s3_ s4_ x0_ x1_ x2_ y0_ g0_ g1_ g2_ g3_ g4_; obtain ⟨a0_, a1_, a2_⟩ := cells3b HH.out.p.p.p.p.ba; have f0_ := cells1 HH.out.p.p.p.p.bf; obtain ⟨s0_, s1_, s2_, s3_, s4_⟩ := cells5b HH.out.p.p.p.b6; obtain ⟨x0_, x1_, x2_⟩ := cells3b HH.out.p.p.b7; have y0_ := cells1 HH.out.p.b8; obtain ⟨g0_, g1_, g2_, g3_, g4_⟩ := cells5b HH.out.b9; clear hb))
  clear a0_ a1_ a2_ f0_ s0_ s1_ s2_ s3_ s4_ x0_ x1_ x2_ y0_ g0_ g1_ g2_ g3_ g4_
  replace HH := Aside0.mk (HH.out.below (below_drew (Below.refl _ _)))
  refine start_ (n := 10) (S := fun w' => w'.cell? ⟨w.heap.size, 0, none⟩ = some (.int .i64 a0_0) ∧ w'.cell? ⟨w.heap.size, 1, none⟩ = some (.int .i64 a0_1) ∧ w'.cell? ⟨w.heap.size, 2, none⟩ = some (.slice A0_2 l0_2.length c0_2) ∧ w'.cell? ⟨w.heap.size + 1, 0, none⟩ = some (.slice A1_0 l1_0.length c1_0)) (ds := [9]) #[false, false, false, false, false, false, false, false, false, false] (by kernel_rfl) rfl rfl ⟨(blk_cell HH.out.p.p.p.p.ba 0).trans rfl, (blk_cell HH.out.p.p.p.p.ba 1).trans rfl, (blk_cell HH.out.p.p.p.p.ba 2).trans rfl, (blk_cell HH.out.p.p.p.p.bf 0).trans rfl⟩ (fun hHeld => ?_)
  refine with_tabW lawsReadRange.t31_.tab31 lawsReadRange.t31_.bits31 (fun HT_ HW_ => ?_)
  generalize w24.drew = w25 at HH hHeld ⊢
  have HBB := Aside0.mk (Below.refl w25.heap.size w25)
  refine pure_ (i := 4) (N := some 91) (v := ?_) (a' := ?_) #[false, false, false, false, true, false, false, false, false, false] rfl rfl (any_of HT_.out (by kernel_rfl)) (fun _ _ _ h => h) (Or.inl ⟨by rfl, ?_⟩) ?_ ?_
  rotate_left; (intro w'; go_simp; with_reducible rfl); rotate_left; (simp only [Act.put, List.setIfInBounds_toArray, List.set_cons_zero, List.set_cons_succ, i64_w, i32_w]; rfl)
  refine pure_ (i := 5) (N := some 92) (v := ?_) (a' := ?_) #[false, false, false, false, true, true, false, false, false, false] rfl rfl (any_of HT_.out (by kernel_rfl)) (fun _ _ _ h => h) (Or.inl ⟨by rfl, ?_⟩) ?_ ?_
  rotate_left; (intro w'; go_simp; with_reducible rfl); rotate_left; (simp only [Act.put, List.setIfInBounds_toArray, List.set_cons_zero, List.set_cons_succ, i64_w, i32_w]; rfl)
  refine pure_ (i := 6) (N := some 93) (v := ?_) (a' := ?_) #[false, false, false, false, true, true, true, false, false, false] rfl rfl (any_of HT_.out (by kernel_rfl)) (fun _ _ _ h => h) (Or.inl ⟨by rfl, ?_⟩) ?_ ?_
  rotate_left; (intro w'; go_simp; with_reducible rfl); rotate_left; (simp only [Act.put, List.setIfInBounds_toArray, List.set_cons_zero, List.set_cons_succ, i64_w, i32_w]; rfl)
  refine take_ (i := 0) (N := some 87) (v := ?_) (a' := ?_) #[true, false, false, false, true, true, true, false, false, false] rfl rfl (take_ofW HT_.out HW_.out (by kernel_rfl)) (fun _ _ _ h => h) (Or.inl ⟨by rfl, ?_⟩) hHeld ?_ ?_
  rotate_left; (rintro w' ⟨s0, s1, s2, s3⟩; go_simp; with_reducible rfl); rotate_left; (simp only [Act.put, List.setIfInBounds_toArray, List.set_cons_zero, List.set_cons_succ, i64_w, i32_w]; rfl)
  refine take_ (i := 2) (N := some 89) (v := ?_) (a' := ?_) #[true, false, true, false, true, true, true, false, false, false] rfl rfl (take_ofW HT_.out HW_.out (by kernel_rfl)) (fun _ _ _ h => h) (Or.inl ⟨by rfl, ?_⟩) hHeld ?_ ?_
  rotate_left; (rintro w' ⟨s0, s1, s2, s3⟩; go_simp; with_reducible rfl); rotate_left; (simp only [Act.put, List.setIfInBounds_toArray, List.set_cons_zero, List.set_cons_succ, i64_w, i32_w]; rfl)
  refine join_ (σ := (Option Addr × Nat) × (Option Addr × Nat) × (Option Addr × Nat) × (Option Addr × Nat) × Nat) 1 #[true, true, true, true, true, true, true, true, true, false] (fun s_ => [(88, .agg #[.int .i64 u0, .int .i64 s0, .slice s_.1.1 l.length s_.1.2]), (90, .agg #[.slice s_.2.1.1 fl.length s_.2.1.2]), (94, .agg #[.int .i64 c, .slice s_.2.2.1.1 rb.length s_.2.2.1.2, .int .i64 u, .int .i64 s, .slice s_.2.2.2.1.1 bs.length s_.2.2.2.1.2]), (19, .pointer (some ⟨s_.2.2.2.2, 0, none⟩))]) (fun s_ w' => Got w25 w' rb bs s_.2.2.1.1 s_.2.2.1.2 s_.2.2.2.1.1 s_.2.2.2.1.2 s_.2.2.2.2) ?_ ?_
  rotate_left
  · intro hCont
    refine two_ (i := 1) (j := 8) (Ni := some 88) (Nj := some 19) #[true, true, true, false, true, true, true, false, false, false] #[true, false, true, false, true, true, true, false, true, false] rfl rfl rfl rfl (two_of HT_.out (by kernel_rfl)) (by decide) (by decide) (fun K hK => ?_) (fun K hK => ?_)
    · skip
      refine goes_ Try.func18 (by kernel_rfl) rfl #[.agg #[.int .i64 a0_0, .int .i64 a0_1, .slice A0_2 l0_2.length c0_2]] (by rfl) rfl rfl (by simp only [List.map_toArray, List.map_cons, List.map_nil]; rfl) ?_
      with_reducible refine (laws_toCache.calls k a0_0 a0_1 A0_2 c0_2 l0_2 u0 s0 l _ (Kd.C_below HR.out (HH.out.below HBB.out).p.p.p.p.B) HC.out K1.out).mono ?_
      rintro e wv ⟨vl_, rfl, hS_, hb⟩
      refine ⟨_, rfl, ?_⟩
      obtain ⟨Al_, cl_, rfl⟩ := Kd.S_slice hS_
      have HL_ := Aside0.mk hS_
      replace HBB := Aside0.mk (below_step HBB.out hb)
      clear hS_ hb
      refine hK.out _ _ ⟨(blk_cell (HH.out.below HBB.out).p.p.p.p.ba 0).trans rfl, (blk_cell (HH.out.below HBB.out).p.p.p.p.ba 1).trans rfl, (blk_cell (HH.out.below HBB.out).p.p.p.p.ba 2).trans rfl, (blk_cell (HH.out.below HBB.out).p.p.p.p.bf 0).trans rfl⟩ (fun hHeld => ?_)
      clear hK K
      refine norm_ (a' := ?_) ?_ ?_
      rotate_left
      · show Act.put _ (some 88) _ = _
        simp only [Act.put, List.setIfInBounds_toArray, List.set_cons_zero, List.set_cons_succ, i64_w, i32_w]
        rfl
      refine two_ (i := 3) (j := 8) (Ni := some 90) (Nj := some 19) #[true, true, true, true, true, true, true, false, false, false] #[true, true, true, false, true, true, true, false, true, false] rfl rfl rfl rfl (two_of HT_.out (by kernel_rfl)) (by decide) (by decide) (fun K hK => ?_) (fun K hK => ?_)
      · skip
        refine goes_ Try.func23 (by kernel_rfl) rfl #[.agg #[.slice A1_0 l1_0.length c1_0]] (by rfl) rfl rfl (by simp only [List.map_toArray, List.map_cons, List.map_nil]; rfl) ?_
        with_reducible refine (laws_toFile.calls k A1_0 c1_0 l1_0 fl _ (Kd.C_below HRf.out (HH.out.below HBB.out).p.p.p.p.B) HCf.out K1f.out).mono ?_
        rintro e wv ⟨vf_, rfl, hR_, hb⟩
        refine ⟨_, rfl, ?_⟩
        obtain ⟨Af_, cf_, rfl⟩ := Kd.R_slice hR_
        have HFL_ := Aside0.mk hR_
        replace HL_ := Aside0.mk (Kd.S_below HL_.out hb)
        replace HBB := Aside0.mk (below_step HBB.out hb)
        clear hR_ hb
        refine hK.out _ _ ⟨(blk_cell (HH.out.below HBB.out).p.p.p.p.ba 0).trans rfl, (blk_cell (HH.out.below HBB.out).p.p.p.p.ba 1).trans rfl, (blk_cell (HH.out.below HBB.out).p.p.p.p.ba 2).trans rfl, (blk_cell (HH.out.below HBB.out).p.p.p.p.bf 0).trans rfl⟩ (fun hHeld => ?_)
        clear hK K
        refine norm_ (a' := ?_) ?_ ?_
        rotate_left
        · show Act.put _ (some 90) _ = _
          simp only [Act.put, List.setIfInBounds_toArray, List.set_cons_zero, List.set_cons_succ, i64_w, i32_w]
          rfl
        refine two_ (i := 7) (j := 8) (Ni := some 94) (Nj := some 19) #[true, true, true, true, true, true, true, true, false, false] #[true, true, true, true, true, true, true, false, true, false] rfl rfl rfl rfl (two_of HT_.out (by kernel_rfl)) (by decide) (by decide) (fun K hK => ?_) (fun K hK => ?_)
        · skip
          refine goes_ Try.func33 (by kernel_rfl) rfl #[.agg #[.int .i64 u0, .int .i64 s0, .slice Al_ l.length cl_], .agg #[.slice Af_ fl.length cf_], .int .i64 a2, .int .i64 a3, .int .i64 a4] (by rfl) rfl rfl (by simp only [List.map_toArray, List.map_cons, List.map_nil]; rfl) ?_
          with_reducible refine (impl_ReadRange.calls k u0 s0 Al_ cl_ l Af_ cf_ fl a2 a3 a4 c rb u s bs _ (Kd.S_reads' HL_.out).2.2 (Kd.S_reads' HL_.out).2.1 (Kd.R_reads' HFL_.out).2.2 (Kd.R_reads' HFL_.out).2.1 K3.out).mono ?_
          rintro e wv ⟨vp_, vz_, rfl, hR_, hS_, hb⟩
          refine ⟨_, rfl, ?_⟩
          obtain ⟨Ap_, cp_, rfl⟩ := Kd.R_slice hR_
          obtain ⟨Az_, cz_, rfl⟩ := Kd.S_slice hS_
          have hlz_ := (Kd.S_reads' hS_).2.1
          have hFz_ := Kd.F_mono (Kd.S_F (Kd.S_bound hS_)) (fun k hk => hk.2.1)
          have HLZ := Aside0.mk hlz_
          have hle_ := HBB.out.size
          have HZr := Aside0.mk (Kd.R_lower hR_ hle_)
          have HZs := Aside0.mk hFz_
          replace HBB := Aside0.mk (below_step HBB.out hb)
          clear hR_ hb hle_ hFz_ hlz_
          refine hK.out _ _ ⟨(blk_cell (HH.out.below HBB.out).p.p.p.p.ba 0).trans rfl, (blk_cell (HH.out.below HBB.out).p.p.p.p.ba 1).trans rfl, (blk_cell (HH.out.below HBB.out).p.p.p.p.ba 2).trans rfl, (blk_cell (HH.out.below HBB.out).p.p.p.p.bf 0).trans rfl⟩ (fun hHeld => ?_)
          clear hK K
          refine norm_ (a' := ?_) ?_ ?_
          rotate_left
          · show Act.put _ (some 94) _ = _
            simp only [Act.put, List.setIfInBounds_toArray, List.set_cons_zero, List.set_cons_succ, i64_w, i32_w]
            rfl
          refine one_ (i := 8) (N := some 19) #[true, true, true, true, true, true, true, true, true, false] rfl rfl (one_of HT_.out (by kernel_rfl)) (by decide) (fun K hK => ?_)
          refine value_ (w1 := ?_) (v := ?_) (by rfl) rfl ?_ ?_
          rotate_left 2
          · go_simp
            constructor
            · rfl
            · rfl
          have hle_ := HBB.out.size
          have HZR := Aside0.mk (Kd.R_alloc (Kd.R_mono (ok' := fun k => k ≠ wv.heap.size) (Kd.R_bound HZr.out) (fun k hk => by have := hk.2.2.1; omega)) (.cells #[.int .i64 0, .slice none 0 0, .int .i64 0, .int .i64 0, .slice none 0 0] 27))
          have HZS := Aside0.mk (Kd.F_alloc (Kd.F_mono (ok' := fun k => k ≠ wv.heap.size) (Kd.F_bound HZs.out) (fun k hk => by have := hk.2; omega)) (.cells #[.int .i64 0, .slice none 0 0, .int .i64 0, .int .i64 0, .slice none 0 0] 27))
          have HBE := Aside0.mk hle_
          have HBK_ := Aside0.mk (blk_new wv (.cells #[.int .i64 0, .slice none 0 0, .int .i64 0, .int .i64 0, .slice none 0 0] 27))
          replace HBB := Aside0.mk (below_step HBB.out (below_alloc (Below.refl _ _) (.cells #[.int .i64 0, .slice none 0 0, .int .i64 0, .int .i64 0, .slice none 0 0] 27)))
          refine hK.out _ _ ⟨(blk_cell (HH.out.below HBB.out).p.p.p.p.ba 0).trans rfl, (blk_cell (HH.out.below HBB.out).p.p.p.p.ba 1).trans rfl, (blk_cell (HH.out.below HBB.out).p.p.p.p.ba 2).trans rfl, (blk_cell (HH.out.below HBB.out).p.p.p.p.bf 0).trans rfl⟩ (fun hHeld => ?_)
          clear hK K
          refine norm_ (a' := ?_) ?_ ?_
          rotate_left
          · show Act.put _ (some 19) _ = _
            simp only [Act.put, List.setIfInBounds_toArray, List.set_cons_zero, List.set_cons_succ, i64_w, i32_w]
            rfl
          exact norm_ (by first | (simp only [putAll, Act.put, List.setIfInBounds_toArray, List.set_cons_zero, List.set_cons_succ]; done) | (simp only [putAll, Act.put, List.setIfInBounds_toArray, List.set_cons_zero, List.set_cons_succ]; rfl) | (simp only [putAll, Act.put, List.setIfInBounds_toArray, List.set_cons_zero, List.set_cons_succ]; rw [hbb_])) (hCont ((Al_, cl_), (Af_, cf_), (Ap_, cp_), (Az_, cz_), wv.heap.size) _ ⟨HBB.out, HBE.out, HBK_.out, HZR.out, HZS.out, HLZ.out⟩)
        · skip
          refine value_ (w1 := ?_) (v := ?_) (by rfl) rfl ?_ ?_
          rotate_left 2
          · go_simp
            constructor
            · rfl
            · rfl
          replace HL_ := Aside0.mk (Kd.S_alloc HL_.out (.cells #[.int .i64 0, .slice none 0 0, .int .i64 0, .int .i64 0, .slice none 0 0] 27))
          replace HFL_ := Aside0.mk (Kd.R_alloc HFL_.out (.cells #[.int .i64 0, .slice none 0 0, .int .i64 0, .int .i64 0, .slice none 0 0] 27))
          have hle_ := HBB.out.size
          obtain ⟨bb_, hbb_⟩ : ∃ b, b = wv.heap.size := ⟨_, rfl⟩
          have HBE : Aside0 (w25.heap.size ≤ bb_) := ⟨by rw [hbb_]; exact hle_⟩
          have HBK_ : Aside0 ((wv.alloc (.cells #[.int .i64 0, .slice none 0 0, .int .i64 0, .int .i64 0, .slice none 0 0] 27)).heap[bb_]? = some (.cells #[.int .i64 0, .slice none 0 0, .int .i64 0, .int .i64 0, .slice none 0 0] 27 (0, 0))) := ⟨by rw [hbb_]; exact blk_new wv _⟩
          replace HBB := Aside0.mk (below_step HBB.out (below_alloc (Below.refl _ _) (.cells #[.int .i64 0, .slice none 0 0, .int .i64 0, .int .i64 0, .slice none 0 0] 27)))
          refine hK.out _ _ ⟨(blk_cell (HH.out.below HBB.out).p.p.p.p.ba 0).trans rfl, (blk_cell (HH.out.below HBB.out).p.p.p.p.ba 1).trans rfl, (blk_cell (HH.out.below HBB.out).p.p.p.p.ba 2).trans rfl, (blk_cell (HH.out.below HBB.out).p.p.p.p.bf 0).trans rfl⟩ (fun hHeld => ?_)
          clear hK K
          refine norm_ (a' := ?_) ?_ ?_
          rotate_left
          · show Act.put _ (some 19) _ = _
            simp only [Act.put, List.setIfInBounds_toArray, List.set_cons_zero, List.set_cons_succ, i64_w, i32_w]
            rfl
          refine one_ (i := 7) (N := some 94) #[true, true, true, true, true, true, true, true, true, false] rfl rfl (one_of HT_.out (by kernel_rfl)) (by decide) (fun K hK => ?_)
          refine goes_ Try.func33 (by kernel_rfl) rfl #[.agg #[.int .i64 u0, .int .i64 s0, .slice Al_ l.length cl_], .agg #[.slice Af_ fl.length cf_], .int .i64 a2, .int .i64 a3, .int .i64 a4] (by rfl) rfl rfl (by simp only [List.map_toArray, List.map_cons, List.map_nil]; rfl) ?_
          with_reducible refine (impl_ReadRange.calls k u0 s0 Al_ cl_ l Af_ cf_ fl a2 a3 a4 c rb u s bs _ (Kd.S_reads' HL_.out).2.2 (Kd.S_reads' HL_.out).2.1 (Kd.R_reads' HFL_.out).2.2 (Kd.R_reads' HFL_.out).2.1 K3.out).mono ?_
          rintro e wv ⟨vp_, vz_, rfl, hR_, hS_, hb⟩
          refine ⟨_, rfl, ?_⟩
          obtain ⟨Ap_, cp_, rfl⟩ := Kd.R_slice hR_
          obtain ⟨Az_, cz_, rfl⟩ := Kd.S_slice hS_
          have hlz_ := (Kd.S_reads' hS_).2.1
          have hFz_ := Kd.F_mono (Kd.S_F (Kd.S_bound hS_)) (fun k hk => hk.2.1)
          have HLZ := Aside0.mk hlz_
          have hle_ := HBB.out.size
          have hlt_ := blk_lt HBK_.out
          have HZR := Aside0.mk (Kd.R_mono (ok' := fun k => k ≠ bb_) (Kd.R_lower (Kd.R_bound hR_) hle_) (fun k hk => by have := hk.2.1; omega))
          have HZS := Aside0.mk (Kd.F_mono (ok' := fun k => k ≠ bb_) hFz_ (fun k hk => by omega))
          replace HBK_ := Aside0.mk (blk_below HBK_.out hb)
          replace HBB := Aside0.mk (below_step HBB.out hb)
          clear hR_ hb hle_ hFz_ hlz_
          refine hK.out _ _ ⟨(blk_cell (HH.out.below HBB.out).p.p.p.p.ba 0).trans rfl, (blk_cell (HH.out.below HBB.out).p.p.p.p.ba 1).trans rfl, (blk_cell (HH.out.below HBB.out).p.p.p.p.ba 2).trans rfl, (blk_cell (HH.out.below HBB.out).p.p.p.p.bf 0).trans rfl⟩ (fun hHeld => ?_)
          clear hK K
          refine norm_ (a' := ?_) ?_ ?_
          rotate_left
          · show Act.put _ (some 94) _ = _
            simp only [Act.put, List.setIfInBounds_toArray, List.set_cons_zero, List.set_cons_succ, i64_w, i32_w]
            rfl
          exact norm_ (by first | (simp only [putAll, Act.put, List.setIfInBounds_toArray, List.set_cons_zero, List.set_cons_succ]; done) | (simp only [putAll, Act.put, List.setIfInBounds_toArray, List.set_cons_zero, List.set_cons_succ]; rfl) | (simp only [putAll, Act.put, List.setIfInBounds_toArray, List.set_cons_zero, List.set_cons_succ]; rw [hbb_])) (hCont ((Al_, cl_), (Af_, cf_), (Ap_, cp_), (Az_, cz_), bb_) _ ⟨HBB.out, HBE.out, HBK_.out, HZR.out, HZS.out, HLZ.out⟩)
      · skip
        refine value_ (w1 := ?_) (v := ?_) (by rfl) rfl ?_ ?_
        rotate_left 2
        · go_simp
          constructor
          · rfl
          · rfl
        replace HL_ := Aside0.mk (Kd.S_alloc HL_.out (.cells #[.int .i64 0, .slice none 0 0, .int .i64 0, .int .i64 0, .slice none 0 0] 27))
        have hle_ := HBB.out.size
        obtain ⟨bb_, hbb_⟩ : ∃ b, b = wv.heap.size := ⟨_, rfl⟩
        have HBE : Aside0 (w25.heap.size ≤ bb_) := ⟨by rw [hbb_]; exact hle_⟩
        have HBK_ : Aside0 ((wv.alloc (.cells #[.int .i64 0, .slice none 0 0, .int .i64 0, .int .i64 0, .slice none 0 0] 27)).heap[bb_]? = some (.cells #[.int .i64 0, .slice none 0 0, .int .i64 0, .int .i64 0, .slice none 0 0] 27 (0, 0))) := ⟨by rw [hbb_]; exact blk_new wv _⟩
        replace HBB := Aside0.mk (below_step HBB.out (below_alloc (Below.refl _ _) (.cells #[.int .i64 0, .slice none 0 0, .int .i64 0, .int .i64 0, .slice none 0 0] 27)))
        refine hK.out _ _ ⟨(blk_cell (HH.out.below HBB.out).p.p.p.p.ba 0).trans rfl, (blk_cell (HH.out.below HBB.out).p.p.p.p.ba 1).trans rfl, (blk_cell (HH.out.below HBB.out).p.p.p.p.ba 2).trans rfl, (blk_cell (HH.out.below HBB.out).p.p.p.p.bf 0).trans rfl⟩ (fun hHeld => ?_)
        clear hK K
        refine norm_ (a' := ?_) ?_ ?_
        rotate_left
        · show Act.put _ (some 19) _ = _
          simp only [Act.put, List.setIfInBounds_toArray, List.set_cons_zero, List.set_cons_succ, i64_w, i32_w]
          rfl
        refine one_ (i := 3) (N := some 90) #[true, true, true, true, true, true, true, false, true, false] rfl rfl (one_of HT_.out (by kernel_rfl)) (by decide) (fun K hK => ?_)
        refine goes_ Try.func23 (by kernel_rfl) rfl #[.agg #[.slice A1_0 l1_0.length c1_0]] (by rfl) rfl rfl (by simp only [List.map_toArray, List.map_cons, List.map_nil]; rfl) ?_
        with_reducible refine (laws_toFile.calls k A1_0 c1_0 l1_0 fl _ (Kd.C_below HRf.out (HH.out.below HBB.out).p.p.p.p.B) HCf.out K1f.out).mono ?_
        rintro e wv ⟨vf_, rfl, hR_, hb⟩
        refine ⟨_, rfl, ?_⟩
        obtain ⟨Af_, cf_, rfl⟩ := Kd.R_slice hR_
        have HFL_ := Aside0.mk hR_
        replace HL_ := Aside0.mk (Kd.S_below HL_.out hb)
        replace HBK_ := Aside0.mk (blk_below HBK_.out hb)
        replace HBB := Aside0.mk (below_step HBB.out hb)
        clear hR_ hb
        refine hK.out _ _ ⟨(blk_cell (HH.out.below HBB.out).p.p.p.p.ba 0).trans rfl, (blk_cell (HH.out.below HBB.out).p.p.p.p.ba 1).trans rfl, (blk_cell (HH.out.below HBB.out).p.p.p.p.ba 2).trans rfl, (blk_cell (HH.out.below HBB.out).p.p.p.p.bf 0).trans rfl⟩ (fun hHeld => ?_)
        clear hK K
        refine norm_ (a' := ?_) ?_ ?_
        rotate_left
        · show Act.put _ (some 90) _ = _
          simp only [Act.put, List.setIfInBounds_toArray, List.set_cons_zero, List.set_cons_succ, i64_w, i32_w]
          rfl
        refine one_ (i := 7) (N := some 94) #[true, true, true, true, true, true, true, true, true, false] rfl rfl (one_of HT_.out (by kernel_rfl)) (by decide) (fun K hK => ?_)
        refine goes_ Try.func33 (by kernel_rfl) rfl #[.agg #[.int .i64 u0, .int .i64 s0, .slice Al_ l.length cl_], .agg #[.slice Af_ fl.length cf_], .int .i64 a2, .int .i64 a3, .int .i64 a4] (by rfl) rfl rfl (by simp only [List.map_toArray, List.map_cons, List.map_nil]; rfl) ?_
        with_reducible refine (impl_ReadRange.calls k u0 s0 Al_ cl_ l Af_ cf_ fl a2 a3 a4 c rb u s bs _ (Kd.S_reads' HL_.out).2.2 (Kd.S_reads' HL_.out).2.1 (Kd.R_reads' HFL_.out).2.2 (Kd.R_reads' HFL_.out).2.1 K3.out).mono ?_
        rintro e wv ⟨vp_, vz_, rfl, hR_, hS_, hb⟩
        refine ⟨_, rfl, ?_⟩
        obtain ⟨Ap_, cp_, rfl⟩ := Kd.R_slice hR_
        obtain ⟨Az_, cz_, rfl⟩ := Kd.S_slice hS_
        have hlz_ := (Kd.S_reads' hS_).2.1
        have hFz_ := Kd.F_mono (Kd.S_F (Kd.S_bound hS_)) (fun k hk => hk.2.1)
        have HLZ := Aside0.mk hlz_
        have hle_ := HBB.out.size
        have hlt_ := blk_lt HBK_.out
        have HZR := Aside0.mk (Kd.R_mono (ok' := fun k => k ≠ bb_) (Kd.R_lower (Kd.R_bound hR_) hle_) (fun k hk => by have := hk.2.1; omega))
        have HZS := Aside0.mk (Kd.F_mono (ok' := fun k => k ≠ bb_) hFz_ (fun k hk => by omega))
        replace HBK_ := Aside0.mk (blk_below HBK_.out hb)
        replace HBB := Aside0.mk (below_step HBB.out hb)
        clear hR_ hb hle_ hFz_ hlz_
        refine hK.out _ _ ⟨(blk_cell (HH.out.below HBB.out).p.p.p.p.ba 0).trans rfl, (blk_cell (HH.out.below HBB.out).p.p.p.p.ba 1).trans rfl, (blk_cell (HH.out.below HBB.out).p.p.p.p.ba 2).trans rfl, (blk_cell (HH.out.below HBB.out).p.p.p.p.bf 0).trans rfl⟩ (fun hHeld => ?_)
        clear hK K
        refine norm_ (a' := ?_) ?_ ?_
        rotate_left
        · show Act.put _ (some 94) _ = _
          simp only [Act.put, List.setIfInBounds_toArray, List.set_cons_zero, List.set_cons_succ, i64_w, i32_w]
          rfl
        exact norm_ (by first | (simp only [putAll, Act.put, List.setIfInBounds_toArray, List.set_cons_zero, List.set_cons_succ]; done) | (simp only [putAll, Act.put, List.setIfInBounds_toArray, List.set_cons_zero, List.set_cons_succ]; rfl) | (simp only [putAll, Act.put, List.setIfInBounds_toArray, List.set_cons_zero, List.set_cons_succ]; rw [hbb_])) (hCont ((Al_, cl_), (Af_, cf_), (Ap_, cp_), (Az_, cz_), bb_) _ ⟨HBB.out, HBE.out, HBK_.out, HZR.out, HZS.out, HLZ.out⟩)
    · skip
      refine value_ (w1 := ?_) (v := ?_) (by rfl) rfl ?_ ?_
      rotate_left 2
      · go_simp
        constructor
        · rfl
        · rfl
      have hle_ := HBB.out.size
      obtain ⟨bb_, hbb_⟩ : ∃ b, b = w25.heap.size := ⟨_, rfl⟩
      have HBE : Aside0 (w25.heap.size ≤ bb_) := ⟨by rw [hbb_]; exact hle_⟩
      have HBK_ : Aside0 ((w25.alloc (.cells #[.int .i64 0, .slice none 0 0, .int .i64 0, .int .i64 0, .slice none 0 0] 27)).heap[bb_]? = some (.cells #[.int .i64 0, .slice none 0 0, .int .i64 0, .int .i64 0, .slice none 0 0] 27 (0, 0))) := ⟨by rw [hbb_]; exact blk_new w25 _⟩
      replace HBB := Aside0.mk (below_step HBB.out (below_alloc (Below.refl _ _) (.cells #[.int .i64 0, .slice none 0 0, .int .i64 0, .int .i64 0, .slice none 0 0] 27)))
      refine hK.out _ _ ⟨(blk_cell (HH.out.below HBB.out).p.p.p.p.ba 0).trans rfl, (blk_cell (HH.out.below HBB.out).p.p.p.p.ba 1).trans rfl, (blk_cell (HH.out.below HBB.out).p.p.p.p.ba 2).trans rfl, (blk_cell (HH.out.below HBB.out).p.p.p.p.bf 0).trans rfl⟩ (fun hHeld => ?_)
      clear hK K
      refine norm_ (a' := ?_) ?_ ?_
      rotate_left
      · show Act.put _ (some 19) _ = _
        simp only [Act.put, List.setIfInBounds_toArray, List.set_cons_zero, List.set_cons_succ, i64_w, i32_w]
        rfl
      refine one_ (i := 1) (N := some 88) #[true, true, true, false, true, true, true, false, true, false] rfl rfl (one_of HT_.out (by kernel_rfl)) (by decide) (fun K hK => ?_)
      refine goes_ Try.func18 (by kernel_rfl) rfl #[.agg #[.int .i64 a0_0, .int .i64 a0_1, .slice A0_2 l0_2.length c0_2]] (by rfl) rfl rfl (by simp only [List.map_toArray, List.map_cons, List.map_nil]; rfl) ?_
      with_reducible refine (laws_toCache.calls k a0_0 a0_1 A0_2 c0_2 l0_2 u0 s0 l _ (Kd.C_below HR.out (HH.out.below HBB.out).p.p.p.p.B) HC.out K1.out).mono ?_
      rintro e wv ⟨vl_, rfl, hS_, hb⟩
      refine ⟨_, rfl, ?_⟩
      obtain ⟨Al_, cl_, rfl⟩ := Kd.S_slice hS_
      have HL_ := Aside0.mk hS_
      replace HBK_ := Aside0.mk (blk_below HBK_.out hb)
      replace HBB := Aside0.mk (below_step HBB.out hb)
      clear hS_ hb
      refine hK.out _ _ ⟨(blk_cell (HH.out.below HBB.out).p.p.p.p.ba 0).trans rfl, (blk_cell (HH.out.below HBB.out).p.p.p.p.ba 1).trans rfl, (blk_cell (HH.out.below HBB.out).p.p.p.p.ba 2).trans rfl, (blk_cell (HH.out.below HBB.out).p.p.p.p.bf 0).trans rfl⟩ (fun hHeld => ?_)
      clear hK K
      refine norm_ (a' := ?_) ?_ ?_
      rotate_left
      · show Act.put _ (some 88) _ = _
        simp only [Act.put, List.setIfInBounds_toArray, List.set_cons_zero, List.set_cons_succ, i64_w, i32_w]
        rfl
      refine one_ (i := 3) (N := some 90) #[true, true, true, true, true, true, true, false, true, false] rfl rfl (one_of HT_.out (by kernel_rfl)) (by decide) (fun K hK => ?_)
      refine goes_ Try.func23 (by kernel_rfl) rfl #[.agg #[.slice A1_0 l1_0.length c1_0]] (by rfl) rfl rfl (by simp only [List.map_toArray, List.map_cons, List.map_nil]; rfl) ?_
      with_reducible refine (laws_toFile.calls k A1_0 c1_0 l1_0 fl _ (Kd.C_below HRf.out (HH.out.below HBB.out).p.p.p.p.B) HCf.out K1f.out).mono ?_
      rintro e wv ⟨vf_, rfl, hR_, hb⟩
      refine ⟨_, rfl, ?_⟩
      obtain ⟨Af_, cf_, rfl⟩ := Kd.R_slice hR_
      have HFL_ := Aside0.mk hR_
      replace HL_ := Aside0.mk (Kd.S_below HL_.out hb)
      replace HBK_ := Aside0.mk (blk_below HBK_.out hb)
      replace HBB := Aside0.mk (below_step HBB.out hb)
      clear hR_ hb
      refine hK.out _ _ ⟨(blk_cell (HH.out.below HBB.out).p.p.p.p.ba 0).trans rfl, (blk_cell (HH.out.below HBB.out).p.p.p.p.ba 1).trans rfl, (blk_cell (HH.out.below HBB.out).p.p.p.p.ba 2).trans rfl, (blk_cell (HH.out.below HBB.out).p.p.p.p.bf 0).trans rfl⟩ (fun hHeld => ?_)
      clear hK K
      refine norm_ (a' := ?_) ?_ ?_
      rotate_left
      · show Act.put _ (some 90) _ = _
        simp only [Act.put, List.setIfInBounds_toArray, List.set_cons_zero, List.set_cons_succ, i64_w, i32_w]
        rfl
      refine one_ (i := 7) (N := some 94) #[true, true, true, true, true, true, true, true, true, false] rfl rfl (one_of HT_.out (by kernel_rfl)) (by decide) (fun K hK => ?_)
      refine goes_ Try.func33 (by kernel_rfl) rfl #[.agg #[.int .i64 u0, .int .i64 s0, .slice Al_ l.length cl_], .agg #[.slice Af_ fl.length cf_], .int .i64 a2, .int .i64 a3, .int .i64 a4] (by rfl) rfl rfl (by simp only [List.map_toArray, List.map_cons, List.map_nil]; rfl) ?_
      with_reducible refine (impl_ReadRange.calls k u0 s0 Al_ cl_ l Af_ cf_ fl a2 a3 a4 c rb u s bs _ (Kd.S_reads' HL_.out).2.2 (Kd.S_reads' HL_.out).2.1 (Kd.R_reads' HFL_.out).2.2 (Kd.R_reads' HFL_.out).2.1 K3.out).mono ?_
      rintro e wv ⟨vp_, vz_, rfl, hR_, hS_, hb⟩
      refine ⟨_, rfl, ?_⟩
      obtain ⟨Ap_, cp_, rfl⟩ := Kd.R_slice hR_
      obtain ⟨Az_, cz_, rfl⟩ := Kd.S_slice hS_
      have hlz_ := (Kd.S_reads' hS_).2.1
      have hFz_ := Kd.F_mono (Kd.S_F (Kd.S_bound hS_)) (fun k hk => hk.2.1)
      have HLZ := Aside0.mk hlz_
      have hle_ := HBB.out.size
      have hlt_ := blk_lt HBK_.out
      have HZR := Aside0.mk (Kd.R_mono (ok' := fun k => k ≠ bb_) (Kd.R_lower (Kd.R_bound hR_) hle_) (fun k hk => by have := hk.2.1; omega))
      have HZS := Aside0.mk (Kd.F_mono (ok' := fun k => k ≠ bb_) hFz_ (fun k hk => by omega))
      replace HBK_ := Aside0.mk (blk_below HBK_.out hb)
      replace HBB := Aside0.mk (below_step HBB.out hb)
      clear hR_ hb hle_ hFz_ hlz_
      refine hK.out _ _ ⟨(blk_cell (HH.out.below HBB.out).p.p.p.p.ba 0).trans rfl, (blk_cell (HH.out.below HBB.out).p.p.p.p.ba 1).trans rfl, (blk_cell (HH.out.below HBB.out).p.p.p.p.ba 2).trans rfl, (blk_cell (HH.out.below HBB.out).p.p.p.p.bf 0).trans rfl⟩ (fun hHeld => ?_)
      clear hK K
      refine norm_ (a' := ?_) ?_ ?_
      rotate_left
      · show Act.put _ (some 94) _ = _
        simp only [Act.put, List.setIfInBounds_toArray, List.set_cons_zero, List.set_cons_succ, i64_w, i32_w]
        rfl
      exact norm_ (by first | (simp only [putAll, Act.put, List.setIfInBounds_toArray, List.set_cons_zero, List.set_cons_succ]; done) | (simp only [putAll, Act.put, List.setIfInBounds_toArray, List.set_cons_zero, List.set_cons_succ]; rfl) | (simp only [putAll, Act.put, List.setIfInBounds_toArray, List.set_cons_zero, List.set_cons_succ]; rw [hbb_])) (hCont ((Al_, cl_), (Af_, cf_), (Ap_, cp_), (Az_, cz_), bb_) _ ⟨HBB.out, HBE.out, HBK_.out, HZR.out, HZS.out, HLZ.out⟩)
  rintro ⟨⟨A29, c29⟩, ⟨A31, c31⟩, ⟨Ar, cr⟩, ⟨Ah, ch⟩, b12⟩ w27 hG_
  simp only at hG_
  have HG_ := Aside0.mk hG_
  clear hG_
  have hHeld : w27.cell? ⟨w.heap.size, 0, none⟩ = some (.int .i64 a0_0) ∧ w27.cell? ⟨w.heap.size, 1, none⟩ = some (.int .i64 a0_1) ∧ w27.cell? ⟨w.heap.size, 2, none⟩ = some (.slice A0_2 l0_2.length c0_2) ∧ w27.cell? ⟨w.heap.size + 1, 0, none⟩ = some (.slice A1_0 l1_0.length c1_0) := ⟨(blk_cell (HH.out.below HG_.out.B).p.p.p.p.ba 0).trans rfl, (blk_cell (HH.out.below HG_.out.B).p.p.p.p.ba 1).trans rfl, (blk_cell (HH.out.below HG_.out.B).p.p.p.p.ba 2).trans rfl, (blk_cell (HH.out.below HG_.out.B).p.p.p.p.bf 0).trans rfl⟩
  refine norm_ (a' := ?_) ?_ ?_
  rotate_left
  · simp only [putAll, Act.put, List.setIfInBounds_toArray, List.set_cons_zero, List.set_cons_succ]
    rfl
  refine last_ (i := 9) (N := none) #[true, true, true, true, true, true, true, true, true, true] rfl rfl (one_of HT_.out (by kernel_rfl)) (by decide) (fun K hK => ?_)
  obtain ⟨⟨r0_, r1_, r2_, r3_, r4_⟩, ⟨v0_, v1_, v2_, v3_, v4_⟩⟩ := cells5 HG_.out.b
  refine skip_ (w1 := ?_) (by rfl) rfl ?_ ?_
  rotate_left
  · go_simp
    rfl
  refine hK.out _ _ ?_
  clear hK K
  refine done_ (done_of HT_.out (by kernel_rfl)) ?_
  have hG2 := HG_.out.put (.int .i64 c) (.slice Ar rb.length cr) (.int .i64 u) (.int .i64 s) (.slice Ah bs.length ch)
  have HGG := Aside0.mk hG2
  replace HH := Aside0.mk (HH.out.below HGG.out.B)
  clear hG2 HG_ HBB r0_ r1_ r2_ r3_ r4_ v0_ v1_ v2_ v3_ v4_
  generalize (((((World.setCell w27 ⟨b12, 0, none⟩ (.int .i64 c)).setCell ⟨b12, 1, none⟩ (.slice Ar rb.length cr)).setCell ⟨b12, 2, none⟩ (.int .i64 u)).setCell ⟨b12, 3, none⟩ (.int .i64 s)).setCell ⟨b12, 4, none⟩ (.slice Ah bs.length ch)) = w28 at HGG HH ⊢
  obtain ⟨q0_, q1_, q2_, q3_, q4_⟩ := cells5b HGG.out.b
  obtain ⟨a0_, a1_, a2_⟩ := cells3b HH.out.p.p.p.p.ba; have f0_ := cells1 HH.out.p.p.p.p.bf; obtain ⟨s0_, s1_, s2_, s3_, s4_⟩ := cells5b HH.out.p.p.p.b6; obtain ⟨x0_, x1_, x2_⟩ := cells3b HH.out.p.p.b7; have y0_ := cells1 HH.out.p.b8; obtain ⟨g0_, g1_, g2_, g3_, g4_⟩ := cells5b HH.out.b9
  go_wp2_with (go_at_call 13; refine (laws_eqCacheResult.calls k c Ar cr rb u s Ah ch bs c Ap cp rb u s Az cz bs true _ (Kd.R_reads' HGG.out.r).2.2 (Kd.R_reads' HGG.out.r).2.1 (Kd.F_now HGG.out.s) HGG.out.lz (Kd.R_reads' HH.out.p.p.p.zb).2.2 (Kd.R_reads' HH.out.p.p.p.zb).2.1 (Kd.F_now HH.out.p.p.p.z) HH.out.p.p.p.lz K4.out).mono ?_; rintro e w29 ⟨rfl, hb⟩; replace HH := Aside0.mk (HH.out.below hb); clear a0_ a1_ a2_ f0_ s0_ s1_ s2_ s3_ s4_ x0_ x1_ x2_ y0_ g0_ g1_ g2_ g3_ g4_; obtain ⟨a0_, a1_, a2_⟩ := cells3b HH.out.p.p.p.p.ba; have f0_ := cells1 HH.out.p.p.p.p.bf; obtain ⟨s0_, s1_, s2_, s3_, s4_⟩ := cells5b HH.out.p.p.p.b6; obtain ⟨x0_, x1_, x2_⟩ := cells3b HH.out.p.p.b7; have y0_ := cells1 HH.out.p.b8; obtain ⟨g0_, g1_, g2_, g3_, g4_⟩ := cells5b HH.out.b9; clear hb HGG q0_ q1_ q2_ q3_ q4_)
  go_wp2_with (go_at_call 15; refine (heldC k c Aq cq rb.length rb' u s Ag cg bs.length bs' m _ (Kd.R_reads' HH.out.gb).1 (Kd.S_reads' HH.out.g).1 (Kd.R_reads' HH.out.gb).2.2 (Kd.S_reads' HH.out.g).2.2 (Kd.R_reads' HH.out.gb).2.1 (Kd.S_reads' HH.out.g).2.1 K10.out).mono ?_; rintro e w24 ⟨rfl, hb⟩; replace HH := Aside0.mk (HH.out.below hb); clear a0_ a1_ a2_ f0_ s0_ s1_ s2_ s3_ s4_ x0_ x1_ x2_ y0_ g0_ g1_ g2_ g3_ g4_; obtain ⟨a0_, a1_, a2_⟩ := cells3b HH.out.p.p.p.p.ba; have f0_ := cells1 HH.out.p.p.p.p.bf; obtain ⟨s0_, s1_, s2_, s3_, s4_⟩ := cells5b HH.out.p.p.p.b6; obtain ⟨x0_, x1_, x2_⟩ := cells3b HH.out.p.p.b7; have y0_ := cells1 HH.out.p.b8; obtain ⟨g0_, g1_, g2_, g3_, g4_⟩ := cells5b HH.out.b9; clear hb)
  go_ret
  exact ⟨rfl, HH.out.p.p.p.p.B⟩
end Go.Proofs.Ytkocconggohdgaa.PFnExactReadRange
