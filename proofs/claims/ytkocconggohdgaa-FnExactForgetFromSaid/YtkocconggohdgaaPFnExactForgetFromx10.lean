/- Functions of the given program as plain Lean functions, each with a proof that the Go code answers just so; walked by hand. Conditions: those that each theorem names. -/
import Derived.Test.YtkocconggohdgaaPFnExactForgetFromx9
namespace Go.Proofs.Ytkocconggohdgaa.PFnExactForgetFrom
open Go.RowKit Go.Proofs.YtkocconggohdgaaW.PrintWords Go.Proofs.YtkocconggohdgaaW.PrintLast Go.Proofs.YtkocconggohdgaaW.PrintMore
attribute [local go_sem] max2_int min2_int max_two min_two max_three min_three max_four min_four   -- for this text's walks alone
set_option linter.unusedVariables false
set_option linter.unusedSimpArgs false
/-! #### struct type 34 -/
structure S34 where
  f0 : Int
  f1 : Int
  f2 : (List S108)
def z34 : S34 := ⟨(0 : Int), (0 : Int), ([] : List S108)⟩
def k34 : Kd S34 := Kd.iso (Kd.pair (Kd.int .i64) (Kd.pair (Kd.int .i64) (Kd.slice 108 k108))) (fun x : S34 => (x.f0, x.f1, x.f2))
theorem k34_open {w : World} {x : S34} {cs : List Value} (h : k34.K w x cs) : ∃ A2 c2, cs = [.int .i64 x.f0, .int .i64 x.f1, .slice A2 x.f2.length c2] ∧ x.f2.length ≤ c2 ∧ k108.C w A2 x.f2.length x.f2 := by
  obtain ⟨_, _, rfl, rfl, ⟨_, _, rfl, rfl, ⟨A2, c2, rfl, l2, g2⟩⟩⟩ := h
  exact ⟨A2, c2, rfl, l2, g2⟩
theorem k34_openM {w : World} {base : Nat} {ok : Nat → Prop} {x : S34} {cs : List Value} (h : k34.M w base ok x cs) : ∃ v2, cs = [.int .i64 x.f0, .int .i64 x.f1, v2] ∧ k108.R 108 w base ok v2 x.f2 := by
  obtain ⟨_, _, rfl, rfl, ⟨_, _, rfl, rfl, ⟨v2, rfl, g2⟩⟩⟩ := h
  exact ⟨v2, rfl, g2⟩
theorem k34_mk (w : World) (x : S34) {A2 : Option Addr} {c2 : Nat} (l2 : x.f2.length ≤ c2) (g2 : k108.C w A2 x.f2.length x.f2) : k34.K w x [.int .i64 x.f0, .int .i64 x.f1, .slice A2 x.f2.length c2] := ⟨[.int .i64 x.f0], [.int .i64 x.f1, .slice A2 x.f2.length c2], rfl, rfl, ⟨[.int .i64 x.f1], [.slice A2 x.f2.length c2], rfl, rfl, ⟨A2, c2, rfl, l2, g2⟩⟩⟩
theorem k34_mkM (w : World) (base : Nat) (ok : Nat → Prop) (x : S34) {v2 : Value} (g2 : k108.R 108 w base ok v2 x.f2) : k34.M w base ok x [.int .i64 x.f0, .int .i64 x.f1, v2] := ⟨[.int .i64 x.f0], [.int .i64 x.f1, v2], rfl, rfl, ⟨[.int .i64 x.f1], [v2], rfl, rfl, ⟨v2, rfl, g2⟩⟩⟩
theorem cells3b {W : World} {g : Nat} {t : TypeId} {a b c : Value} (h : W.heap[g]? = some (.cells #[a, b, c] t (0, 0))) : W.cell? ⟨g, 0, none⟩ = some a ∧ W.cell? ⟨g, 1, none⟩ = some b ∧ W.cell? ⟨g, 2, none⟩ = some c := (cells3 h).1
/-- What is held while the law runs: the argument's box; the reference's answer; the copy; the answer. -/
structure H0 (w W : World) (o : Obj) : Prop where
  B : Below w.heap.size w W
  ba : W.heap[w.heap.size]? = some o
theorem H0.below {w W W' : World} {o : Obj} (h : H0 w W o) (hb : Below W.heap.size W W') : H0 w W' o := ⟨below_step h.B hb, blk_below h.ba hb⟩
theorem H0.kept {w W W' : World} {o : Obj} {S : Nat → Prop} (h : H0 w W o) (hB : Below w.heap.size w W') (hk : Kept W W' S) (hS : ∀ k, S k → w.heap.size < k) : H0 w W' o := ⟨hB, blk_kept h.ba hk (fun hh => Nat.lt_irrefl _ (hS _ hh))⟩
structure H1 (w W : World) (o : Obj) (n3 : Nat) (o6 : Obj) (vz : Value) (zs : List S80) : Prop where
  p : H0 w W o
  b6 : W.heap[n3]? = some o6
  z : Kd.S k80 80 W w.heap.size (fun k => w.heap.size < k ∧ k < n3) vz zs
theorem H1.below {w W W' : World} {o o6 : Obj} {n3 : Nat} {vz : Value} {zs : List S80} (h : H1 w W o n3 o6 vz zs) (hb : Below W.heap.size W W') : H1 w W' o n3 o6 vz zs := ⟨h.p.below hb, blk_below h.b6 hb, Kd.S_below h.z hb⟩
theorem H1.kept {w W W' : World} {o o6 : Obj} {n3 : Nat} {vz : Value} {zs : List S80} {S : Nat → Prop} (h : H1 w W o n3 o6 vz zs) (hB : Below w.heap.size w W') (hk : Kept W W' S) (hS : ∀ k, S k → n3 < k) (hw : w.heap.size ≤ n3) : H1 w W' o n3 o6 vz zs := ⟨h.p.kept hB hk (fun k hk => Nat.lt_of_le_of_lt hw (hS k hk)), blk_kept h.b6 hk (fun hh => Nat.lt_irrefl _ (hS _ hh)), Kd.S_kept h.z hk (fun k ho hh => Nat.lt_irrefl _ (Nat.lt_trans (hS k hh) ho.2))⟩
structure H2 (w W : World) (o : Obj) (n3 : Nat) (o6 : Obj) (vz : Value) (zs : List S80) (n4 : Nat) (o7 : Obj) (vx : Value) (xs : List S80) : Prop where
  p : H1 w W o n3 o6 vz zs
  b7 : W.heap[n4]? = some o7
  x : Kd.S k80 80 W w.heap.size (fun k => n3 < k ∧ k < n4) vx xs
  l3 : w.heap.size < n3
  l4 : n3 < n4
theorem H2.below {w W W' : World} {o o6 o7 : Obj} {n3 n4 : Nat} {vz vx : Value} {zs xs : List S80} (h : H2 w W o n3 o6 vz zs n4 o7 vx xs) (hb : Below W.heap.size W W') : H2 w W' o n3 o6 vz zs n4 o7 vx xs := ⟨h.p.below hb, blk_below h.b7 hb, Kd.S_below h.x hb, h.l3, h.l4⟩
structure H3 (w W : World) (o : Obj) (n3 : Nat) (o6 : Obj) (vz : Value) (zs : List S80) (n4 : Nat) (o7 : Obj) (vx : Value) (xs : List S80) (n5 : Nat) (o8 : Obj) (vb vg : Value) (rb : List Int) (gs : List S80) : Prop where
  p : H2 w W o n3 o6 vz zs n4 o7 vx xs
  b8 : W.heap[n5]? = some o8
  gb : Kd.R (Kd.int .u8) 5 W w.heap.size (fun k => (n4 < k ∧ k < n5) ∧ some k = vb.ownBlock) vb rb
  g : Kd.S k80 80 W w.heap.size (fun k => (n4 < k ∧ k < n5) ∧ some k ≠ vb.ownBlock) vg gs
  l5 : n4 < n5
section
variable {w W W' : World} {o o6 o7 o8 : Obj} {n3 n4 n5 : Nat} {vz vx vb vg : Value} {rb rb' : List Int} {zs xs xs' gs gs' : List S80}
theorem H3.below (h : H3 w W o n3 o6 vz zs n4 o7 vx xs n5 o8 vb vg rb gs) (hb : Below W.heap.size W W') : H3 w W' o n3 o6 vz zs n4 o7 vx xs n5 o8 vb vg rb gs := ⟨h.p.below hb, blk_below h.b8 hb, Kd.R_below h.gb hb, Kd.S_below h.g hb, h.l5⟩
theorem H3.drew (h : H3 w W o n3 o6 vz zs n4 o7 vx xs n5 o8 vb vg rb gs) : H3 w W.drew o n3 o6 vz zs n4 o7 vx xs n5 o8 vb vg rb gs := h.below (below_drew (Below.refl _ _))
theorem H3.markX (h : H3 w W o n3 o6 vz zs n4 o7 vx xs n5 o8 vb vg rb gs) (hB : Below w.heap.size w W') (hx : Kd.S k80 80 W' w.heap.size (fun k => n3 < k ∧ k < n4) vx xs') (hk : Kept W W' (fun k => n3 < k ∧ k < n4)) : H3 w W' o n3 o6 vz zs n4 o7 vx xs' n5 o8 vb vg rb gs := by
  have l3 := h.p.l3
  have l4 := h.p.l4
  have l5 := h.l5
  exact ⟨⟨h.p.p.kept hB hk (fun k hk => hk.1) (by omega), blk_kept h.p.b7 hk (fun hh => by have := hh.2; omega), hx, l3, l4⟩, blk_kept h.b8 hk (fun hh => by have := hh.2; omega), Kd.R_kept h.gb hk (fun k ho hh => by have := ho.1.1; have := hh.2; omega), Kd.S_kept h.g hk (fun k ho hh => by have := ho.1.1; have := hh.2; omega), l5⟩
theorem H3.markG (h : H3 w W o n3 o6 vz zs n4 o7 vx xs n5 o8 vb vg rb gs) (hB : Below w.heap.size w W') (hb : Kd.R (Kd.int .u8) 5 W' w.heap.size (fun k => (n4 < k ∧ k < n5) ∧ some k = vb.ownBlock) vb rb') (hx : Kd.S k80 80 W' w.heap.size (fun k => (n4 < k ∧ k < n5) ∧ some k ≠ vb.ownBlock) vg gs') (hk : Kept W W' (fun k => ((n4 < k ∧ k < n5) ∧ some k = vb.ownBlock) ∨ ((n4 < k ∧ k < n5) ∧ some k ≠ vb.ownBlock))) : H3 w W' o n3 o6 vz zs n4 o7 vx xs n5 o8 vb vg rb' gs' := by
  have l3 := h.p.l3
  have l4 := h.p.l4
  have l5 := h.l5
  have hk2 : Kept W W' (fun k => n4 < k ∧ k < n5) := hk.mono (fun k hh => hh.elim (fun h => h.1) (fun h => h.1))
  exact ⟨⟨h.p.p.kept hB hk2 (fun k hk => by have := hk.1; omega) (by omega), blk_kept h.p.b7 hk2 (fun hh => by have := hh.1; omega), Kd.S_kept h.p.x hk2 (fun k ho hh => by have := ho.2; have := hh.1; omega), l3, l4⟩, blk_kept h.b8 hk2 (fun hh => by have := hh.2; omega), hb, hx, l5⟩
end
theorem heldC (k : Nat) (c : Int) (Aq : Option Addr) (cq nq : Nat) (rb : List Int) (u s : Int) (Ag : Option Addr) (cg ng : Nat) (bs' : List S80) (m : Int) (w : World) (eq_ : nq = rb.length) (eg_ : ng = bs'.length) (hq : Kd.C (Kd.int .u8) w Aq rb.length rb) (hg : Kd.C k80 w Ag bs'.length bs') (hgc : ng ≤ cg) (h : laws_heldCacheResult.f k c rb u s bs' 1 = some m) (hqc : nq ≤ cq := by simp) :
    Calls Try.prog 15 #[.agg #[.int .i64 c, .slice Aq nq cq, .int .i64 u, .int .i64 s, .slice Ag ng cg], .int .i64 1] w fun e w' => e = .returned (.int .i64 m) ∧ Below w.heap.size w w' := by
  subst eq_ eg_
  exact laws_heldCacheResult.calls k c Aq cq rb u s Ag cg bs' 1 m w hq hqc hg hgc h
/-- THE ONE PURE STATEMENT of laws_FnExactForgetFrom. -/
def laws_FnExactForgetFrom.Pure : Prop := ∀ (a0_0 : Int) (a0_1 : Int) (l0_2 : List (S108)) (a1 : Int), (Lit.int .i64 a0_0).wf = true → (Lit.int .i64 a0_1).wf = true → l0_2.length ≤ maxLen → (∀ x ∈ l0_2, (Lit.int .i64 x.f0).wf = true ∧ (x.f1.length ≤ maxLen ∧ ∀ y0_ ∈ x.f1, (Lit.int .u8 y0_).wf = true)) → (Lit.int .i64 a1).wf = true →
  ∃ (k : Nat) (q : Int), laws_szCache.f k a0_0 a0_1 l0_2 1048576 = some q ∧ (q < 0 ∨ ¬ q < 0 ∧ ∃ (u0 s0 : Int) (l : List S80) (c u s : Int) (bs : List S80) (m0 : Int) (l' : List S80) (m : Int) (bs' : List S80),
    laws_toCache.f k a0_0 a0_1 l0_2 = some (u0, s0, l) ∧ spec_ForgetFrom.f k u0 s0 l a1 = some (c, [], u, s, bs) ∧ impl_ForgetFrom.f k u0 s0 l a1 = some (c, [], u, s, bs) ∧ laws_eqCacheResult.f k c [] u s bs c [] u s bs = some true ∧ laws_eqCache.f k u0 s0 l u0 s0 l = some true ∧
    laws_markBlockS.f k l 1 = some (m0, l') ∧ ¬ m0 < 0 ∧ laws_markByteS.f k [] 1 = some (1, []) ∧ laws_markBlockS.f k bs 1 = some (m, bs') ∧ laws_heldCacheResult.f k c [] u s bs' 1 = some m ∧ ¬ m < 0)
set_option maxHeartbeats 8000000 in
set_option maxRecDepth 100000 in
theorem laws_FnExactForgetFrom.walk (P : laws_FnExactForgetFrom.Pure) (a0_0 : Int) (a0_1 : Int) (A0_2 : Option Addr) (c0_2 : Nat) (l0_2 : List (S108)) (a1 : Int) (w : World) (hr0_2 : Kd.C k108 w A0_2 l0_2.length l0_2) (hc0_2 : l0_2.length ≤ c0_2) (y0 : (Lit.int .i64 a0_0).wf = true) (y1 : (Lit.int .i64 a0_1).wf = true) (y2 : l0_2.length ≤ maxLen) (y3 : (∀ x ∈ l0_2, (Lit.int .i64 x.f0).wf = true ∧ (x.f1.length ≤ maxLen ∧ ∀ y0_ ∈ x.f1, (Lit.int .u8 y0_).wf = true))) (y4 : (Lit.int .i64 a1).wf = true) :
    Calls Try.prog 6 #[.agg #[.int .i64 a0_0, .int .i64 a0_1, .slice A0_2 l0_2.length c0_2], .int .i64 a1] w fun e w' => e = .returned (.bool true) ∧ Below w.heap.size w w' := by
  obtain ⟨k, q, hq, hcase⟩ := P a0_0 a0_1 l0_2 a1 y0 y1 y2 y3 y4
  clear P y0 y1 y2 y3 y4
  have hu25 := Try.underlying25
  have hu27 := Try.underlying27
  have hu34 := Try.underlying34
  have HR := Aside0.mk hr0_2
  have HQ := Aside0.mk hq
  have hh0 : H0 w (w.alloc (.cells #[.int .i64 a0_0, .int .i64 a0_1, .slice A0_2 l0_2.length c0_2] 34)) (.cells #[.int .i64 a0_0, .int .i64 a0_1, .slice A0_2 l0_2.length c0_2] 34) := ⟨below_alloc (Below.refl _ _) _, blk_new _ _⟩
  have HA := Aside0.mk hh0
  have HC := Aside0.mk hc0_2
  clear hr0_2 hq hh0 hc0_2
  rcases hcase with hneg | ⟨hneg, u0, s0, l, c, u, s, bs, m0, l', m, bs', h1, h2, h3, h4, h5, h6, h7, h8, h9, h10, h11⟩
  · have hnb : decide (q < 0) = true := decide_eq_true hneg
    clear hneg
    go_enter Try.func6, Try.ntmps6
    go_wp2_with (go_at_call 16; refine (laws_szCache.calls k a0_0 a0_1 A0_2 c0_2 l0_2 1048576 q _ (Kd.C_alloc HR.out _) HC.out HQ.out).mono ?_; rintro e w1 ⟨rfl, hb⟩; have HW := Aside0.mk (HA.out.below hb); clear hb)
    go_ret
    exact ⟨rfl, HW.out.B⟩
  · have hnb : decide (q < 0) = false := decide_eq_false hneg
    have hmb0 : decide (m0 < 0) = false := decide_eq_false h7
    have hmb : decide (m < 0) = false := decide_eq_false h11
    have K1 := Aside0.mk h1
    have K2 := Aside0.mk h2
    have K3 := Aside0.mk h3
    have K4 := Aside0.mk h4
    have K5 := Aside0.mk h5
    have K6 := Aside0.mk h6
    have K8 := Aside0.mk h8
    have K9 := Aside0.mk h9
    have K10 := Aside0.mk h10
    clear h1 h2 h3 h4 h5 h6 h7 h8 h9 h10 h11 hneg
    go_enter Try.func6, Try.ntmps6
    go_wp2_with (go_at_call 16; refine (laws_szCache.calls k a0_0 a0_1 A0_2 c0_2 l0_2 1048576 q _ (Kd.C_alloc HR.out _) HC.out HQ.out).mono ?_; rintro e w1 ⟨rfl, hb⟩; have HW := Aside0.mk (HA.out.below hb); obtain ⟨a0_, a1_, a2_⟩ := cells3b HW.out.ba; clear hb HA)
    go_wp2_with (go_at_call 18; refine (laws_toCache.calls k a0_0 a0_1 A0_2 c0_2 l0_2 u0 s0 l _ (Kd.C_below HR.out HW.out.B) HC.out K1.out).mono ?_; rintro e w2 ⟨vl, rfl, hS, hb⟩; obtain ⟨Al, cl, rfl⟩ := Kd.S_slice hS; have HL := Aside0.mk hS; have HV := Aside0.mk (HW.out.below hb); clear a0_ a1_ a2_; obtain ⟨a0_, a1_, a2_⟩ := cells3b HV.out.ba; clear hS hb HW)
    go_wp2_with (go_at_call 26; refine (spec_ForgetFrom.calls k u0 s0 Al cl l a1 c [] u s bs _ (Kd.S_reads' HL.out).2.2 (Kd.S_reads' HL.out).2.1 K2.out).mono ?_; rintro e w3 ⟨vp, vz, rfl, hR, hS, hb⟩; obtain ⟨Ap, cp, rfl⟩ := Kd.R_slice hR; obtain ⟨Az, cz, rfl⟩ := Kd.S_slice hS; have hlt := blk_lt HV.out.ba; have HZ := Aside0.mk (Kd.S_mono (Kd.S_lower (Kd.S_bound hS) HV.out.B.size) (fun k hk => (⟨Nat.lt_of_lt_of_le hlt hk.2.1, hk.2.2.1⟩ : w.heap.size < k ∧ k < w3.heap.size))); have HU := Aside0.mk (HV.out.below hb); have HT := Aside0.mk (Nat.lt_of_lt_of_le hlt hb.size); clear a0_ a1_ a2_; clear hR hS hb hlt HV HL; have HH1 : Aside0 (H1 w (w3.alloc (.cells #[.int .i64 c, .slice Ap 0 cp, .int .i64 u, .int .i64 s, .slice Az bs.length cz] 27)) (.cells #[.int .i64 a0_0, .int .i64 a0_1, .slice A0_2 l0_2.length c0_2] 34) w3.heap.size (.cells #[.int .i64 c, .slice Ap 0 cp, .int .i64 u, .int .i64 s, .slice Az bs.length cz] 27) (.slice Az bs.length cz) bs) := ⟨⟨HU.out.below (below_alloc (Below.refl _ _) _), blk_new _ _, Kd.S_alloc HZ.out _⟩⟩; obtain ⟨a0_, a1_, a2_⟩ := cells3b HH1.out.p.ba; obtain ⟨s0_, s1_, s2_, s3_, s4_⟩ := cells5b HH1.out.b6; clear HU HZ)
    go_wp2_with (go_at_call 18; refine (laws_toCache.calls k a0_0 a0_1 A0_2 c0_2 l0_2 u0 s0 l _ (Kd.C_below HR.out HH1.out.p.B) HC.out K1.out).mono ?_; rintro e w4 ⟨vx, rfl, hS, hb⟩; obtain ⟨Ax, cx, rfl⟩ := Kd.S_slice hS; have HX := Aside0.mk (Kd.S_mono (Kd.S_lower (Kd.S_bound hS) HH1.out.p.B.size) (fun k hk => (⟨Nat.lt_of_lt_of_le (by simp) hk.2.1, hk.2.2.1⟩ : w3.heap.size < k ∧ k < w4.heap.size))); have HG1 := Aside0.mk (HH1.out.below hb); have HT4 := Aside0.mk (Nat.lt_of_lt_of_le (by simp) hb.size : w3.heap.size < w4.heap.size); clear a0_ a1_ a2_; clear hS hb HH1; have HH2 : Aside0 (H2 w (w4.alloc (.cells #[.int .i64 u0, .int .i64 s0, .slice Ax l.length cx] 25)) (.cells #[.int .i64 a0_0, .int .i64 a0_1, .slice A0_2 l0_2.length c0_2] 34) w3.heap.size (.cells #[.int .i64 c, .slice Ap 0 cp, .int .i64 u, .int .i64 s, .slice Az bs.length cz] 27) (.slice Az bs.length cz) bs w4.heap.size (.cells #[.int .i64 u0, .int .i64 s0, .slice Ax l.length cx] 25) (.slice Ax l.length cx) l) := ⟨⟨HG1.out.below (below_alloc (Below.refl _ _) _), blk_new _ _, Kd.S_alloc HX.out _, HT.out, HT4.out⟩⟩; obtain ⟨a0_, a1_, a2_⟩ := cells3b HH2.out.p.p.ba; obtain ⟨s0_, s1_, s2_, s3_, s4_⟩ := cells5b HH2.out.p.b6; obtain ⟨x0_, x1_, x2_⟩ := cells3b HH2.out.b7; clear HG1 HX HT)
    go_wp2_with (go_at_call 27; refine (impl_ForgetFrom.calls k u0 s0 Ax cx l a1 c [] u s bs _ (Kd.S_reads' HH2.out.x).2.2 (Kd.S_reads' HH2.out.x).2.1 K3.out).mono ?_; rintro e w5 ⟨vq, vg, rfl, hR, hS, hb⟩; obtain ⟨Aq, cq, rfl⟩ := Kd.R_slice hR; obtain ⟨Ag, cg, rfl⟩ := Kd.S_slice hS; have hlt := blk_lt HH2.out.b7; have HGB := Aside0.mk (Kd.R_mono (Kd.R_lower (Kd.R_bound (Kd.R_tight rfl hR)) HH2.out.p.p.B.size) (fun k hk => (⟨⟨Nat.lt_of_lt_of_le hlt hk.2.1, hk.2.2.1⟩, hk.1⟩ : (w4.heap.size < k ∧ k < w5.heap.size) ∧ some k = (Value.slice Aq 0 cq).ownBlock))); have HGG := Aside0.mk (Kd.S_mono (Kd.S_lower (Kd.S_bound hS) HH2.out.p.p.B.size) (fun k hk => (⟨⟨Nat.lt_of_lt_of_le hlt hk.2.1, hk.2.2.1⟩, hk.1⟩ : (w4.heap.size < k ∧ k < w5.heap.size) ∧ some k ≠ (Value.slice Aq 0 cq).ownBlock))); have HG2 := Aside0.mk (HH2.out.below hb); have HT5 := Aside0.mk (Nat.lt_of_lt_of_le hlt hb.size : w4.heap.size < w5.heap.size); clear a0_ a1_ a2_ s0_ s1_ s2_ s3_ s4_; clear hR hS hb hlt HH2; have HH3 : Aside0 (H3 w (w5.alloc (.cells #[.int .i64 c, .slice Aq 0 cq, .int .i64 u, .int .i64 s, .slice Ag bs.length cg] 27)) (.cells #[.int .i64 a0_0, .int .i64 a0_1, .slice A0_2 l0_2.length c0_2] 34) w3.heap.size (.cells #[.int .i64 c, .slice Ap 0 cp, .int .i64 u, .int .i64 s, .slice Az bs.length cz] 27) (.slice Az bs.length cz) bs w4.heap.size (.cells #[.int .i64 u0, .int .i64 s0, .slice Ax l.length cx] 25) (.slice Ax l.length cx) l w5.heap.size (.cells #[.int .i64 c, .slice Aq 0 cq, .int .i64 u, .int .i64 s, .slice Ag bs.length cg] 27) (.slice Aq 0 cq) (.slice Ag bs.length cg) [] bs) := ⟨⟨HG2.out.below (below_alloc (Below.refl _ _) _), blk_new _ _, Kd.R_alloc HGB.out _, Kd.S_alloc HGG.out _, HT5.out⟩⟩; obtain ⟨a0_, a1_, a2_⟩ := cells3b HH3.out.p.p.p.ba; obtain ⟨s0_, s1_, s2_, s3_, s4_⟩ := cells5b HH3.out.p.p.b6; obtain ⟨x0_, x1_, x2_⟩ := cells3b HH3.out.p.b7; obtain ⟨g0_, g1_, g2_, g3_, g4_⟩ := cells5b HH3.out.b8; clear HG2 HGB HGG HT4 HT5)
    go_wp2_with (go_at_call 13; refine (laws_eqCacheResult.calls k c Aq cq [] u s Ag cg bs c Ap cp [] u s Az cz bs true _ (C0 _ _ _) (Nat.zero_le _) (Kd.S_reads' HH3.out.g).2.2 (Kd.S_reads' HH3.out.g).2.1 (C0 _ _ _) (Nat.zero_le _) (Kd.S_reads' HH3.out.p.p.z).2.2 (Kd.S_reads' HH3.out.p.p.z).2.1 K4.out).mono ?_; rintro e w6 ⟨rfl, hb⟩; have HH := Aside0.mk (HH3.out.below hb); clear a0_ a1_ a2_ s0_ s1_ s2_ s3_ s4_ x0_ x1_ x2_; obtain ⟨a0_, a1_, a2_⟩ := cells3b HH.out.p.p.p.ba; obtain ⟨s0_, s1_, s2_, s3_, s4_⟩ := cells5b HH.out.p.p.b6; obtain ⟨x0_, x1_, x2_⟩ := cells3b HH.out.p.b7; obtain ⟨g0_, g1_, g2_, g3_, g4_⟩ := cells5b HH.out.b8; clear hb HH3)
    replace HH := Aside0.mk HH.out.drew
    clear a0_ a1_ a2_ s0_ s1_ s2_ s3_ s4_ x0_ x1_ x2_ g0_ g1_ g2_ g3_ g4_
    refine start_ (n := 5) (S := fun w' => w'.cell? ⟨w4.heap.size, 0, none⟩ = some (.int .i64 u0) ∧ w'.cell? ⟨w4.heap.size, 1, none⟩ = some (.int .i64 s0) ∧ w'.cell? ⟨w4.heap.size, 2, none⟩ = some (.slice Ax l.length cx) ∧ w'.cell? ⟨w.heap.size, 0, none⟩ = some (.int .i64 a0_0) ∧ w'.cell? ⟨w.heap.size, 1, none⟩ = some (.int .i64 a0_1) ∧ w'.cell? ⟨w.heap.size, 2, none⟩ = some (.slice A0_2 l0_2.length c0_2)) (ds := []) #[false, false, false, false, false] (by kernel_rfl) rfl rfl ⟨(blk_cell HH.out.p.b7 0).trans rfl, (blk_cell HH.out.p.b7 1).trans rfl, (blk_cell HH.out.p.b7 2).trans rfl, (blk_cell HH.out.p.p.p.ba 0).trans rfl, (blk_cell HH.out.p.p.p.ba 1).trans rfl, (blk_cell HH.out.p.p.p.ba 2).trans rfl⟩ (fun hHeld => ?_)
    generalize w6.drew = w7 at HH hHeld ⊢
    refine take_ (i := 0) (N := some 31) (v := ?_) (a' := ?_) #[true, false, false, false, false] rfl rfl (by kernel_rfl) (fun _ _ _ h => h) (Or.inl ⟨by rfl, ?_⟩) hHeld ?_ ?_
    rotate_left
    · rintro w' ⟨s0, s1, s2, s3, s4, s5⟩
      go_simp
      with_reducible rfl
    rotate_left
    · simp only [Act.put, List.setIfInBounds_toArray, List.set_cons_zero, List.set_cons_succ, i64_w, i32_w]
      rfl
    refine take_ (i := 1) (N := some 32) (v := ?_) (a' := ?_) #[true, true, false, false, false] rfl rfl (by kernel_rfl) (fun _ _ _ h => h) (Or.inl ⟨by rfl, ?_⟩) hHeld ?_ ?_
    rotate_left
    · rintro w' ⟨s0, s1, s2, s3, s4, s5⟩
      go_simp
      with_reducible rfl
    rotate_left
    · simp only [Act.put, List.setIfInBounds_toArray, List.set_cons_zero, List.set_cons_succ, i64_w, i32_w]
      rfl
    refine one_ (i := 2) (N := some 33) #[true, true, true, false, false] rfl rfl (by kernel_rfl) (by decide) (fun K hK => ?_)
    refine goes_ Try.func18 (by kernel_rfl) rfl #[.agg #[.int .i64 a0_0, .int .i64 a0_1, .slice A0_2 l0_2.length c0_2]] (by rfl) rfl rfl (by (try simp only [List.map_toArray, List.map_cons, List.map_nil]); first | done | rfl | (simp only [List.length_drop, List.length_take]; rfl)) ?_
    refine (laws_toCache.calls k a0_0 a0_1 A0_2 c0_2 l0_2 u0 s0 l _ (Kd.C_below HR.out HH.out.p.p.p.B) HC.out K1.out).mono ?_
    rintro e w8 ⟨vy, rfl, hS, hb⟩
    refine ⟨_, rfl, ?_⟩
    obtain ⟨Ay, cy, rfl⟩ := Kd.S_slice hS
    have HY := Aside0.mk hS
    replace HH := Aside0.mk (HH.out.below hb)
    clear hS hb
    refine hK.out _ _ ⟨(blk_cell HH.out.p.b7 0).trans rfl, (blk_cell HH.out.p.b7 1).trans rfl, (blk_cell HH.out.p.b7 2).trans rfl, (blk_cell HH.out.p.p.p.ba 0).trans rfl, (blk_cell HH.out.p.p.p.ba 1).trans rfl, (blk_cell HH.out.p.p.p.ba 2).trans rfl⟩ (fun hHeld => ?_)
    clear hK K
    refine norm_ (a' := ?_) ?_ ?_
    rotate_left
    · show Act.put _ (some 33) _ = _
      simp only [Act.put, List.setIfInBounds_toArray, List.set_cons_zero, List.set_cons_succ, i64_w, i32_w]
      rfl
    refine one_ (i := 3) (N := some 34) #[true, true, true, true, false] rfl rfl (by kernel_rfl) (by decide) (fun K hK => ?_)
    refine goes_ Try.func20 (by kernel_rfl) rfl #[.agg #[.int .i64 u0, .int .i64 s0, .slice Ax l.length cx], .agg #[.int .i64 u0, .int .i64 s0, .slice Ay l.length cy]] (by rfl) rfl rfl (by (try simp only [List.map_toArray, List.map_cons, List.map_nil]); first | done | rfl | (simp only [List.length_drop, List.length_take]; rfl)) ?_
    refine (laws_eqCache.calls k u0 s0 Ax cx l u0 s0 Ay cy l true _ (Kd.S_reads' HH.out.p.x).2.2 (Kd.S_reads' HH.out.p.x).2.1 (Kd.S_reads' HY.out).2.2 (Kd.S_reads' HY.out).2.1 K5.out).mono ?_
    rintro e w9 ⟨rfl, hb⟩
    refine ⟨_, rfl, ?_⟩
    replace HH := Aside0.mk (HH.out.below hb)
    clear hb HY
    refine hK.out _ _ ⟨(blk_cell HH.out.p.b7 0).trans rfl, (blk_cell HH.out.p.b7 1).trans rfl, (blk_cell HH.out.p.b7 2).trans rfl, (blk_cell HH.out.p.p.p.ba 0).trans rfl, (blk_cell HH.out.p.p.p.ba 1).trans rfl, (blk_cell HH.out.p.p.p.ba 2).trans rfl⟩ (fun hHeld => ?_)
    clear hK K
    refine norm_ (a' := ?_) ?_ ?_
    rotate_left
    · show Act.put _ (some 34) _ = _
      simp only [Act.put, List.setIfInBounds_toArray, List.set_cons_zero, List.set_cons_succ, i64_w, i32_w]
      rfl
    refine pure_ (i := 4) (N := some 35) (v := ?_) (a' := ?_) #[true, true, true, true, true] rfl rfl (by kernel_rfl) (fun _ _ _ h => h) (Or.inl ⟨by rfl, ?_⟩) ?_ ?_
    rotate_left
    · intro w'
      go_simp
      with_reducible rfl
    rotate_left
    · simp only [Act.put, List.setIfInBounds_toArray, List.set_cons_zero, List.set_cons_succ, i64_w, i32_w]
      rfl
    refine done_ (by kernel_rfl) ?_
    clear hHeld
    obtain ⟨a0_, a1_, a2_⟩ := cells3b HH.out.p.p.p.ba; obtain ⟨s0_, s1_, s2_, s3_, s4_⟩ := cells5b HH.out.p.p.b6; obtain ⟨x0_, x1_, x2_⟩ := cells3b HH.out.p.b7; obtain ⟨g0_, g1_, g2_, g3_, g4_⟩ := cells5b HH.out.b8
    go_wp2_with (first | (go_at_call 28; refine (laws_markCache.calls k u0 s0 _ l 1 m0 l' w _ _ HH.out.p.p.p.B HH.out.p.x K6.out).mono ?_; rintro e w10 ⟨rfl, hx, hB, hk⟩; replace HH := Aside0.mk (HH.out.markX hB hx hk); clear a0_ a1_ a2_ s0_ s1_ s2_ s3_ s4_ x0_ x1_ x2_ g0_ g1_ g2_ g3_ g4_; obtain ⟨a0_, a1_, a2_⟩ := cells3b HH.out.p.p.p.ba; obtain ⟨s0_, s1_, s2_, s3_, s4_⟩ := cells5b HH.out.p.p.b6; obtain ⟨x0_, x1_, x2_⟩ := cells3b HH.out.p.b7; obtain ⟨g0_, g1_, g2_, g3_, g4_⟩ := cells5b HH.out.b8; clear hx hB hk) | (go_at_call 13; refine (laws_eqCacheResult.calls k c Aq cq [] u s Ag cg bs c Ap cp [] u s Az cz bs true _ (C0 _ _ _) (Nat.zero_le _) (Kd.S_reads' HH.out.g).2.2 (Kd.S_reads' HH.out.g).2.1 (C0 _ _ _) (Nat.zero_le _) (Kd.S_reads' HH.out.p.p.z).2.2 (Kd.S_reads' HH.out.p.p.z).2.1 K4.out).mono ?_; rintro e w11 ⟨rfl, hb⟩; replace HH := Aside0.mk (HH.out.below hb); clear a0_ a1_ a2_ s0_ s1_ s2_ s3_ s4_ x0_ x1_ x2_ g0_ g1_ g2_ g3_ g4_; obtain ⟨a0_, a1_, a2_⟩ := cells3b HH.out.p.p.p.ba; obtain ⟨s0_, s1_, s2_, s3_, s4_⟩ := cells5b HH.out.p.p.b6; obtain ⟨x0_, x1_, x2_⟩ := cells3b HH.out.p.b7; obtain ⟨g0_, g1_, g2_, g3_, g4_⟩ := cells5b HH.out.b8; clear hb))
    go_wp2_with (go_at_call 14; refine (laws_markCacheResult.calls k c _ [] u s _ bs 1 1 [] m bs' w _ _ _ (fun k h1 h2 => h2.2 h1.2) HH.out.p.p.p.B HH.out.gb HH.out.g K8.out K9.out).mono ?_; rintro e w12 ⟨rfl, hr, hx, hB, hk⟩; replace HH := Aside0.mk (HH.out.markG hB hr hx hk); clear a0_ a1_ a2_ s0_ s1_ s2_ s3_ s4_ x0_ x1_ x2_ g0_ g1_ g2_ g3_ g4_; obtain ⟨a0_, a1_, a2_⟩ := cells3b HH.out.p.p.p.ba; obtain ⟨s0_, s1_, s2_, s3_, s4_⟩ := cells5b HH.out.p.p.b6; obtain ⟨x0_, x1_, x2_⟩ := cells3b HH.out.p.b7; obtain ⟨g0_, g1_, g2_, g3_, g4_⟩ := cells5b HH.out.b8; clear hr hx hB hk)
    go_wp2_with (first | (go_at_call 15; refine (heldC k c Aq cq 0 [] u s Ag cg bs.length bs' m _ rfl (Kd.S_reads' HH.out.g).1 (C0 _ _ _) (Kd.S_reads' HH.out.g).2.2 (Kd.S_reads' HH.out.g).2.1 K10.out).mono ?_; rintro e w13 ⟨rfl, hb⟩; replace HH := Aside0.mk (HH.out.below hb); clear a0_ a1_ a2_ s0_ s1_ s2_ s3_ s4_ x0_ x1_ x2_ g0_ g1_ g2_ g3_ g4_; obtain ⟨a0_, a1_, a2_⟩ := cells3b HH.out.p.p.p.ba; obtain ⟨s0_, s1_, s2_, s3_, s4_⟩ := cells5b HH.out.p.p.b6; obtain ⟨x0_, x1_, x2_⟩ := cells3b HH.out.p.b7; obtain ⟨g0_, g1_, g2_, g3_, g4_⟩ := cells5b HH.out.b8; clear hb) | (go_at_call 18; refine (laws_toCache.calls k a0_0 a0_1 A0_2 c0_2 l0_2 u0 s0 l _ (Kd.C_below HR.out HH.out.p.p.p.B) HC.out K1.out).mono ?_; rintro e w14 ⟨vy, rfl, hS, hb⟩; obtain ⟨Ay, cy, rfl⟩ := Kd.S_slice hS; have HY := Aside0.mk hS; replace HH := Aside0.mk (HH.out.below hb); clear a0_ a1_ a2_ s0_ s1_ s2_ s3_ s4_ x0_ x1_ x2_ g0_ g1_ g2_ g3_ g4_; obtain ⟨a0_, a1_, a2_⟩ := cells3b HH.out.p.p.p.ba; obtain ⟨s0_, s1_, s2_, s3_, s4_⟩ := cells5b HH.out.p.p.b6; obtain ⟨x0_, x1_, x2_⟩ := cells3b HH.out.p.b7; obtain ⟨g0_, g1_, g2_, g3_, g4_⟩ := cells5b HH.out.b8; clear hS hb) | (go_at_call 27; refine (impl_ForgetFrom.calls k u0 s0 Ay cy l a1 c [] u s bs _ (Kd.S_reads' HY.out).2.2 (Kd.S_reads' HY.out).2.1 K3.out).mono ?_; rintro e w15 ⟨vr, vh, rfl, hR, hS, hb⟩; obtain ⟨Ar, cr, rfl⟩ := Kd.R_slice hR; obtain ⟨Ah, ch, rfl⟩ := Kd.S_slice hS; have HI := Aside0.mk (Kd.S_alloc hS (.cells #[.int .i64 c, .slice Ar 0 cr, .int .i64 u, .int .i64 s, .slice Ah bs.length ch] 27)); replace HH := Aside0.mk ((HH.out.below hb).below (below_alloc (Below.refl _ _) (.cells #[.int .i64 c, .slice Ar 0 cr, .int .i64 u, .int .i64 s, .slice Ah bs.length ch] 27))); clear a0_ a1_ a2_ s0_ s1_ s2_ s3_ s4_ x0_ x1_ x2_ g0_ g1_ g2_ g3_ g4_; obtain ⟨a0_, a1_, a2_⟩ := cells3b HH.out.p.p.p.ba; obtain ⟨s0_, s1_, s2_, s3_, s4_⟩ := cells5b HH.out.p.p.b6; obtain ⟨x0_, x1_, x2_⟩ := cells3b HH.out.p.b7; obtain ⟨g0_, g1_, g2_, g3_, g4_⟩ := cells5b HH.out.b8; clear hR hS hb))
    go_wp2_with (go_at_call 13; refine (laws_eqCacheResult.calls k c Ar cr [] u s Ah ch bs c Ap cp [] u s Az cz bs true _ (C0 _ _ _) (Nat.zero_le _) (Kd.S_reads' HI.out).2.2 (Kd.S_reads' HI.out).2.1 (C0 _ _ _) (Nat.zero_le _) (Kd.S_reads' HH.out.p.p.z).2.2 (Kd.S_reads' HH.out.p.p.z).2.1 K4.out).mono ?_; rintro e w16 ⟨rfl, hb⟩; replace HH := Aside0.mk (HH.out.below hb); clear a0_ a1_ a2_ s0_ s1_ s2_ s3_ s4_ x0_ x1_ x2_ g0_ g1_ g2_ g3_ g4_; obtain ⟨a0_, a1_, a2_⟩ := cells3b HH.out.p.p.p.ba; obtain ⟨s0_, s1_, s2_, s3_, s4_⟩ := cells5b HH.out.p.p.b6; obtain ⟨x0_, x1_, x2_⟩ := cells3b HH.out.p.b7; obtain ⟨g0_, g1_, g2_, g3_, g4_⟩ := cells5b HH.out.b8; clear hb HI)
    go_wp2_with (go_at_call 15; refine (heldC k c Aq cq 0 [] u s Ag cg bs.length bs' m _ rfl (Kd.S_reads' HH.out.g).1 (C0 _ _ _) (Kd.S_reads' HH.out.g).2.2 (Kd.S_reads' HH.out.g).2.1 K10.out).mono ?_; rintro e w13 ⟨rfl, hb⟩; replace HH := Aside0.mk (HH.out.below hb); clear a0_ a1_ a2_ s0_ s1_ s2_ s3_ s4_ x0_ x1_ x2_ g0_ g1_ g2_ g3_ g4_; obtain ⟨a0_, a1_, a2_⟩ := cells3b HH.out.p.p.p.ba; obtain ⟨s0_, s1_, s2_, s3_, s4_⟩ := cells5b HH.out.p.p.b6; obtain ⟨x0_, x1_, x2_⟩ := cells3b HH.out.p.b7; obtain ⟨g0_, g1_, g2_, g3_, g4_⟩ := cells5b HH.out.b8; clear hb)
    go_ret
    exact ⟨rfl, HH.out.p.p.p.B⟩
end Go.Proofs.Ytkocconggohdgaa.PFnExactForgetFrom
