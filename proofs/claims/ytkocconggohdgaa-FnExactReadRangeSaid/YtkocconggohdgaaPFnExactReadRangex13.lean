/- Functions of the given program as plain Lean functions, each with a proof that the Go code answers just so; walked by hand. Conditions: those that each theorem names. -/
import Derived.Test.YtkocconggohdgaaPFnExactReadRangex12
namespace Go.Proofs.Ytkocconggohdgaa.PFnExactReadRange
open Go.RowKit Go.Proofs.YtkocconggohdgaaW.PrintWords Go.Proofs.YtkocconggohdgaaW.PrintLast Go.Proofs.YtkocconggohdgaaW.PrintMore
attribute [local go_sem] max2_int min2_int max_two min_two max_three min_three max_four min_four   -- for this text's walks alone
set_option linter.unusedVariables false
set_option linter.unusedSimpArgs false
/-- what is read block by block, until one is short -/
def impl_read.l0 (k : Nat) (u s : Int) (f : List Int) (hi most : Int) : Nat → List S80 → Int → List Int → Option (List Int × List S80)
  | 0, _, _, _ => none
  | j + 1, l, n, out => if n ≤ hi then (impl_fetch.f k u s l f n most).bind fun r => if out.length + r.1.length < 140737488355328 then (if (r.1.length : Int) < u then some (out ++ r.1, r.2) else impl_read.l0 k u s f hi most j r.2 (wrap64 (n + 1)) (out ++ r.1)) else none else some (out, l)
def impl_read.cut (u at_ n : Int) (out : List Int) (l : List S80) : Option (List Int × List S80) :=
  if 0 ≤ min (wrap64 (at_ - wrap64 (wrap64 (Int.tdiv at_ u) * u))) (out.length : Int) then (if min (wrap64 (at_ - wrap64 (wrap64 (Int.tdiv at_ u) * u))) (out.length : Int) ≤ min (wrap64 (min (wrap64 (at_ - wrap64 (wrap64 (Int.tdiv at_ u) * u))) (out.length : Int) + n)) (out.length : Int) then some ((out.take (min (wrap64 (min (wrap64 (at_ - wrap64 (wrap64 (Int.tdiv at_ u) * u))) (out.length : Int) + n)) (out.length : Int)).toNat).drop (min (wrap64 (at_ - wrap64 (wrap64 (Int.tdiv at_ u) * u))) (out.length : Int)).toNat, l) else none) else none
def impl_read.f (k : Nat) (u s : Int) (l : List S80) (f : List Int) (at_ n most : Int) : Option (List Int × List S80) :=
  if n = 0 then some ([], l) else if u = 0 then none else (impl_read.l0 k u s f (wrap64 (Int.tdiv (wrap64 (wrap64 (at_ + n) - 1)) u)) most k l (wrap64 (Int.tdiv at_ u)) []).bind fun r => impl_read.cut u at_ n r.1 r.2
/-- What a read keeps, while it runs. -/
structure Rd (w0 w W : World) (G : Nat) (u s : Int) (vl : Value) (vf : Value) : Prop where
  B : Below w0.heap.size w0 W
  K : Kept w W (fun k => k = G)
  bG : W.heap[G]? = some (.cells #[.int .i64 u, .int .i64 s, vl] 25 (0, 0))
  bf : W.heap[w.heap.size]? = some (.cells #[vf] 44 (0, 0))
theorem Rd.below {w0 w W W' : World} {G : Nat} {u s : Int} {vl vf : Value} (h : Rd w0 w W G u s vl vf) (hw : w0.heap.size ≤ w.heap.size) (hb : Below W.heap.size W W') : Rd w0 w W' G u s vl vf :=
  ⟨below_then h.B (Nat.le_trans hw h.K.1) hb, h.K.below hb, blk_below h.bG hb, blk_below h.bf hb⟩
theorem Rd.grown {w0 w W W' : World} {G : Nat} {u s : Int} {vl vf : Value} (h : Rd w0 w W G u s vl vf) (hw : w0.heap.size ≤ w.heap.size) {row : Option Nat} (hg : W.grownBy W' row) (hgl : ∀ k, row = some k → w.heap.size < k) (hG : G < w.heap.size) : Rd w0 w W' G u s vl vf :=
  ⟨h.B.grown hg (Nat.le_trans hw h.K.1) (fun k hk => by have := hgl k hk; omega), Kept.of_grown hg h.K (fun k hk => .inr (by have := hgl k hk; omega)), blk_grown h.bG hg (by intro e; have := hgl _ e.symm; omega), blk_grown h.bf hg (by intro e; have := hgl _ e.symm; omega)⟩
set_option maxHeartbeats 8000000 in
set_option maxRecDepth 100000 in
theorem impl_read.calls (k : Nat) (u s : Int) (l : List S80) (f : List Int) (at_ n most : Int) (r : List Int) (l' : List S80) (G : Nat) (A : Option Addr) (c : Nat) (Af : Option Addr) (cf : Nat) (w0 w : World)
    (hB : Below w0.heap.size w0 w) (hG0 : w0.heap.size ≤ G) (hg : w.heap[G]? = some (.cells #[.int .i64 u, .int .i64 s, .slice A l.length c] 25 (0, 0))) (hF : Kd.F k80 w (fun k => k ≠ G) A l.length l) (hc : l.length ≤ c) (hFf : Kd.F (Kd.int .u8) w (fun k => k ≠ G) Af f.length f) (hcf : f.length ≤ cf)
    (h : impl_read.f k u s l f at_ n most = some (r, l')) :
    Calls Try.prog 72 #[.pointer (some ⟨G, 0, none⟩), .agg #[.slice Af f.length cf], .int .i64 at_, .int .i64 n, .int .i64 most] w fun e w' => ∃ B cb A' c', e = .returned (.slice B r.length cb) ∧ w'.heap[G]? = some (.cells #[.int .i64 u, .int .i64 s, .slice A' l'.length c'] 25 (0, 0)) ∧ Kd.F k80 w' (fun k => k ≠ G) A' l'.length l' ∧ l'.length ≤ c' ∧ Kd.F (Kd.int .u8) w' (fun k => k ≠ G) B r.length r ∧ r.length ≤ cb ∧ Kept w w' (fun k => k = G) ∧ Below w0.heap.size w0 w' := by
  have hu25 := Try.underlying25
  have hu44 := Try.underlying44
  have hGw := blk_lt hg
  have hwle := hB.size
  have hF0 := Kd.F_bound hF
  have hFf0 := Kd.F_bound hFf
  have hS0 : Rd w0 w (w.alloc (.cells #[.slice Af f.length cf] 44)) G u s (.slice A l.length c) (.slice Af f.length cf) :=
    ⟨hB.alloc hwle _, (Kept.refl w _).alloc _, blk_alloc hg _, blk_new _ _⟩
  have hF1 := Kd.F_alloc hF0 (.cells #[.slice Af f.length cf] 44)
  have hFf1 := Kd.F_alloc hFf0 (.cells #[.slice Af f.length cf] 44)
  have HS0 := Aside0.mk hS0
  have HF1 := Aside0.mk hF1
  have HFf1 := Aside0.mk hFf1
  have HW := Aside0.mk hwle
  have HC := Aside0.mk hc
  have HG0 := Aside0.mk hG0
  have HCf := Aside0.mk hcf
  have HGw := Aside0.mk hGw
  clear hS0 hF1 hFf1 hB hF hFf hF0 hFf0 hg hwle hc hG0 hcf
  by_cases hn : n = 0
  · rw [impl_read.f, if_pos hn] at h
    obtain ⟨hr, hll⟩ : [] = r ∧ l = l' := by simpa using h
    have HRr := Aside0.mk hr
    subst hll
    subst hn
    clear h hr
    go_enter Try.func72, Try.ntmps72
    go_wp2_with (first | ((with_reducible refine gate_dst (N := 16) rfl ?_); refine Kd.R_lit (Kd.int .u8) w0.heap.size 5 ?hg (N := 16) ?hd (xs := ([] : List Int)) (inner := []) (ok := fun k => w.heap.size < k) (okp := fun _ => False) ?hr ?hp (fun _ hk => hk.elim) (blk_lt HS0.out.bf) HS0.out.B (Nat.le_trans HW.out HS0.out.K.1) (by simp) ?_; (case hd => rfl); (case hg => rfl); (case hr => first | (go_simp; done) | (go_simp; rfl)); (case hp => exact (Reps.none _ _)); intro v1 w1 hR1 _ hB1 _; obtain ⟨A1, c1, rfl⟩ := Kd.R_slice hR1; have HR1 := Aside0.mk hR1; have HS1 := Aside0.mk (HS0.out.grown HW.out hB1 (fun k hk => by cases hk) HGw.out); have HF2 := Aside0.mk (Kd.F_grown HF1.out hB1 (fun k _ e => by cases e)); have HFf2 := Aside0.mk (Kd.F_grown HFf1.out hB1 (fun k _ e => by cases e)); (try clear z0 z1 z2); obtain ⟨⟨z0, z1, z2⟩, _⟩ := cells3 HS1.out.bG; clear hR1 hB1))
    go_ret
    obtain rfl := HRr.out
    exact ⟨_, _, _, _, rfl, HS1.out.bG, Kd.F_mono HF2.out (fun k hk => hk.1), HC.out, Kd.R_F (Kd.R_mono HR1.out (fun k hk => by have := HGw.out; omega)), (Kd.R_reads' HR1.out).2.1, HS1.out.K, HS1.out.B⟩
  rw [impl_read.f, if_neg hn] at h
  by_cases hu : u = 0
  · rw [if_pos hu] at h; cases h
  rw [if_neg hu] at h
  obtain ⟨⟨ob, lb⟩, hl0, hcut⟩ := Option.bind_eq_some_iff.1 h
  have HL0 := Aside0.mk hl0
  have HCUT := Aside0.mk hcut
  have hnb : (n == 0) = false := beq_eq_false_iff_ne.2 hn
  have hub : (u == 0) = false := beq_eq_false_iff_ne.2 hu
  have hub2 : decide (u = 0) = false := decide_eq_false hu
  clear h hl0 hcut
  go_enter Try.func72, Try.ntmps72
  obtain ⟨⟨z0, z1, z2⟩, _⟩ := cells3 HS0.out.bG
  go_wp2_with (first | ((with_reducible refine gate_dst (N := 16) rfl ?_); refine Kd.R_lit (Kd.int .u8) w0.heap.size 5 ?hg (N := 16) ?hd (xs := ([] : List Int)) (inner := []) (ok := fun k => w.heap.size < k) (okp := fun _ => False) ?hr ?hp (fun _ hk => hk.elim) (blk_lt HS0.out.bf) HS0.out.B (Nat.le_trans HW.out HS0.out.K.1) (by simp) ?_; (case hd => rfl); (case hg => rfl); (case hr => first | (go_simp; done) | (go_simp; rfl)); (case hp => exact (Reps.none _ _)); intro v1 w1 hR1 _ hB1 _; obtain ⟨A1, c1, rfl⟩ := Kd.R_slice hR1; have HR1 := Aside0.mk hR1; have HS1 := Aside0.mk (HS0.out.grown HW.out hB1 (fun k hk => by cases hk) HGw.out); have HF2 := Aside0.mk (Kd.F_grown HF1.out hB1 (fun k _ e => by cases e)); have HFf2 := Aside0.mk (Kd.F_grown HFf1.out hB1 (fun k _ e => by cases e)); (try clear z0 z1 z2); obtain ⟨⟨z0, z1, z2⟩, _⟩ := cells3 HS1.out.bG; clear hR1 hB1))
  go_loopg [11, 13, 14] k (fun gg s11 s13 _ wr => ∃ (kk : Int) (out : List Int) (li : List S80) (Ai : Option Addr) (ci : Nat), s13 = .int .i64 kk ∧ Aside0 (impl_read.l0 k u s f (wrap64 (Int.tdiv (wrap64 (wrap64 (at_ + n) - 1)) u)) most gg li kk out = some (ob, lb)) ∧ Aside0 (Rd w0 w wr G u s (.slice Ai li.length ci) (.slice Af f.length cf)) ∧ Aside0 (Kd.R (Kd.int .u8) 5 wr w0.heap.size (fun k => w.heap.size < k) s11 out) ∧ Aside0 (Kd.F k80 wr (fun k => k ≠ G ∧ some k ≠ s11.ownBlock) Ai li.length li) ∧ Aside0 (li.length ≤ ci) ∧ Aside0 (Kd.F (Kd.int .u8) wr (fun k => k ≠ G ∧ k < w.heap.size) Af f.length f))
  case atStart => exact ⟨_, [], l, A, c, rfl, HL0, HS1, HR1, ⟨Kd.F_mono HF2.out (fun k hk => ⟨hk.1, fun e => by have := HR1.out.1 k e.symm; have := hk.2; omega⟩)⟩, HC, HFf2⟩
  case round =>
    clear HS1 HR1 HF2 HFf2 HS0 HF1 HFf1 HL0 z0 z1 z2
    obtain ⟨kk, out, li, Ai, ci, rfl, HL, HS, HR, HF, HCi, HFf⟩ := hrel
    cases gk with
    | zero => exact absurd HL.out (by simp [impl_read.l0])
    | succ k1 =>
      have hl := HL.out
      simp only [impl_read.l0] at hl
      obtain ⟨Av, cv, rfl⟩ := Kd.R_slice HR.out
      obtain ⟨⟨z0, z1, z2⟩, _⟩ := cells3 HS.out.bG
      have zf := cells1 HS.out.bf
      clear HL
      by_cases hk : kk ≤ wrap64 (Int.tdiv (wrap64 (wrap64 (at_ + n) - 1)) u)
      · rw [if_pos hk] at hl
        have hkb : decide (kk ≤ wrap64 (Int.tdiv (wrap64 (wrap64 (at_ + n) - 1)) u)) = true := decide_eq_true hk
        obtain ⟨⟨rb, rl⟩, h1, h2⟩ := Option.bind_eq_some_iff.1 hl
        by_cases h3 : out.length + rb.length < 140737488355328
        · have h4 : (if (rb.length : Int) < u then some (out ++ rb, rl) else impl_read.l0 k u s f (wrap64 (Int.tdiv (wrap64 (wrap64 (at_ + n) - 1)) u)) most k1 rl (wrap64 (kk + 1)) (out ++ rb)) = some (ob, lb) := by rw [← h2]; exact (if_pos h3).symm
          have H1 := Aside0.mk h1
          clear h1 h2 hl
          by_cases h5 : (rb.length : Int) < u
          · rw [if_pos h5] at h4
            obtain ⟨hob, rfl⟩ : out ++ rb = ob ∧ rl = lb := by simpa using h4
            have HOB := Aside0.mk hob
            clear h4 hob
            have h5b : decide ((rb.length : Int) < u) = true := decide_eq_true h5
            go_wp2_with (first | (go_at_call 68; refine (impl_fetch.calls (fun k => some k ≠ (Value.slice Av out.length cv).ownBlock) k u s li f kk most rb rl G Ai ci Af cf w0 wr HS.out.B HG0.out HS.out.bG HF.out HCi.out (Kd.F_mono HFf.out (fun k hk => hk.1)) HCf.out H1.out).mono ?_; rintro e w3 ⟨B3, cb3, A3, c3, rfl, hg3, hF3, hc3, hFb3, hcb3, hK3, hB3⟩; have hlt := Kd.R_lt HR.out; have HS3 : Aside0 (Rd w0 w w3 G u s (.slice A3 rl.length c3) (.slice Af f.length cf)) := ⟨⟨hB3, HS.out.K.then_ hK3 (fun k hk => .inl hk), hg3, blk_kept HS.out.bf hK3 (by have := HGw.out; omega)⟩⟩; have HR3 := Aside0.mk (Kd.R_kept HR.out hK3 (fun k hk e => by have := HGw.out; omega)); have HF3 := Aside0.mk (Kd.F_mono (ok' := fun k => k ≠ G ∧ some k ≠ (Value.slice Av out.length cv).ownBlock) hF3 (fun k hk => ⟨hk.1, fun e => hk.2.elim (fun hp => hp e) (fun hl => by have := hlt k e.symm; omega)⟩)); have HFf3 := Aside0.mk (Kd.F_kept HFf.out hK3 (fun k hk e => hk.1 e)); have HC3 := Aside0.mk hc3; have HFb3 := Aside0.mk (Kd.F_now hFb3); clear hg3 hF3 hc3 hFb3 hK3 hB3 hlt z0 z1 z2 zf; obtain ⟨⟨z0, z1, z2⟩, _⟩ := cells3 HS3.out.bG) | (at_builtin; refine Kd.R_append_row (Value.int .u8) (0 : Int) (h1 := fun _ => rfl) (w0 := w0) w0.heap.size rfl _ _ 22 5 (.int .u8 0) 1 rfl Try.underlying22 info5 rfl (by decide) (.slice Av out.length cv) out rb _ _ _ (fun k => w.heap.size < k) rfl rfl (fun k hk => Nat.lt_of_lt_of_le (blk_lt HS3.out.bf) hk) HR3.out HFb3.out HS3.out.B (Nat.le_trans HW.out HS3.out.K.1) (by omega) ?_; intro v4 w4 hR4 _ hg4 hat4; have HO := Aside0.mk (fun k hk => HR3.out.1 k hk); have HS4 := Aside0.mk (HS3.out.grown HW.out hg4 HO.out HGw.out); rw [HOB.out] at hR4; obtain ⟨Aw, cw, rfl⟩ := Kd.R_slice hR4; have HR4 := Aside0.mk hR4; have HF4 := Aside0.mk (Kd.F_after HF3.out hg4 hat4); have HFf4 := Aside0.mk (Kd.F_grown HFf3.out hg4 (fun k hk e => by have := HO.out k e.symm; have := hk.2; omega)); clear z0 z1 z2; obtain ⟨⟨z0, z1, z2⟩, _⟩ := cells3 HS4.out.bG; clear hR4 hg4 hat4; have hcc := HCUT.out; dsimp only [impl_read.cut] at hcc; obtain ⟨lo, hlo⟩ : ∃ lo, lo = min (wrap64 (at_ - wrap64 (wrap64 (Int.tdiv at_ u) * u))) ((ob).length : Int) := ⟨_, rfl⟩; rw [← hlo] at hcc; obtain ⟨hi, hhi⟩ : ∃ hi, hi = min (wrap64 (lo + n)) ((ob).length : Int) := ⟨_, rfl⟩; rw [← hhi] at hcc; by_cases q0 : 0 ≤ lo; (case neg => rw [if_neg q0] at hcc; cases hcc); rw [if_pos q0] at hcc; by_cases q1 : lo ≤ hi; (case neg => rw [if_neg q1] at hcc; cases hcc); rw [if_pos q1] at hcc; have q2 : hi ≤ ((ob).length : Int) := (by omega); have hr := (Prod.mk.inj (Option.some.inj hcc)).1; obtain rfl := (Prod.mk.inj (Option.some.inj hcc)).2; have hlr : r.length = hi.toNat - lo.toNat := (by rw [← hr, List.length_drop, List.length_take]; omega); obtain ⟨i0, hi0, _, hsz, _⟩ := info_parts info5; have HRc := (Kd.R_reads' HR4.out).2.1; have hcut := cut_mid (P := Try.prog) 22 5 .i64 .i64 Try.underlying22 hi0 1 hsz Aw (ob).length cw lo hi q0 q1 q2 HRc; have hF5 := Kd.F_mid (lo := lo.toNat) (hi := hi.toNat) (c := cw) (Kd.R_F HR4.out) (by omega) (by omega) HRc; rw [hr] at hF5; obtain ⟨A5, hA5⟩ : ∃ A1, A1 = (if cw = lo.toNat then Aw else (Aw : Option Addr).map (·.add (lo.toNat * 1))) := ⟨_, rfl⟩; obtain ⟨c5, hc5⟩ : ∃ c1, c1 = cw - lo.toNat := ⟨_, rfl⟩; replace hF5 : Kd.F (Kd.int .u8) _ _ A5 r.length r := (by rw [hA5]; exact hF5); rw [← hlr, ← hA5, ← hc5] at hcut; have HC5 : Aside0 (r.length ≤ c5) := ⟨by omega⟩; have HF5 := Aside0.mk hF5; have hmn : (if ((ob).length : Int) < wrap64 (at_ - wrap64 (wrap64 (Int.tdiv at_ u) * u)) then ((ob).length : Int) else wrap64 (at_ - wrap64 (wrap64 (Int.tdiv at_ u) * u))) = lo := (by rw [hlo]; split <;> omega); have hmx : (if ((ob).length : Int) < wrap64 (lo + n) then ((ob).length : Int) else wrap64 (lo + n)) = hi := (by rw [hhi]; split <;> omega); clear hlo hhi hcc hr hlr hF5 hA5 hc5 q0 q1 q2))
            go_ret
            exact ⟨_, _, rfl, _, _, HS4.out.bG, Kd.F_mono HF4.out (fun k hk => hk.1), HC3.out, Kd.F_mono HF5.out (fun k hk => by have := HGw.out; have h9 : w.heap.size < k := hk; omega), HC5.out, HS4.out.K, HS4.out.B⟩
          · rw [if_neg h5] at h4
            have H4 := Aside0.mk h4
            clear h4
            have h5b : decide ((rb.length : Int) < u) = false := decide_eq_false h5
            go_wp2_with (first | (go_at_call 68; refine (impl_fetch.calls (fun k => some k ≠ (Value.slice Av out.length cv).ownBlock) k u s li f kk most rb rl G Ai ci Af cf w0 wr HS.out.B HG0.out HS.out.bG HF.out HCi.out (Kd.F_mono HFf.out (fun k hk => hk.1)) HCf.out H1.out).mono ?_; rintro e w3 ⟨B3, cb3, A3, c3, rfl, hg3, hF3, hc3, hFb3, hcb3, hK3, hB3⟩; have hlt := Kd.R_lt HR.out; have HS3 : Aside0 (Rd w0 w w3 G u s (.slice A3 rl.length c3) (.slice Af f.length cf)) := ⟨⟨hB3, HS.out.K.then_ hK3 (fun k hk => .inl hk), hg3, blk_kept HS.out.bf hK3 (by have := HGw.out; omega)⟩⟩; have HR3 := Aside0.mk (Kd.R_kept HR.out hK3 (fun k hk e => by have := HGw.out; omega)); have HF3 := Aside0.mk (Kd.F_mono (ok' := fun k => k ≠ G ∧ some k ≠ (Value.slice Av out.length cv).ownBlock) hF3 (fun k hk => ⟨hk.1, fun e => hk.2.elim (fun hp => hp e) (fun hl => by have := hlt k e.symm; omega)⟩)); have HFf3 := Aside0.mk (Kd.F_kept HFf.out hK3 (fun k hk e => hk.1 e)); have HC3 := Aside0.mk hc3; have HFb3 := Aside0.mk (Kd.F_now hFb3); clear hg3 hF3 hc3 hFb3 hK3 hB3 hlt z0 z1 z2 zf; obtain ⟨⟨z0, z1, z2⟩, _⟩ := cells3 HS3.out.bG) | (at_builtin; refine Kd.R_append_row (Value.int .u8) (0 : Int) (h1 := fun _ => rfl) (w0 := w0) w0.heap.size rfl _ _ 22 5 (.int .u8 0) 1 rfl Try.underlying22 info5 rfl (by decide) (.slice Av out.length cv) out rb _ _ _ (fun k => w.heap.size < k) rfl rfl (fun k hk => Nat.lt_of_lt_of_le (blk_lt HS3.out.bf) hk) HR3.out HFb3.out HS3.out.B (Nat.le_trans HW.out HS3.out.K.1) (by omega) ?_; intro v4 w4 hR4 _ hg4 hat4; have HO := Aside0.mk (fun k hk => HR3.out.1 k hk); have HS4 := Aside0.mk (HS3.out.grown HW.out hg4 HO.out HGw.out); obtain ⟨Aw, cw, rfl⟩ := Kd.R_slice hR4; rw [List.length_append] at hR4 hat4; have HR4 := Aside0.mk hR4; have HF4 := Aside0.mk (Kd.F_after HF3.out hg4 hat4); have HFf4 := Aside0.mk (Kd.F_grown HFf3.out hg4 (fun k hk e => by have := HO.out k e.symm; have := hk.2; omega)); clear z0 z1 z2; obtain ⟨⟨z0, z1, z2⟩, _⟩ := cells3 HS4.out.bG; clear hR4 hg4 hat4))
            go_roundg k1
            case measure => omega
            case rel => exact ⟨_, out ++ rb, rl, A3, c3, by first | rfl | go_num, H4, HS4, HR4, HF4, HC3, HFf4⟩
        · have : (none : Option (List Int × List S80)) = some (ob, lb) := by rw [← h2]; exact (if_neg h3).symm
          cases this
      · rw [if_neg hk] at hl
        have hkb : decide (kk ≤ wrap64 (Int.tdiv (wrap64 (wrap64 (at_ + n) - 1)) u)) = false := decide_eq_false hk
        obtain ⟨rfl, rfl⟩ : out = ob ∧ li = lb := by simpa using hl
        clear hl
        have hcc := HCUT.out
        dsimp only [impl_read.cut] at hcc
        obtain ⟨lo, hlo⟩ : ∃ lo, lo = min (wrap64 (at_ - wrap64 (wrap64 (Int.tdiv at_ u) * u))) ((out).length : Int) := ⟨_, rfl⟩
        rw [← hlo] at hcc
        obtain ⟨hi, hhi⟩ : ∃ hi, hi = min (wrap64 (lo + n)) ((out).length : Int) := ⟨_, rfl⟩
        rw [← hhi] at hcc
        by_cases q0 : 0 ≤ lo
        case neg => rw [if_neg q0] at hcc; cases hcc
        rw [if_pos q0] at hcc
        by_cases q1 : lo ≤ hi
        case neg => rw [if_neg q1] at hcc; cases hcc
        rw [if_pos q1] at hcc
        have q2 : hi ≤ ((out).length : Int) := (by omega)
        have hr := (Prod.mk.inj (Option.some.inj hcc)).1
        obtain rfl := (Prod.mk.inj (Option.some.inj hcc)).2
        have hlr : r.length = hi.toNat - lo.toNat := (by rw [← hr, List.length_drop, List.length_take]; omega)
        obtain ⟨i0, hi0, _, hsz, _⟩ := info_parts info5
        have HRc := (Kd.R_reads' HR.out).2.1
        have hcut := cut_mid (P := Try.prog) 22 5 .i64 .i64 Try.underlying22 hi0 1 hsz Av (out).length cv lo hi q0 q1 q2 HRc
        have hF5 := Kd.F_mid (lo := lo.toNat) (hi := hi.toNat) (c := cv) (Kd.R_F HR.out) (by omega) (by omega) HRc
        rw [hr] at hF5
        obtain ⟨A5, hA5⟩ : ∃ A1, A1 = (if cv = lo.toNat then Av else (Av : Option Addr).map (·.add (lo.toNat * 1))) := ⟨_, rfl⟩
        obtain ⟨c5, hc5⟩ : ∃ c1, c1 = cv - lo.toNat := ⟨_, rfl⟩
        replace hF5 : Kd.F (Kd.int .u8) _ _ A5 r.length r := (by rw [hA5]; exact hF5)
        rw [← hlr, ← hA5, ← hc5] at hcut
        have HC5 : Aside0 (r.length ≤ c5) := ⟨by omega⟩
        have HF5 := Aside0.mk hF5
        have hmn : (if ((out).length : Int) < wrap64 (at_ - wrap64 (wrap64 (Int.tdiv at_ u) * u)) then ((out).length : Int) else wrap64 (at_ - wrap64 (wrap64 (Int.tdiv at_ u) * u))) = lo := (by rw [hlo]; split <;> omega)
        have hmx : (if ((out).length : Int) < wrap64 (lo + n) then ((out).length : Int) else wrap64 (lo + n)) = hi := (by rw [hhi]; split <;> omega)
        clear hlo hhi hcc hr hlr hF5 hA5 hc5 q0 q1 q2
        go_wp2
        go_ret
        exact ⟨_, _, rfl, _, _, HS.out.bG, Kd.F_mono HF.out (fun k hk => hk.1), HCi.out, Kd.F_mono HF5.out (fun k hk => by have := HGw.out; have h9 : w.heap.size < k := hk; omega), HC5.out, HS.out.K, HS.out.B⟩
end Go.Proofs.Ytkocconggohdgaa.PFnExactReadRange
