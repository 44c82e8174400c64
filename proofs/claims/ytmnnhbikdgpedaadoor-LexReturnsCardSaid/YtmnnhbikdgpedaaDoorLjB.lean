/- lex.Token's bare and check have their contracts. -/
import Derived.Test.YtmnnhbikdgpedaaDoorLjA
import Derived.Test.YtmnnhbikdgpedaaDoorRf2
import Derived.Laws.StructEq
namespace Go.Proofs.YtmnnhbikdgpedaaDoor.Lx
open Go.RowKit Go.Proofs.YtmnnhbikdgpedaaDoorW.PrintWords Go.Proofs.YtmnnhbikdgpedaaDoorW.PrintLast Go.Proofs.YtmnnhbikdgpedaaDoorW.PrintMore
open Go.Proofs.YtmnnhbikdgpedaaDoor.PLexTokens
set_option linter.unusedVariables false
set_option linter.unusedSimpArgs false

set_option maxRecDepth 20000 in
theorem bare_calls (k a : Int) (t : ByteArray) (w : World) :
    Calls Tryd.prog 83 #[.agg #[.int .i64 k, .string t, .int .i64 a]] w fun e w' => e = .returned (.agg #[.int .i64 k, .string t, .int .i64 0]) ∧ Below w.heap.size w w' := by
  go_enter Tryd.func83, Tryd.ntmps83
  go_wp2
  refine bodyPost_ret (v := .agg #[.int .i64 k, .string t, .int .i64 0]) (by simp [results, Tryd.results83, go_sem, *]; done) rfl ?_
  exact ⟨rfl, by repeat (first | exact Below.refl _ _ | apply below_alloc | apply pw_below_drewN | refine below_set ?_ (by simp))⟩

theorem when_calls (b : Bool) (n : Int) (w : World) : Calls Tryd.prog 56 #[.bool b, .int .i64 n] w fun e w' => e = .returned (.int .i64 (if b = true then n else 0)) ∧ Below w.heap.size w w' := by
  refine (lex_when.calls b n (if b = true then n else 0) w (by unfold lex_when.f; split <;> rfl)).mono ?_
  rintro e w' ⟨rfl, ⟨nd, rfl⟩⟩
  exact ⟨rfl, pw_below_drewN (Below.refl _ _) nd⟩

theorem when_quiet (w : World) : Calls Tryd.prog 56 #[.bool true, .int .i64 1] w fun e w' => e = .returned (.int .i64 1) ∧ ∃ m, w' = w.drewN m := by
  refine (lex_when.calls true 1 1 w rfl).mono ?_
  rintro e w' ⟨rfl, ⟨nd, hnd⟩⟩
  exact ⟨rfl, nd, hnd⟩

theorem cells_three (s : ByteArray) : ∀ (xs : List (Tok × Nat)) (k : Nat) (h : k < xs.length), (cellsOf s xs)[3 * k]? = some (.int .i64 (xs[k]).1.kind) ∧ (cellsOf s xs)[3 * k + 1]? = some (.string (s.extract (xs[k]).2 (xs[k]).1.fin)) ∧ (cellsOf s xs)[3 * k + 2]? = some (.int .i64 (xs[k]).2)
  | [], k, h => by simp at h
  | x :: xs, 0, h => by simp [cellsOf]
  | x :: xs, k + 1, h => by
    have h2 : k < xs.length := by simpa using h
    have ih := cells_three s xs k h2
    have e : cellsOf s (x :: xs) = [.int .i64 x.1.kind, .string (s.extract x.2 x.1.fin), .int .i64 x.2] ++ cellsOf s xs := by simp [cellsOf]
    rw [e]
    simp only [List.getElem_cons_succ]
    rw [List.getElem?_append_right (by simp; omega), List.getElem?_append_right (by simp; omega), List.getElem?_append_right (by simp; omega)]
    simp only [List.length_cons, List.length_nil]
    rw [show 3 * (k + 1) - (0 + 1 + 1 + 1) = 3 * k by omega, show 3 * (k + 1) + 1 - (0 + 1 + 1 + 1) = 3 * k + 1 by omega, show 3 * (k + 1) + 2 - (0 + 1 + 1 + 1) = 3 * k + 2 by omega]
    exact ih

/-- A token's cells in a row of tokens. -/
theorem row_at {w : World} {base : Nat} {v : Value} {s : ByteArray} {xs : List (Tok × Nat)} (h : w.ownsRow base 49 3 v xs.length (cellsOf s xs)) (h0 : 0 < xs.length) : ∃ g c, v = .slice (some ⟨g, 0, none⟩) xs.length c ∧ base ≤ g ∧ g < w.heap.size ∧ ∀ (j : Nat) (hj : j < xs.length), w.cell? ⟨g, 3 * j, none⟩ = some (.int .i64 xs[j].1.kind) ∧ w.cell? ⟨g, 3 * j + 1, none⟩ = some (.string (s.extract xs[j].2 xs[j].1.fin)) ∧ w.cell? ⟨g, 3 * j + 2, none⟩ = some (.int .i64 xs[j].2) := by
  obtain ⟨A, c, hv⟩ := own_slice h
  subst hv
  obtain ⟨g, cap, hA, hgb, _⟩ := h.form (by omega)
  injection hA with hA1 hA2 hA3
  subst hA1
  have hc := h.cells (g := g) rfl
  have ha : ∀ j, (⟨g, 0, none⟩ : Addr).add j = ⟨g, j, none⟩ := fun j => by unfold Addr.add; split <;> simp_all
  refine ⟨g, c, rfl, hgb, (h.lt g rfl).2, fun j hj => ?_⟩
  obtain ⟨c0, c1, c2⟩ := cells_three s xs j hj
  refine ⟨?_, ?_, ?_⟩
  · rw [← ha]; exact hc _ _ c0
  · rw [← ha]; exact hc _ _ c1
  · rw [← ha]; exact hc _ _ c2

/-- Two tokens compared. -/
theorem eqA49 (d : Nat) (w : World) (x0 y0 : Int) (x1 y1 : ByteArray) (x2 y2 : Int) :
    (Op.equalIn (d + 2) 49 (.agg #[.int .i64 x0, .string x1, .int .i64 x2]) (.agg #[.int .i64 y0, .string y1, .int .i64 y2])).run Tryd.prog w = .ok (x0 == y0 && (x1.toList == y1.toList && (x2 == y2))) w := by
  refine eqA_of Tryd.underlying49 (by kernel_rfl) ?_
  refine eqf_cons (by rfl) (by go_simp; rfl) (by go_simp; rfl) (by go_simp) ?_
  refine eqf_cons (by rfl) (by go_simp; rfl) (by go_simp; rfl) (by go_simp) ?_
  exact eqf_last (by rfl) (by go_simp; rfl) (by go_simp; rfl) (by go_simp)

/-- Whether a token that was read is this one, but for the place. -/
def sameTok (s : ByteArray) (x : Tok × Nat) (k : Int) (t : ByteArray) : Bool := (x.1.kind == k) && ((s.extract x.2 x.1.fin).toList == t.toList)
def checkB (k : Int) (t : ByteArray) : Int :=
  if k < 0 ∨ 4 < k then 11 else if 65536 < t.size then 1
  else match aloneB t with
    | [x] => if sameTok t x k t = true then 0 else 1
    | _ => 1

set_option maxHeartbeats 8000000 in
set_option maxRecDepth 100000 in
theorem check_calls (k a : Int) (t : ByteArray) (hs : t.size ≤ 70000) (w : World) (hE : Env w) :
    Calls Tryd.prog 49 #[.agg #[.int .i64 k, .string t, .int .i64 a]] w fun e w' => e = .returned (.int .i64 (checkB k t)) ∧ Below w.heap.size w w' := by
  have HE := Aside0.mk hE
  have HB := Aside0.mk (Below.refl w.heap.size w)
  by_cases h1 : k < 0
  · have d1 : decide (k < 0) = true := by simpa using h1
    have hr : checkB k t = 11 := by rw [checkB, if_pos (.inl h1)]
    rw [hr]
    clear h1 hr
    go_enter Tryd.func49, Tryd.ntmps49
    go_wp2
    go_ret
    exact ⟨rfl, (by repeat (first | (with_reducible exact HB.out) | (with_reducible exact Below.refl _ _) | (with_reducible apply below_alloc) | (with_reducible apply pw_below_drewN) | (with_reducible apply below_drew1) | refine below_set ?_ (by omega)))⟩
  have d1 : decide (k < 0) = false := by simpa using h1
  by_cases h2 : 4 < k
  · have d2 : decide (4 < k) = true := by simpa using h2
    have hr : checkB k t = 11 := by rw [checkB, if_pos (.inr h2)]
    rw [hr]
    clear h1 h2 hr
    go_enter Tryd.func49, Tryd.ntmps49
    go_wp2
    go_ret
    exact ⟨rfl, (by repeat (first | (with_reducible exact HB.out) | (with_reducible exact Below.refl _ _) | (with_reducible apply below_alloc) | (with_reducible apply pw_below_drewN) | (with_reducible apply below_drew1) | refine below_set ?_ (by omega)))⟩
  have d2 : decide (4 < k) = false := by simpa using h2
  by_cases h3 : 65536 < t.size
  · have d3 : decide (65536 < (t.size : Int)) = true := by simp; omega
    have hr : checkB k t = 1 := by rw [checkB, if_neg (by omega), if_pos h3]
    rw [hr]
    clear h1 h2 h3 hr
    go_enter Tryd.func49, Tryd.ntmps49
    go_wp2
    go_ret
    exact ⟨rfl, (by repeat (first | (with_reducible exact HB.out) | (with_reducible exact Below.refl _ _) | (with_reducible apply below_alloc) | (with_reducible apply pw_below_drewN) | (with_reducible apply below_drew1) | refine below_set ?_ (by omega)))⟩
  have d3 : decide (65536 < (t.size : Int)) = false := by simp; omega
  have hA := Aside0.mk (fun w hE => alone_calls t hs w hE)
  have hchk : checkB k t = match aloneB t with
    | [x] => if sameTok t x k t = true then 0 else 1
    | _ => 1 := by rw [checkB, if_neg (by omega), if_neg h3]
  have mixed : Tryd.prog.follows .mixedOrders = true := by kernel_rfl
  by_cases hone : (aloneB t).length = 1
  · obtain ⟨x, hx⟩ : ∃ x, aloneB t = [x] := List.length_eq_one_iff.mp hone
    have hr : checkB k t = if sameTok t x k t = true then 0 else 1 := by rw [hchk, hx]
    rw [hr]
    rw [hx] at hA
    have heq : ∀ w, (Op.equalIn 10000 49 (.agg #[.int .i64 x.1.kind, .string (t.extract x.2 x.1.fin), .int .i64 0]) (.agg #[.int .i64 k, .string t, .int .i64 0])).run Tryd.prog w = .ok (sameTok t x k t) w := fun w => by
      rw [eqA49 9998]; simp [sameTok]
    have HU : ∃ u, u = t.extract x.2 x.1.fin := ⟨_, rfl⟩
    obtain ⟨u, hu⟩ := HU
    rw [← hu] at heq
    have hU := Aside0.mk hu
    clear h1 h2 h3 hchk hr hone hx hu
    generalize sameTok t x k t = b at *
    cases b
    · go_enter Tryd.func49, Tryd.ntmps49
      go_wp2_with (first | (go_at_call 82; ((with_reducible refine (hA.out _ (HE.out.below (by repeat (first | (with_reducible exact HB.out) | (with_reducible exact Below.refl _ _) | (with_reducible apply below_alloc) | (with_reducible apply pw_below_drewN) | (with_reducible apply below_drew1) | refine below_set ?_ (by omega))))).mono ?_); rintro e w1 ⟨v1, rfl, hR1, hb1⟩; obtain ⟨g, k1, hv1, hgb, hgl, hcc⟩ := row_at hR1 (Nat.succ_pos 0); subst hv1; obtain ⟨q0, q1, q2⟩ := hcc 0 (Nat.succ_pos 0); have p0 : w1.cell? ⟨g, 0, none⟩ = some (.int .i64 x.1.kind) := q0; have p1 : w1.cell? ⟨g, 1, none⟩ = some (.string u) := q1.trans (by rw [hU.out]; rfl); have p2 : w1.cell? ⟨g, 2, none⟩ = some (.int .i64 x.2) := q2; obtain ⟨hc1, hf1⟩ := bcell hb1; have z1 : w.heap.size < w1.heap.size := Nat.lt_of_lt_of_le (by simp) hb1.size; have r0 : w1.cell? ⟨w.heap.size, 0, none⟩ = some (.int .i64 k) := (hc1 w.heap.size 0 (by simp)).trans (by simp [go_sem]); have r1 : w1.cell? ⟨w.heap.size, 1, none⟩ = some (.string t) := (hc1 w.heap.size 1 (by simp)).trans (by simp [go_sem]); have r2 : w1.cell? ⟨w.heap.size, 2, none⟩ = some (.int .i64 a) := (hc1 w.heap.size 2 (by simp)).trans (by simp [go_sem]); have HB1 : Aside0 (Below w.heap.size w w1) := ⟨below_step (by repeat (first | (with_reducible exact HB.out) | (with_reducible exact Below.refl _ _) | (with_reducible apply below_alloc) | (with_reducible apply pw_below_drewN) | (with_reducible apply below_drew1) | refine below_set ?_ (by omega))) hb1⟩; clear hR1 HB hcc q0 q1 q2 hc1 hf1)))
      go_region_with_o (first | (go_at_call 83; ((with_reducible refine (bare_calls x.1.kind x.2 u _).mono ?_); rintro e w3 ⟨rfl, hb3⟩; obtain ⟨hc3, hf3⟩ := bcell hb3; have s0 : w3.cell? ⟨w.heap.size, 0, none⟩ = some (.int .i64 k) := (hc3 w.heap.size 0 (by simpa using z1)).trans (by simp [go_sem, *]); have s1 : w3.cell? ⟨w.heap.size, 1, none⟩ = some (.string t) := (hc3 w.heap.size 1 (by simpa using z1)).trans (by simp [go_sem, *]); have s2 : w3.cell? ⟨w.heap.size, 2, none⟩ = some (.int .i64 a) := (hc3 w.heap.size 2 (by simpa using z1)).trans (by simp [go_sem, *]); clear hc3 hf3; have HB1 : Aside0 (Below w.heap.size w w3) := ⟨below_step (by repeat (first | exact HB1.out | apply below_drew1 | apply pw_below_drewN)) hb3⟩)) | (go_at_call 83; ((with_reducible refine (bare_calls k a t _).mono ?_); rintro e w4 ⟨rfl, hb4⟩; obtain ⟨hc4, hf4⟩ := bcell hb4; have HB1 : Aside0 (Below w.heap.size w w4) := ⟨below_step (by repeat (first | exact HB1.out | apply below_drew1 | apply pw_below_drewN)) hb4⟩)) | (go_at_call 56; ((with_reducible refine (when_calls _ _ _).mono ?_); rintro e w2 ⟨rfl, hb2⟩; have HB2 : Aside0 (Below w.heap.size w w2) := ⟨below_step (by repeat (first | exact HB1.out | apply below_drew1 | apply pw_below_drewN)) hb2⟩)))
      all_goals
        try go_wp2
        go_ret
        exact ⟨rfl, HB2.out⟩
    · go_enter Tryd.func49, Tryd.ntmps49
      go_wp2_with (first | (go_at_call 82; ((with_reducible refine (hA.out _ (HE.out.below (by repeat (first | (with_reducible exact HB.out) | (with_reducible exact Below.refl _ _) | (with_reducible apply below_alloc) | (with_reducible apply pw_below_drewN) | (with_reducible apply below_drew1) | refine below_set ?_ (by omega))))).mono ?_); rintro e w1 ⟨v1, rfl, hR1, hb1⟩; obtain ⟨g, k1, hv1, hgb, hgl, hcc⟩ := row_at hR1 (Nat.succ_pos 0); subst hv1; obtain ⟨q0, q1, q2⟩ := hcc 0 (Nat.succ_pos 0); have p0 : w1.cell? ⟨g, 0, none⟩ = some (.int .i64 x.1.kind) := q0; have p1 : w1.cell? ⟨g, 1, none⟩ = some (.string u) := q1.trans (by rw [hU.out]; rfl); have p2 : w1.cell? ⟨g, 2, none⟩ = some (.int .i64 x.2) := q2; obtain ⟨hc1, hf1⟩ := bcell hb1; have z1 : w.heap.size < w1.heap.size := Nat.lt_of_lt_of_le (by simp) hb1.size; have r0 : w1.cell? ⟨w.heap.size, 0, none⟩ = some (.int .i64 k) := (hc1 w.heap.size 0 (by simp)).trans (by simp [go_sem]); have r1 : w1.cell? ⟨w.heap.size, 1, none⟩ = some (.string t) := (hc1 w.heap.size 1 (by simp)).trans (by simp [go_sem]); have r2 : w1.cell? ⟨w.heap.size, 2, none⟩ = some (.int .i64 a) := (hc1 w.heap.size 2 (by simp)).trans (by simp [go_sem]); have HB1 : Aside0 (Below w.heap.size w w1) := ⟨below_step (by repeat (first | (with_reducible exact HB.out) | (with_reducible exact Below.refl _ _) | (with_reducible apply below_alloc) | (with_reducible apply pw_below_drewN) | (with_reducible apply below_drew1) | refine below_set ?_ (by omega))) hb1⟩; clear hR1 HB hcc q0 q1 q2 hc1 hf1)))
      go_region_with_o (first | (go_at_call 83; ((with_reducible refine (bare_calls x.1.kind x.2 u _).mono ?_); rintro e w3 ⟨rfl, hb3⟩; obtain ⟨hc3, hf3⟩ := bcell hb3; have s0 : w3.cell? ⟨w.heap.size, 0, none⟩ = some (.int .i64 k) := (hc3 w.heap.size 0 (by simpa using z1)).trans (by simp [go_sem, *]); have s1 : w3.cell? ⟨w.heap.size, 1, none⟩ = some (.string t) := (hc3 w.heap.size 1 (by simpa using z1)).trans (by simp [go_sem, *]); have s2 : w3.cell? ⟨w.heap.size, 2, none⟩ = some (.int .i64 a) := (hc3 w.heap.size 2 (by simpa using z1)).trans (by simp [go_sem, *]); clear hc3 hf3; have HB1 : Aside0 (Below w.heap.size w w3) := ⟨below_step (by repeat (first | exact HB1.out | apply below_drew1 | apply pw_below_drewN)) hb3⟩)) | (go_at_call 83; ((with_reducible refine (bare_calls k a t _).mono ?_); rintro e w4 ⟨rfl, hb4⟩; obtain ⟨hc4, hf4⟩ := bcell hb4; have HB1 : Aside0 (Below w.heap.size w w4) := ⟨below_step (by repeat (first | exact HB1.out | apply below_drew1 | apply pw_below_drewN)) hb4⟩)) | (go_at_call 56; ((with_reducible refine (when_calls _ _ _).mono ?_); rintro e w2 ⟨rfl, hb2⟩; have HB2 : Aside0 (Below w.heap.size w w2) := ⟨below_step (by repeat (first | exact HB1.out | apply below_drew1 | apply pw_below_drewN)) hb2⟩)))
      all_goals
        try go_wp2
        go_ret
        exact ⟨rfl, HB2.out⟩
  · have hr : checkB k t = 1 := by
      rw [hchk]
      rcases hab : aloneB t with _ | ⟨x, _ | ⟨y, L⟩⟩
      · rfl
      · rw [hab] at hone; exact absurd rfl hone
      · rfl
    rw [hr]
    have d4 : (((aloneB t).length : Int) != 1) = true := by simp; omega
    have d5 : ((aloneB t).length != 1) = true := by simpa using hone
    have d6 : (((aloneB t).length : Int) == 1) = false := by simp; omega
    have d7 : ((aloneB t).length == 1) = false := by simpa using hone
    have d8 : ((aloneB t).length = 1) = False := eq_false hone
    have d9 : (((aloneB t).length : Int) = 1) = False := eq_false (by omega)
    clear h1 h2 h3 hchk hr hone
    generalize aloneB t = Z at *
    go_enter Tryd.func49, Tryd.ntmps49
    go_wp2_with (first | (go_at_call 82; ((with_reducible refine (hA.out _ (HE.out.below (by repeat (first | (with_reducible exact HB.out) | (with_reducible exact Below.refl _ _) | (with_reducible apply below_alloc) | (with_reducible apply pw_below_drewN) | (with_reducible apply below_drew1) | refine below_set ?_ (by omega))))).mono ?_); rintro e w1 ⟨v1, rfl, hR1, hb1⟩; obtain ⟨A1, k1, hv1⟩ := own_slice hR1; subst hv1; obtain ⟨hc1, hf1⟩ := bcell hb1; have z1 : w.heap.size < w1.heap.size := Nat.lt_of_lt_of_le (by simp) hb1.size; have HB1 : Aside0 (Below w.heap.size w w1) := ⟨below_step (by repeat (first | (with_reducible exact HB.out) | (with_reducible exact Below.refl _ _) | (with_reducible apply below_alloc) | (with_reducible apply pw_below_drewN) | (with_reducible apply below_drew1) | refine below_set ?_ (by omega))) hb1⟩; have HR1 := Aside0.mk hR1; clear hR1 HB)))
    go_quiet (first | (go_at_call 56; (exact Calls.quiet_of (when_quiet _))))
    all_goals
      try go_wp2
      go_ret
      exact ⟨rfl, by repeat (first | exact HB1.out | apply below_drew1 | apply pw_below_drewN)⟩
end Go.Proofs.YtmnnhbikdgpedaaDoor.Lx
