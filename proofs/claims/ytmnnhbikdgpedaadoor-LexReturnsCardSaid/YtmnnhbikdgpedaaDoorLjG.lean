/- The reference's single, apart and spaced have contracts in plain words. -/
import Derived.Test.YtmnnhbikdgpedaaDoorLjC
import Derived.Test.YtmnnhbikdgpedaaDoorLjR
import Derived.Test.YtmnnhbikdgpedaaDoorLxU
namespace Go.Proofs.YtmnnhbikdgpedaaDoor.Lx
open Go.RowKit Go.Proofs.YtmnnhbikdgpedaaDoorW.PrintWords Go.Proofs.YtmnnhbikdgpedaaDoorW.PrintLast Go.Proofs.YtmnnhbikdgpedaaDoorW.PrintMore
open Go.Proofs.YtmnnhbikdgpedaaDoor.PLexTokens
set_option linter.unusedVariables false
set_option linter.unusedSimpArgs false

theorem row_at61 {w : World} {base : Nat} {ok : Nat → Prop} {v : Value} {N : List S61} (h : Kd.R k61 61 w base ok v N) (h0 : 0 < N.length) : ∃ g c, v = .slice (some ⟨g, 0, none⟩) N.length c ∧ base ≤ g ∧ g < w.heap.size ∧ ∀ (j : Nat) (hj : j < N.length), w.cell? ⟨g, 3 * j, none⟩ = some (.int .i64 N[j].f0) ∧ w.cell? ⟨g, 3 * j + 1, none⟩ = some (.string N[j].f1) ∧ w.cell? ⟨g, 3 * j + 2, none⟩ = some (.int .i64 N[j].f2) := by
  obtain ⟨A, c, hv, _, hC⟩ := Kd.R_reads h
  subst hv
  obtain ⟨_, inner, hown, _⟩ := h
  obtain ⟨g, cap, hA, hgb, _⟩ := hown.form (by omega)
  injection hA with hA1 hA2 hA3
  subst hA1
  have ha : ∀ j, (⟨g, 0, none⟩ : Addr).add j = ⟨g, j, none⟩ := fun j => by unfold Addr.add; split <;> simp_all
  refine ⟨g, c, rfl, hgb, (hown.lt g rfl).2, fun j hj => ?_⟩
  obtain ⟨ad, e, c0, c1, c2⟩ := at_T61 hC (j : Int) (Int.natCast_nonneg _) (by omega)
  cases e
  have e1 : rd_T61 N (j : Int) = N[j] := by rw [rd_T61, Int.toNat_natCast, List.getD_eq_getElem?_getD, List.getElem?_eq_getElem hj, Option.getD_some]
  rw [e1, Int.toNat_natCast, ha, show j * 3 = 3 * j by omega] at c0 c1 c2
  exact ⟨c0, c1, c2⟩

/-- What the reference's single says. -/
def singleN (er : Int) (N : List S61) (k : Int) (t : ByteArray) : Bool :=
  (er == 0) && (match N with
    | [z] => (z.f0 == k) && (z.f1.toList == t.toList)
    | _ => false)
theorem singleN_er (er : Int) (N : List S61) (k : Int) (t : ByteArray) (h : (er == 0) = false) : singleN er N k t = false := by
  unfold singleN; rw [h]; rfl
theorem singleN_len (er : Int) (N : List S61) (k : Int) (t : ByteArray) (h : ¬ N.length = 1) : singleN er N k t = false := by
  unfold singleN
  cases N with
  | nil => simp
  | cons z N =>
    cases N with
    | nil => exact absurd rfl h
    | cons y N => simp
def singleB (k : Int) (t : ByteArray) : Bool := singleN (tokRes t).2.2 ((tokRes t).1.map (toS t)) k t

set_option maxHeartbeats 4000000 in
set_option maxRecDepth 100000 in
theorem single_calls (k : Int) (t : ByteArray) (a : Int) (w : World) :
    Calls Tryd.prog 47 #[.agg #[.int .i64 k, .string t, .int .i64 a]] w fun e w' => e = .returned (.bool (singleB k t)) ∧ Below w.heap.size w w' := by
  have HB := Aside0.mk (Below.refl w.heap.size w)
  have HT := Aside0.mk (fun w => entailref03_Tokens.calls _ t _ _ _ w (tokens_f t (2 * t.size + 302) (by omega)))
  unfold singleB
  generalize (tokRes t).1.map (toS t) = N at *
  generalize (tokRes t).2.1 = pl at *
  generalize (tokRes t).2.2 = er at *
  by_cases he : er = 0
  · by_cases hn : N.length = 1
    · obtain ⟨z, rfl⟩ : ∃ z, N = [z] := List.length_eq_one_iff.mp hn
      rw [show singleN er [z] k t = ((z.f0 == k) && (z.f1.toList == t.toList)) by rw [singleN, he]; simp]
      subst he
      clear hn
      cases h1 : (z.f0 == k)
      · clear HB
        have HB := Aside0.mk (Below.refl w.heap.size w)
        go_enter Tryd.func47, Tryd.ntmps47
        go_wp2_with (first | (go_at_call 9; go_loud ((with_reducible refine (HT.out _).mono ?_); rintro e w1 ⟨v1, rfl, hR1, hb1⟩; obtain ⟨g, m1, hv1, _, hgl, hcc⟩ := row_at61 hR1 (Nat.succ_pos 0); subst hv1; obtain ⟨p0, p1, _⟩ := hcc 0 (Nat.succ_pos 0); have p0 : w1.cell? ⟨g, 0, none⟩ = some (.int .i64 z.f0) := p0; have p1 : w1.cell? ⟨g, 1, none⟩ = some (.string z.f1) := p1; obtain ⟨hc1, hf1⟩ := bcell hb1; have z1 : w.heap.size < w1.heap.size := Nat.lt_of_lt_of_le (by simp) hb1.size; have r0 : w1.cell? ⟨w.heap.size, 0, none⟩ = some (.int .i64 k) := (hc1 w.heap.size 0 (by simp)).trans (by simp [go_sem, *]); have r1 : w1.cell? ⟨w.heap.size, 1, none⟩ = some (.string t) := (hc1 w.heap.size 1 (by simp)).trans (by simp [go_sem, *]); have HB1 : Aside0 (Below w.heap.size w w1) := ⟨below_step (by repeat (first | (with_reducible exact HB.out) | (with_reducible exact Below.refl _ _) | (with_reducible apply below_alloc) | (with_reducible apply pw_below_drewN) | (with_reducible apply below_drew1) | refine below_set ?_ (by omega))) hb1⟩; clear hR1 HB hc1 hf1 hcc hb1)))
        go_quiet (fail)
        all_goals
          try go_wp2
          go_ret
          exact ⟨rfl, by repeat (first | exact HB1.out | apply below_drew1 | apply pw_below_drewN)⟩
      · cases h2 : (z.f1.toList == t.toList)
        all_goals
          go_enter Tryd.func47, Tryd.ntmps47
          go_wp2_with (first | (go_at_call 9; go_loud ((with_reducible refine (HT.out _).mono ?_); rintro e w1 ⟨v1, rfl, hR1, hb1⟩; obtain ⟨g, m1, hv1, _, hgl, hcc⟩ := row_at61 hR1 (Nat.succ_pos 0); subst hv1; obtain ⟨p0, p1, _⟩ := hcc 0 (Nat.succ_pos 0); have p0 : w1.cell? ⟨g, 0, none⟩ = some (.int .i64 z.f0) := p0; have p1 : w1.cell? ⟨g, 1, none⟩ = some (.string z.f1) := p1; obtain ⟨hc1, hf1⟩ := bcell hb1; have z1 : w.heap.size < w1.heap.size := Nat.lt_of_lt_of_le (by simp) hb1.size; have r0 : w1.cell? ⟨w.heap.size, 0, none⟩ = some (.int .i64 k) := (hc1 w.heap.size 0 (by simp)).trans (by simp [go_sem, *]); have r1 : w1.cell? ⟨w.heap.size, 1, none⟩ = some (.string t) := (hc1 w.heap.size 1 (by simp)).trans (by simp [go_sem, *]); have HB1 : Aside0 (Below w.heap.size w w1) := ⟨below_step (by repeat (first | (with_reducible exact HB.out) | (with_reducible exact Below.refl _ _) | (with_reducible apply below_alloc) | (with_reducible apply pw_below_drewN) | (with_reducible apply below_drew1) | refine below_set ?_ (by omega))) hb1⟩; clear hR1 HB hc1 hf1 hcc hb1)))
          go_quiet (fail)
          all_goals
            try go_wp2
            go_ret
            exact ⟨rfl, by repeat (first | exact HB1.out | apply below_drew1 | apply pw_below_drewN)⟩
    · rw [singleN_len er N k t hn]
      subst he
      have d4 : ((N.length : Int) == 1) = false := by simp; omega
      have d5 : (N.length == 1) = false := by simpa using hn
      have d6 : ((N.length : Int) = 1) = False := eq_false (by omega)
      have d7 : (N.length = 1) = False := eq_false hn
      clear hn
      go_enter Tryd.func47, Tryd.ntmps47
      go_wp2_with (first | (go_at_call 9; go_loud ((with_reducible refine (HT.out _).mono ?_); rintro e w1 ⟨v1, rfl, hR1, hb1⟩; obtain ⟨A1, m1, hv1, _, hC1⟩ := Kd.R_reads hR1; subst hv1; obtain ⟨hc1, hf1⟩ := bcell hb1; have z1 : w.heap.size < w1.heap.size := Nat.lt_of_lt_of_le (by simp) hb1.size; have r0 : w1.cell? ⟨w.heap.size, 0, none⟩ = some (.int .i64 k) := (hc1 w.heap.size 0 (by simp)).trans (by simp [go_sem, *]); have r1 : w1.cell? ⟨w.heap.size, 1, none⟩ = some (.string t) := (hc1 w.heap.size 1 (by simp)).trans (by simp [go_sem, *]); have HB1 : Aside0 (Below w.heap.size w w1) := ⟨below_step (by repeat (first | (with_reducible exact HB.out) | (with_reducible exact Below.refl _ _) | (with_reducible apply below_alloc) | (with_reducible apply pw_below_drewN) | (with_reducible apply below_drew1) | refine below_set ?_ (by omega))) hb1⟩; clear hR1 HB hc1 hf1 hC1 hb1)))
      go_quiet (fail)
      all_goals
        try go_wp2
        go_ret
        exact ⟨rfl, by repeat (first | exact HB1.out | apply below_drew1 | apply pw_below_drewN)⟩
  · have e1 : (er == 0) = false := by simpa using he
    rw [singleN_er er N k t e1]
    clear he
    go_enter Tryd.func47, Tryd.ntmps47
    go_wp2_with (first | (go_at_call 9; go_loud ((with_reducible refine (HT.out _).mono ?_); rintro e w1 ⟨v1, rfl, hR1, hb1⟩; obtain ⟨A1, m1, hv1, _, hC1⟩ := Kd.R_reads hR1; subst hv1; obtain ⟨hc1, hf1⟩ := bcell hb1; have z1 : w.heap.size < w1.heap.size := Nat.lt_of_lt_of_le (by simp) hb1.size; have r0 : w1.cell? ⟨w.heap.size, 0, none⟩ = some (.int .i64 k) := (hc1 w.heap.size 0 (by simp)).trans (by simp [go_sem, *]); have r1 : w1.cell? ⟨w.heap.size, 1, none⟩ = some (.string t) := (hc1 w.heap.size 1 (by simp)).trans (by simp [go_sem, *]); have HB1 : Aside0 (Below w.heap.size w w1) := ⟨below_step (by repeat (first | (with_reducible exact HB.out) | (with_reducible exact Below.refl _ _) | (with_reducible apply below_alloc) | (with_reducible apply pw_below_drewN) | (with_reducible apply below_drew1) | refine below_set ?_ (by omega))) hb1⟩; clear hR1 HB hc1 hf1 hC1 hb1)))
    go_quiet (fail)
    all_goals
      try go_wp2
      go_ret
      exact ⟨rfl, by repeat (first | exact HB1.out | apply below_drew1 | apply pw_below_drewN)⟩
end Go.Proofs.YtmnnhbikdgpedaaDoor.Lx
