/- The reference's apart has a contract in plain words. -/
import Derived.Test.YtmnnhbikdgpedaaDoorLjG
namespace Go.Proofs.YtmnnhbikdgpedaaDoor.Lx
open Go.RowKit Go.Proofs.YtmnnhbikdgpedaaDoorW.PrintWords Go.Proofs.YtmnnhbikdgpedaaDoorW.PrintLast Go.Proofs.YtmnnhbikdgpedaaDoorW.PrintMore
open Go.Proofs.YtmnnhbikdgpedaaDoor.PLexTokens
set_option linter.unusedVariables false
set_option linter.unusedSimpArgs false

/-- What the reference's apart says. -/
def partN (er : Int) (N : List S61) (k1 : Int) (t1 : ByteArray) (k2 : Int) (t2 : ByteArray) : Bool :=
  (er != 0) || (match N with
    | [x, y] => !((x.f1.toList == t1.toList) && (y.f1.toList == t2.toList) && (x.f0 == k1) && (y.f0 == k2))
    | _ => true)
def partB (k1 : Int) (t1 : ByteArray) (k2 : Int) (t2 : ByteArray) : Bool := partN (tokRes (t1 ++ t2)).2.2 ((tokRes (t1 ++ t2)).1.map (toS (t1 ++ t2))) k1 t1 k2 t2
theorem partN_er (er : Int) (N : List S61) (k1 : Int) (t1 : ByteArray) (k2 : Int) (t2 : ByteArray) (h : (er != 0) = true) : partN er N k1 t1 k2 t2 = true := by
  unfold partN; rw [h]; rfl
theorem partN_len (er : Int) (N : List S61) (k1 : Int) (t1 : ByteArray) (k2 : Int) (t2 : ByteArray) (h : ¬ N.length = 2) : partN er N k1 t1 k2 t2 = true := by
  unfold partN
  cases N with
  | nil => simp
  | cons x N =>
    cases N with
    | nil => simp
    | cons y N =>
      cases N with
      | nil => exact absurd rfl h
      | cons z N => simp

set_option maxHeartbeats 4000000 in
set_option maxRecDepth 100000 in
theorem part_calls (k1 a1 k2 a2 : Int) (t1 t2 : ByteArray) (hs : t1.size + t2.size ≤ 9223372036854775807) (w : World) :
    Calls Tryd.prog 80 #[.agg #[.int .i64 k1, .string t1, .int .i64 a1], .agg #[.int .i64 k2, .string t2, .int .i64 a2]] w fun e w' => e = .returned (.bool (partB k1 t1 k2 t2)) ∧ Below w.heap.size w w' := by
  have HB := Aside0.mk (Below.refl w.heap.size w)
  have HT := Aside0.mk (fun w => entailref03_Tokens.calls _ (t1 ++ t2) _ _ _ w (tokens_f (t1 ++ t2) (2 * (t1 ++ t2).size + 302) (by omega)))
  unfold partB
  generalize (tokRes (t1 ++ t2)).1.map (toS (t1 ++ t2)) = N at *
  generalize (tokRes (t1 ++ t2)).2.1 = pl at *
  generalize (tokRes (t1 ++ t2)).2.2 = er at *
  by_cases he : er = 0
  · by_cases hn : N.length = 2
    · obtain ⟨x, y, rfl⟩ : ∃ x y, N = [x, y] := by
        rcases N with _ | ⟨x, _ | ⟨y, _ | ⟨z, N⟩⟩⟩
        · cases hn
        · cases hn
        · exact ⟨x, y, rfl⟩
        · simp at hn
      rw [show partN er [x, y] k1 t1 k2 t2 = !((x.f1.toList == t1.toList) && (y.f1.toList == t2.toList) && (x.f0 == k1) && (y.f0 == k2)) by rw [partN, he]; simp]
      subst he
      clear hn
      have n1 : (x.f1.toList != t1.toList) = !(x.f1.toList == t1.toList) := rfl
      have n2 : (y.f1.toList != t2.toList) = !(y.f1.toList == t2.toList) := rfl
      have n3 : (x.f0 != k1) = !(x.f0 == k1) := rfl
      have n4 : (y.f0 != k2) = !(y.f0 == k2) := rfl
      cases h1 : (x.f1.toList == t1.toList)
      · rw [h1] at n1
        clear n2 n3 n4
        go_enter Tryd.func80, Tryd.ntmps80
        go_wp2_with (first | (go_at_call 9; go_loud ((with_reducible refine (HT.out _).mono ?_); rintro e w1 ⟨v1, rfl, hR1, hb1⟩; obtain ⟨g, m1, hv1, _, hgl, hcc⟩ := row_at61 hR1 (Nat.succ_pos 1); subst hv1; obtain ⟨p0, p1, _⟩ := hcc 0 (Nat.succ_pos 1); obtain ⟨p3, p4, _⟩ := hcc 1 (Nat.succ_lt_succ (Nat.succ_pos 0)); have p0 : w1.cell? ⟨g, 0, none⟩ = some (.int .i64 x.f0) := p0; have p1 : w1.cell? ⟨g, 1, none⟩ = some (.string x.f1) := p1; have p3 : w1.cell? ⟨g, 3, none⟩ = some (.int .i64 y.f0) := p3; have p4 : w1.cell? ⟨g, 4, none⟩ = some (.string y.f1) := p4; obtain ⟨hc1, hf1⟩ := bcell hb1; have z1 : w.heap.size + 1 < w1.heap.size := Nat.lt_of_lt_of_le (by simp) hb1.size; have r0 : w1.cell? ⟨w.heap.size, 0, none⟩ = some (.int .i64 k1) := (hc1 w.heap.size 0 (by simp; omega)).trans (by simp [go_sem, *]); have r1 : w1.cell? ⟨w.heap.size, 1, none⟩ = some (.string t1) := (hc1 w.heap.size 1 (by simp; omega)).trans (by simp [go_sem, *]); have r3 : w1.cell? ⟨w.heap.size + 1, 0, none⟩ = some (.int .i64 k2) := (hc1 (w.heap.size + 1) 0 (by simp)).trans (by simp [go_sem, *]); have r4 : w1.cell? ⟨w.heap.size + 1, 1, none⟩ = some (.string t2) := (hc1 (w.heap.size + 1) 1 (by simp)).trans (by simp [go_sem, *]); have HB1 : Aside0 (Below w.heap.size w w1) := ⟨below_step (by repeat (first | (with_reducible exact HB.out) | (with_reducible exact Below.refl _ _) | (with_reducible apply below_alloc) | (with_reducible apply pw_below_drewN) | (with_reducible apply below_drew1) | refine below_set ?_ (by omega))) hb1⟩; clear hR1 HB hc1 hf1 hcc hb1)))
        go_quiet (fail)
        all_goals
          try go_wp2
          go_ret
          exact ⟨rfl, by repeat (first | exact HB1.out | apply below_drew1 | apply pw_below_drewN)⟩
      rw [h1] at n1
      cases h2 : (y.f1.toList == t2.toList)
      · rw [h2] at n2
        clear n3 n4
        go_enter Tryd.func80, Tryd.ntmps80
        go_wp2_with (first | (go_at_call 9; go_loud ((with_reducible refine (HT.out _).mono ?_); rintro e w1 ⟨v1, rfl, hR1, hb1⟩; obtain ⟨g, m1, hv1, _, hgl, hcc⟩ := row_at61 hR1 (Nat.succ_pos 1); subst hv1; obtain ⟨p0, p1, _⟩ := hcc 0 (Nat.succ_pos 1); obtain ⟨p3, p4, _⟩ := hcc 1 (Nat.succ_lt_succ (Nat.succ_pos 0)); have p0 : w1.cell? ⟨g, 0, none⟩ = some (.int .i64 x.f0) := p0; have p1 : w1.cell? ⟨g, 1, none⟩ = some (.string x.f1) := p1; have p3 : w1.cell? ⟨g, 3, none⟩ = some (.int .i64 y.f0) := p3; have p4 : w1.cell? ⟨g, 4, none⟩ = some (.string y.f1) := p4; obtain ⟨hc1, hf1⟩ := bcell hb1; have z1 : w.heap.size + 1 < w1.heap.size := Nat.lt_of_lt_of_le (by simp) hb1.size; have r0 : w1.cell? ⟨w.heap.size, 0, none⟩ = some (.int .i64 k1) := (hc1 w.heap.size 0 (by simp; omega)).trans (by simp [go_sem, *]); have r1 : w1.cell? ⟨w.heap.size, 1, none⟩ = some (.string t1) := (hc1 w.heap.size 1 (by simp; omega)).trans (by simp [go_sem, *]); have r3 : w1.cell? ⟨w.heap.size + 1, 0, none⟩ = some (.int .i64 k2) := (hc1 (w.heap.size + 1) 0 (by simp)).trans (by simp [go_sem, *]); have r4 : w1.cell? ⟨w.heap.size + 1, 1, none⟩ = some (.string t2) := (hc1 (w.heap.size + 1) 1 (by simp)).trans (by simp [go_sem, *]); have HB1 : Aside0 (Below w.heap.size w w1) := ⟨below_step (by repeat (first | (with_reducible exact HB.out) | (with_reducible exact Below.refl _ _) | (with_reducible apply below_alloc) | (with_reducible apply pw_below_drewN) | (with_reducible apply below_drew1) | refine below_set ?_ (by omega))) hb1⟩; clear hR1 HB hc1 hf1 hcc hb1)))
        go_quiet (fail)
        all_goals
          try go_wp2
          go_ret
          exact ⟨rfl, by repeat (first | exact HB1.out | apply below_drew1 | apply pw_below_drewN)⟩
      rw [h2] at n2
      cases h3 : (x.f0 == k1)
      · rw [h3] at n3
        clear n4
        go_enter Tryd.func80, Tryd.ntmps80
        go_wp2_with (first | (go_at_call 9; go_loud ((with_reducible refine (HT.out _).mono ?_); rintro e w1 ⟨v1, rfl, hR1, hb1⟩; obtain ⟨g, m1, hv1, _, hgl, hcc⟩ := row_at61 hR1 (Nat.succ_pos 1); subst hv1; obtain ⟨p0, p1, _⟩ := hcc 0 (Nat.succ_pos 1); obtain ⟨p3, p4, _⟩ := hcc 1 (Nat.succ_lt_succ (Nat.succ_pos 0)); have p0 : w1.cell? ⟨g, 0, none⟩ = some (.int .i64 x.f0) := p0; have p1 : w1.cell? ⟨g, 1, none⟩ = some (.string x.f1) := p1; have p3 : w1.cell? ⟨g, 3, none⟩ = some (.int .i64 y.f0) := p3; have p4 : w1.cell? ⟨g, 4, none⟩ = some (.string y.f1) := p4; obtain ⟨hc1, hf1⟩ := bcell hb1; have z1 : w.heap.size + 1 < w1.heap.size := Nat.lt_of_lt_of_le (by simp) hb1.size; have r0 : w1.cell? ⟨w.heap.size, 0, none⟩ = some (.int .i64 k1) := (hc1 w.heap.size 0 (by simp; omega)).trans (by simp [go_sem, *]); have r1 : w1.cell? ⟨w.heap.size, 1, none⟩ = some (.string t1) := (hc1 w.heap.size 1 (by simp; omega)).trans (by simp [go_sem, *]); have r3 : w1.cell? ⟨w.heap.size + 1, 0, none⟩ = some (.int .i64 k2) := (hc1 (w.heap.size + 1) 0 (by simp)).trans (by simp [go_sem, *]); have r4 : w1.cell? ⟨w.heap.size + 1, 1, none⟩ = some (.string t2) := (hc1 (w.heap.size + 1) 1 (by simp)).trans (by simp [go_sem, *]); have HB1 : Aside0 (Below w.heap.size w w1) := ⟨below_step (by repeat (first | (with_reducible exact HB.out) | (with_reducible exact Below.refl _ _) | (with_reducible apply below_alloc) | (with_reducible apply pw_below_drewN) | (with_reducible apply below_drew1) | refine below_set ?_ (by omega))) hb1⟩; clear hR1 HB hc1 hf1 hcc hb1)))
        go_quiet (fail)
        all_goals
          try go_wp2
          go_ret
          exact ⟨rfl, by repeat (first | exact HB1.out | apply below_drew1 | apply pw_below_drewN)⟩
      rw [h3] at n3
      cases h4 : (y.f0 == k2)
      · rw [h4] at n4
        go_enter Tryd.func80, Tryd.ntmps80
        go_wp2_with (first | (go_at_call 9; go_loud ((with_reducible refine (HT.out _).mono ?_); rintro e w1 ⟨v1, rfl, hR1, hb1⟩; obtain ⟨g, m1, hv1, _, hgl, hcc⟩ := row_at61 hR1 (Nat.succ_pos 1); subst hv1; obtain ⟨p0, p1, _⟩ := hcc 0 (Nat.succ_pos 1); obtain ⟨p3, p4, _⟩ := hcc 1 (Nat.succ_lt_succ (Nat.succ_pos 0)); have p0 : w1.cell? ⟨g, 0, none⟩ = some (.int .i64 x.f0) := p0; have p1 : w1.cell? ⟨g, 1, none⟩ = some (.string x.f1) := p1; have p3 : w1.cell? ⟨g, 3, none⟩ = some (.int .i64 y.f0) := p3; have p4 : w1.cell? ⟨g, 4, none⟩ = some (.string y.f1) := p4; obtain ⟨hc1, hf1⟩ := bcell hb1; have z1 : w.heap.size + 1 < w1.heap.size := Nat.lt_of_lt_of_le (by simp) hb1.size; have r0 : w1.cell? ⟨w.heap.size, 0, none⟩ = some (.int .i64 k1) := (hc1 w.heap.size 0 (by simp; omega)).trans (by simp [go_sem, *]); have r1 : w1.cell? ⟨w.heap.size, 1, none⟩ = some (.string t1) := (hc1 w.heap.size 1 (by simp; omega)).trans (by simp [go_sem, *]); have r3 : w1.cell? ⟨w.heap.size + 1, 0, none⟩ = some (.int .i64 k2) := (hc1 (w.heap.size + 1) 0 (by simp)).trans (by simp [go_sem, *]); have r4 : w1.cell? ⟨w.heap.size + 1, 1, none⟩ = some (.string t2) := (hc1 (w.heap.size + 1) 1 (by simp)).trans (by simp [go_sem, *]); have HB1 : Aside0 (Below w.heap.size w w1) := ⟨below_step (by repeat (first | (with_reducible exact HB.out) | (with_reducible exact Below.refl _ _) | (with_reducible apply below_alloc) | (with_reducible apply pw_below_drewN) | (with_reducible apply below_drew1) | refine below_set ?_ (by omega))) hb1⟩; clear hR1 HB hc1 hf1 hcc hb1)))
        go_quiet (fail)
        all_goals
          try go_wp2
          go_ret
          exact ⟨rfl, by repeat (first | exact HB1.out | apply below_drew1 | apply pw_below_drewN)⟩
      · rw [h4] at n4
        go_enter Tryd.func80, Tryd.ntmps80
        go_wp2_with (first | (go_at_call 9; go_loud ((with_reducible refine (HT.out _).mono ?_); rintro e w1 ⟨v1, rfl, hR1, hb1⟩; obtain ⟨g, m1, hv1, _, hgl, hcc⟩ := row_at61 hR1 (Nat.succ_pos 1); subst hv1; obtain ⟨p0, p1, _⟩ := hcc 0 (Nat.succ_pos 1); obtain ⟨p3, p4, _⟩ := hcc 1 (Nat.succ_lt_succ (Nat.succ_pos 0)); have p0 : w1.cell? ⟨g, 0, none⟩ = some (.int .i64 x.f0) := p0; have p1 : w1.cell? ⟨g, 1, none⟩ = some (.string x.f1) := p1; have p3 : w1.cell? ⟨g, 3, none⟩ = some (.int .i64 y.f0) := p3; have p4 : w1.cell? ⟨g, 4, none⟩ = some (.string y.f1) := p4; obtain ⟨hc1, hf1⟩ := bcell hb1; have z1 : w.heap.size + 1 < w1.heap.size := Nat.lt_of_lt_of_le (by simp) hb1.size; have r0 : w1.cell? ⟨w.heap.size, 0, none⟩ = some (.int .i64 k1) := (hc1 w.heap.size 0 (by simp; omega)).trans (by simp [go_sem, *]); have r1 : w1.cell? ⟨w.heap.size, 1, none⟩ = some (.string t1) := (hc1 w.heap.size 1 (by simp; omega)).trans (by simp [go_sem, *]); have r3 : w1.cell? ⟨w.heap.size + 1, 0, none⟩ = some (.int .i64 k2) := (hc1 (w.heap.size + 1) 0 (by simp)).trans (by simp [go_sem, *]); have r4 : w1.cell? ⟨w.heap.size + 1, 1, none⟩ = some (.string t2) := (hc1 (w.heap.size + 1) 1 (by simp)).trans (by simp [go_sem, *]); have HB1 : Aside0 (Below w.heap.size w w1) := ⟨below_step (by repeat (first | (with_reducible exact HB.out) | (with_reducible exact Below.refl _ _) | (with_reducible apply below_alloc) | (with_reducible apply pw_below_drewN) | (with_reducible apply below_drew1) | refine below_set ?_ (by omega))) hb1⟩; clear hR1 HB hc1 hf1 hcc hb1)))
        go_quiet (fail)
        all_goals
          try go_wp2
          go_ret
          exact ⟨rfl, by repeat (first | exact HB1.out | apply below_drew1 | apply pw_below_drewN)⟩
    · rw [partN_len er N k1 t1 k2 t2 hn]
      subst he
      have d4 : ((N.length : Int) != 2) = true := by simp; omega
      have d5 : (N.length != 2) = true := by simpa using hn
      have d6 : ((N.length : Int) = 2) = False := eq_false (by omega)
      have d7 : (N.length = 2) = False := eq_false hn
      clear hn
      go_enter Tryd.func80, Tryd.ntmps80
      go_wp2_with (first | (go_at_call 9; go_loud ((with_reducible refine (HT.out _).mono ?_); rintro e w1 ⟨v1, rfl, hR1, hb1⟩; obtain ⟨A1, m1, hv1, _, hC1⟩ := Kd.R_reads hR1; subst hv1; obtain ⟨hc1, hf1⟩ := bcell hb1; have z1 : w.heap.size + 1 < w1.heap.size := Nat.lt_of_lt_of_le (by simp) hb1.size; have r0 : w1.cell? ⟨w.heap.size, 0, none⟩ = some (.int .i64 k1) := (hc1 w.heap.size 0 (by simp; omega)).trans (by simp [go_sem, *]); have r1 : w1.cell? ⟨w.heap.size, 1, none⟩ = some (.string t1) := (hc1 w.heap.size 1 (by simp; omega)).trans (by simp [go_sem, *]); have r3 : w1.cell? ⟨w.heap.size + 1, 0, none⟩ = some (.int .i64 k2) := (hc1 (w.heap.size + 1) 0 (by simp)).trans (by simp [go_sem, *]); have r4 : w1.cell? ⟨w.heap.size + 1, 1, none⟩ = some (.string t2) := (hc1 (w.heap.size + 1) 1 (by simp)).trans (by simp [go_sem, *]); have HB1 : Aside0 (Below w.heap.size w w1) := ⟨below_step (by repeat (first | (with_reducible exact HB.out) | (with_reducible exact Below.refl _ _) | (with_reducible apply below_alloc) | (with_reducible apply pw_below_drewN) | (with_reducible apply below_drew1) | refine below_set ?_ (by omega))) hb1⟩; clear hR1 HB hc1 hf1 hC1 hb1)))
      go_quiet (fail)
      all_goals
        try go_wp2
        go_ret
        exact ⟨rfl, by repeat (first | exact HB1.out | apply below_drew1 | apply pw_below_drewN)⟩
  · have e1 : (er != 0) = true := by simpa using he
    rw [partN_er er N k1 t1 k2 t2 e1]
    clear he
    go_enter Tryd.func80, Tryd.ntmps80
    go_wp2_with (first | (go_at_call 9; go_loud ((with_reducible refine (HT.out _).mono ?_); rintro e w1 ⟨v1, rfl, hR1, hb1⟩; obtain ⟨A1, m1, hv1, _, hC1⟩ := Kd.R_reads hR1; subst hv1; obtain ⟨hc1, hf1⟩ := bcell hb1; have z1 : w.heap.size + 1 < w1.heap.size := Nat.lt_of_lt_of_le (by simp) hb1.size; have r0 : w1.cell? ⟨w.heap.size, 0, none⟩ = some (.int .i64 k1) := (hc1 w.heap.size 0 (by simp; omega)).trans (by simp [go_sem, *]); have r1 : w1.cell? ⟨w.heap.size, 1, none⟩ = some (.string t1) := (hc1 w.heap.size 1 (by simp; omega)).trans (by simp [go_sem, *]); have r3 : w1.cell? ⟨w.heap.size + 1, 0, none⟩ = some (.int .i64 k2) := (hc1 (w.heap.size + 1) 0 (by simp)).trans (by simp [go_sem, *]); have r4 : w1.cell? ⟨w.heap.size + 1, 1, none⟩ = some (.string t2) := (hc1 (w.heap.size + 1) 1 (by simp)).trans (by simp [go_sem, *]); have HB1 : Aside0 (Below w.heap.size w w1) := ⟨below_step (by repeat (first | (with_reducible exact HB.out) | (with_reducible exact Below.refl _ _) | (with_reducible apply below_alloc) | (with_reducible apply pw_below_drewN) | (with_reducible apply below_drew1) | refine below_set ?_ (by omega))) hb1⟩; clear hR1 HB hc1 hf1 hC1 hb1)))
    go_quiet (fail)
    all_goals
      try go_wp2
      go_ret
      exact ⟨rfl, by repeat (first | exact HB1.out | apply below_drew1 | apply pw_below_drewN)⟩
end Go.Proofs.YtmnnhbikdgpedaaDoor.Lx
