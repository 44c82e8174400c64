/- lex.apart has its contract. -/
import Derived.Test.YtmnnhbikdgpedaaDoorLjB
import Derived.Test.YtmnnhbikdgpedaaDoorShelf
import Derived.Deep.RegionHeld3
namespace Go.Proofs.YtmnnhbikdgpedaaDoor.Lx
open Go.RowKit Go.Proofs.YtmnnhbikdgpedaaDoorW.PrintWords Go.Proofs.YtmnnhbikdgpedaaDoorW.PrintLast Go.Proofs.YtmnnhbikdgpedaaDoorW.PrintMore
open Go.Proofs.YtmnnhbikdgpedaaDoor.PLexTokens
set_option linter.unusedVariables false
set_option linter.unusedSimpArgs false

theorem bJoin {w1 W W2 : World} (hb : Below W.heap.size W W2) (hS : Below w1.heap.size w1 W) : Below w1.heap.size w1 W2 := hS.trans (hb.mono hS.size)
theorem keepAt {w1 W2 : World} (h : Below w1.heap.size w1 W2) {b o : Nat} {v : Value} (hc : w1.cell? ⟨b, o, none⟩ = some v) : W2.cell? ⟨b, o, none⟩ = some v :=
  (h.cell (World.block_lt_of_cell? w1 _ hc)).trans hc

def behindL : List ByteArray := [⟨#[40]⟩, ⟨#[91]⟩, ⟨#[35]⟩, ⟨#[33]⟩, ⟨#[46]⟩]
def aheadL : List ByteArray := [⟨#[41]⟩, ⟨#[93]⟩, ⟨#[44]⟩, ⟨#[59]⟩, ⟨#[46]⟩, ⟨#[63]⟩, ⟨#[91]⟩]

/-- Whether two tokens, read together, are these two. -/
def twoTok (k1 : Int) (t1 : ByteArray) (k2 : Int) (t2 : ByteArray) : Bool :=
  match aloneB (t1 ++ t2) with
  | [x, y] => sameTok (t1 ++ t2) x k1 t1 && sameTok (t1 ++ t2) y k2 t2
  | _ => false
/-- What apart says. -/
def apartB (k1 : Int) (t1 : ByteArray) (k2 : Int) (t2 : ByteArray) : Bool :=
  if t1.toList = [46] ∧ (k2 = 2 ∨ k2 = 3) then true
  else if twoTok k1 t1 k2 t2 = false then true
  else !((k1 == 4) && Lib.containsS behindL t1) && !((k2 == 4) && Lib.containsS aheadL t2)

theorem lit_row (w : World) (L : List ByteArray) (t : TypeId) (j : Nat) (hj : j < L.length) : (w.alloc (.cells (L.map Value.string).toArray t)).cell? ⟨w.heap.size, 0 + j, none⟩ = some (.string (L.getD j ByteArray.empty)) := by
  rw [Lib.cell_of_heap (World.alloc_heap_new _ _), Nat.zero_add]
  simp [hj]
theorem contains_behind (w : World) (b : Nat) (t : ByteArray) (hb : b = w.heap.size) : Calls Tryd.prog 84 #[.slice (some ⟨b, 0, none⟩) 5 5, .string t] (w.alloc (.cells #[.string ⟨#[40]⟩, .string ⟨#[91]⟩, .string ⟨#[35]⟩, .string ⟨#[33]⟩, .string ⟨#[46]⟩] 9)) fun e w' => e = .returned (.bool (Lib.containsS behindL t)) ∧ w.alloc (.cells #[.string ⟨#[40]⟩, .string ⟨#[91]⟩, .string ⟨#[35]⟩, .string ⟨#[33]⟩, .string ⟨#[46]⟩] 9) = w' := by
  subst hb
  exact (Tryd.slices_Contains_string w.heap.size 0 5 5 behindL t _ (by decide) (by decide) (lit_row w behindL 9)).mono fun _ _ h => ⟨h.1, h.2.symm⟩
theorem contains_ahead (w : World) (b : Nat) (t : ByteArray) (hb : b = w.heap.size) : Calls Tryd.prog 84 #[.slice (some ⟨b, 0, none⟩) 7 7, .string t] (w.alloc (.cells #[.string ⟨#[41]⟩, .string ⟨#[93]⟩, .string ⟨#[44]⟩, .string ⟨#[59]⟩, .string ⟨#[46]⟩, .string ⟨#[63]⟩, .string ⟨#[91]⟩] 9)) fun e w' => e = .returned (.bool (Lib.containsS aheadL t)) ∧ w.alloc (.cells #[.string ⟨#[41]⟩, .string ⟨#[93]⟩, .string ⟨#[44]⟩, .string ⟨#[59]⟩, .string ⟨#[46]⟩, .string ⟨#[63]⟩, .string ⟨#[91]⟩] 9) = w' := by
  subst hb
  exact (Tryd.slices_Contains_string w.heap.size 0 7 7 aheadL t _ (by decide) (by decide) (lit_row w aheadL 9)).mono fun _ _ h => ⟨h.1, h.2.symm⟩
theorem kind_four (k : Int) : (k == 4) = true ∨ (k == 4) = false := by cases (k == 4) <;> simp

set_option maxHeartbeats 8000000 in
set_option maxRecDepth 100000 in
theorem apart_calls (k1 a1 k2 a2 : Int) (t1 t2 : ByteArray) (h1 : t1.size ≤ 30000) (h2 : t2.size ≤ 30000) (w : World) (hE : Env w) :
    Calls Tryd.prog 50 #[.agg #[.int .i64 k1, .string t1, .int .i64 a1], .agg #[.int .i64 k2, .string t2, .int .i64 a2]] w fun e w' => e = .returned (.bool (apartB k1 t1 k2 t2)) ∧ Below w.heap.size w w' := by
  have HE := Aside0.mk hE
  have HB := Aside0.mk (Below.refl w.heap.size w)
  by_cases c1 : t1.toList = [46] ∧ (k2 = 2 ∨ k2 = 3)
  · have hr : apartB k1 t1 k2 t2 = true := by rw [apartB, if_pos c1]
    rw [hr]
    obtain ⟨e1, e2⟩ := c1
    have f1 : (t1.toList == [46]) = true := by rw [e1]; rfl
    clear hr
    rcases e2 with rfl | rfl
    all_goals
      go_enter Tryd.func50, Tryd.ntmps50
      go_wp2
      go_ret
      exact ⟨rfl, (by repeat (first | (with_reducible exact HB.out) | (with_reducible exact Below.refl _ _) | (with_reducible apply below_alloc) | (with_reducible apply pw_below_drewN) | (with_reducible apply below_drew1) | refine below_set ?_ (by omega)))⟩
  have g1 : t1.size + t2.size ≤ 9223372036854775807 := by omega
  have hcase : ((t1.toList == [46]) = false ∧ (t1.toList = [46]) = False) ∨ ((t1.toList == [46]) = true ∧ (k2 == 2) = false ∧ (k2 == 3) = false) := by
    by_cases e : t1.toList = [46]
    · refine .inr ⟨by simp [e], ?_, ?_⟩
      · simp; exact fun h => c1 ⟨e, .inl h⟩
      · simp; exact fun h => c1 ⟨e, .inr h⟩
    · exact .inl ⟨by simp [e], eq_false e⟩
  have mixed : Tryd.prog.follows .mixedOrders = true := by kernel_rfl
  have hA := Aside0.mk (fun w hE => alone_calls (t1 ++ t2) (by rw [ByteArray.size_append]; omega) w hE)
  by_cases htwo : (aloneB (t1 ++ t2)).length = 2
  · obtain ⟨x, y, hxy⟩ : ∃ x y, aloneB (t1 ++ t2) = [x, y] := by
      rcases hab : aloneB (t1 ++ t2) with _ | ⟨x, _ | ⟨y, _ | ⟨z, L⟩⟩⟩
      · rw [hab] at htwo; cases htwo
      · rw [hab] at htwo; cases htwo
      · exact ⟨x, y, rfl⟩
      · rw [hab] at htwo; simp at htwo
    have hr : apartB k1 t1 k2 t2 = if (sameTok (t1 ++ t2) x k1 t1 && sameTok (t1 ++ t2) y k2 t2) = false then true else !((k1 == 4) && Lib.containsS behindL t1) && !((k2 == 4) && Lib.containsS aheadL t2) := by
      rw [apartB, if_neg c1, twoTok, hxy]
    rw [hr]
    rw [hxy] at hA
    have heq1 : ∀ w, (Op.equalIn 10000 49 (.agg #[.int .i64 x.1.kind, .string ((t1 ++ t2).extract x.2 x.1.fin), .int .i64 0]) (.agg #[.int .i64 k1, .string t1, .int .i64 0])).run Tryd.prog w = .ok (sameTok (t1 ++ t2) x k1 t1) w := fun w => by
      rw [eqA49 9998]; simp [sameTok]
    have heq2 : ∀ w, (Op.equalIn 10000 49 (.agg #[.int .i64 y.1.kind, .string ((t1 ++ t2).extract y.2 y.1.fin), .int .i64 0]) (.agg #[.int .i64 k2, .string t2, .int .i64 0])).run Tryd.prog w = .ok (sameTok (t1 ++ t2) y k2 t2) w := fun w => by
      rw [eqA49 9998]; simp [sameTok]
    obtain ⟨u, hu⟩ : ∃ u, u = (t1 ++ t2).extract x.2 x.1.fin := ⟨_, rfl⟩
    obtain ⟨v, hv⟩ : ∃ v, v = (t1 ++ t2).extract y.2 y.1.fin := ⟨_, rfl⟩
    rw [← hu] at heq1
    rw [← hv] at heq2
    have hU := Aside0.mk hu
    have hV := Aside0.mk hv
    clear c1 hr htwo hxy hu hv
    generalize sameTok (t1 ++ t2) x k1 t1 = s1 at *
    generalize sameTok (t1 ++ t2) y k2 t2 = s2 at *
    cases s1
    · rcases hcase with ⟨f1, f2⟩ | ⟨f1, f2, f3⟩
      all_goals
        go_enter Tryd.func50, Tryd.ntmps50
        go_wp2_with (first | (go_at_call 82; ((with_reducible refine (hA.out _ (HE.out.below (by repeat (first | (with_reducible exact HB.out) | (with_reducible exact Below.refl _ _) | (with_reducible apply below_alloc) | (with_reducible apply pw_below_drewN) | (with_reducible apply below_drew1) | refine below_set ?_ (by omega))))).mono ?_); rintro e w1 ⟨v1, rfl, hR1, hb1⟩; obtain ⟨g, m1, hv0, hgb, hgl, hcc⟩ := row_at hR1 (Nat.succ_pos _); have hv1 : v1 = .slice (some ⟨g, 0, none⟩) 2 m1 := hv0; subst hv1; obtain ⟨q0, q1, q2⟩ := hcc 0 (Nat.succ_pos _); obtain ⟨q3, q4, q5⟩ := hcc 1 (Nat.succ_lt_succ (Nat.succ_pos _)); have p0 : w1.cell? ⟨g, 0, none⟩ = some (.int .i64 x.1.kind) := q0; have p1 : w1.cell? ⟨g, 1, none⟩ = some (.string u) := q1.trans (by have h := hU.out; subst h; rfl); have p2 : w1.cell? ⟨g, 2, none⟩ = some (.int .i64 x.2) := q2; have p3 : w1.cell? ⟨g, 3, none⟩ = some (.int .i64 y.1.kind) := q3; have p4 : w1.cell? ⟨g, 4, none⟩ = some (.string v) := q4.trans (by have h := hV.out; subst h; rfl); have p5 : w1.cell? ⟨g, 5, none⟩ = some (.int .i64 y.2) := q5; obtain ⟨hc1, hf1⟩ := bcell hb1; have z1 : w.heap.size + 1 < w1.heap.size := Nat.lt_of_lt_of_le (by simp) hb1.size; have z0 : w.heap.size < w1.heap.size := Nat.lt_of_succ_lt z1; have HB1 : Aside0 (Below w.heap.size w w1) := ⟨below_step (by repeat (first | (with_reducible exact HB.out) | (with_reducible exact Below.refl _ _) | (with_reducible apply below_alloc) | (with_reducible apply pw_below_drewN) | (with_reducible apply below_drew1) | refine below_set ?_ (by omega))) hb1⟩; clear hR1 HB hcc q0 q1 q2 q3 q4 q5; have r0 : w1.cell? ⟨w.heap.size, 0, none⟩ = some (.int .i64 k1) := (hc1 w.heap.size 0 (by simp; omega)).trans (by simp [go_sem, *]); have r1 : w1.cell? ⟨w.heap.size, 1, none⟩ = some (.string t1) := (hc1 w.heap.size 1 (by simp; omega)).trans (by simp [go_sem, *]); have r2 : w1.cell? ⟨w.heap.size, 2, none⟩ = some (.int .i64 a1) := (hc1 w.heap.size 2 (by simp; omega)).trans (by simp [go_sem, *]); have r3 : w1.cell? ⟨(w.heap.size + 1), 0, none⟩ = some (.int .i64 k2) := (hc1 (w.heap.size + 1) 0 (by simp)).trans (by simp [go_sem, *]); have r4 : w1.cell? ⟨(w.heap.size + 1), 1, none⟩ = some (.string t2) := (hc1 (w.heap.size + 1) 1 (by simp)).trans (by simp [go_sem, *]); have r5 : w1.cell? ⟨(w.heap.size + 1), 2, none⟩ = some (.int .i64 a2) := (hc1 (w.heap.size + 1) 2 (by simp)).trans (by simp [go_sem, *]); clear hc1 hf1)))
        (first | (go_region_with_o (first | (go_at_call 83; ((with_reducible refine (bare_calls x.1.kind x.2 u _).mono ?_); rintro e w3 ⟨rfl, hb3⟩; obtain ⟨hc3, hf3⟩ := bcell hb3; have s0 : w3.cell? ⟨w.heap.size, 0, none⟩ = some (.int .i64 k1) := (hc3 w.heap.size 0 (by first | simpa using z1 | simpa using z0)).trans (by simp [go_sem, *]); have s1 : w3.cell? ⟨w.heap.size, 1, none⟩ = some (.string t1) := (hc3 w.heap.size 1 (by first | simpa using z1 | simpa using z0)).trans (by simp [go_sem, *]); have s2 : w3.cell? ⟨w.heap.size, 2, none⟩ = some (.int .i64 a1) := (hc3 w.heap.size 2 (by first | simpa using z1 | simpa using z0)).trans (by simp [go_sem, *]); have s3 : w3.cell? ⟨(w.heap.size + 1), 0, none⟩ = some (.int .i64 k2) := (hc3 (w.heap.size + 1) 0 (by first | simpa using z1 | simpa using z0)).trans (by simp [go_sem, *]); have s4 : w3.cell? ⟨(w.heap.size + 1), 1, none⟩ = some (.string t2) := (hc3 (w.heap.size + 1) 1 (by first | simpa using z1 | simpa using z0)).trans (by simp [go_sem, *]); have s5 : w3.cell? ⟨(w.heap.size + 1), 2, none⟩ = some (.int .i64 a2) := (hc3 (w.heap.size + 1) 2 (by first | simpa using z1 | simpa using z0)).trans (by simp [go_sem, *]); have HB1 : Aside0 (Below w.heap.size w w3) := ⟨below_step (by repeat (first | exact HB1.out | apply below_drew1 | apply pw_below_drewN)) hb3⟩; clear hc3 hf3)) | (go_at_call 83; ((with_reducible refine (bare_calls k1 a1 t1 _).mono ?_); rintro e w4 ⟨rfl, hb4⟩; have HB2 : Aside0 (Below w.heap.size w w4) := ⟨below_step (by repeat (first | exact HB1.out | apply below_drew1 | apply pw_below_drewN)) hb4⟩)))) | fail "w")
        all_goals
          try go_wp2
          go_ret
          exact ⟨rfl, HB2.out⟩
    · cases s2
      · rcases hcase with ⟨f1, f2⟩ | ⟨f1, f2, f3⟩
        all_goals
          go_enter Tryd.func50, Tryd.ntmps50
          go_wp2_with (first | (go_at_call 82; ((with_reducible refine (hA.out _ (HE.out.below (by repeat (first | (with_reducible exact HB.out) | (with_reducible exact Below.refl _ _) | (with_reducible apply below_alloc) | (with_reducible apply pw_below_drewN) | (with_reducible apply below_drew1) | refine below_set ?_ (by omega))))).mono ?_); rintro e w1 ⟨v1, rfl, hR1, hb1⟩; obtain ⟨g, m1, hv0, hgb, hgl, hcc⟩ := row_at hR1 (Nat.succ_pos _); have hv1 : v1 = .slice (some ⟨g, 0, none⟩) 2 m1 := hv0; subst hv1; obtain ⟨q0, q1, q2⟩ := hcc 0 (Nat.succ_pos _); obtain ⟨q3, q4, q5⟩ := hcc 1 (Nat.succ_lt_succ (Nat.succ_pos _)); have p0 : w1.cell? ⟨g, 0, none⟩ = some (.int .i64 x.1.kind) := q0; have p1 : w1.cell? ⟨g, 1, none⟩ = some (.string u) := q1.trans (by have h := hU.out; subst h; rfl); have p2 : w1.cell? ⟨g, 2, none⟩ = some (.int .i64 x.2) := q2; have p3 : w1.cell? ⟨g, 3, none⟩ = some (.int .i64 y.1.kind) := q3; have p4 : w1.cell? ⟨g, 4, none⟩ = some (.string v) := q4.trans (by have h := hV.out; subst h; rfl); have p5 : w1.cell? ⟨g, 5, none⟩ = some (.int .i64 y.2) := q5; obtain ⟨hc1, hf1⟩ := bcell hb1; have z1 : w.heap.size + 1 < w1.heap.size := Nat.lt_of_lt_of_le (by simp) hb1.size; have z0 : w.heap.size < w1.heap.size := Nat.lt_of_succ_lt z1; have HB1 : Aside0 (Below w.heap.size w w1) := ⟨below_step (by repeat (first | (with_reducible exact HB.out) | (with_reducible exact Below.refl _ _) | (with_reducible apply below_alloc) | (with_reducible apply pw_below_drewN) | (with_reducible apply below_drew1) | refine below_set ?_ (by omega))) hb1⟩; clear hR1 HB hcc q0 q1 q2 q3 q4 q5; have r0 : w1.cell? ⟨w.heap.size, 0, none⟩ = some (.int .i64 k1) := (hc1 w.heap.size 0 (by simp; omega)).trans (by simp [go_sem, *]); have r1 : w1.cell? ⟨w.heap.size, 1, none⟩ = some (.string t1) := (hc1 w.heap.size 1 (by simp; omega)).trans (by simp [go_sem, *]); have r2 : w1.cell? ⟨w.heap.size, 2, none⟩ = some (.int .i64 a1) := (hc1 w.heap.size 2 (by simp; omega)).trans (by simp [go_sem, *]); have r3 : w1.cell? ⟨(w.heap.size + 1), 0, none⟩ = some (.int .i64 k2) := (hc1 (w.heap.size + 1) 0 (by simp)).trans (by simp [go_sem, *]); have r4 : w1.cell? ⟨(w.heap.size + 1), 1, none⟩ = some (.string t2) := (hc1 (w.heap.size + 1) 1 (by simp)).trans (by simp [go_sem, *]); have r5 : w1.cell? ⟨(w.heap.size + 1), 2, none⟩ = some (.int .i64 a2) := (hc1 (w.heap.size + 1) 2 (by simp)).trans (by simp [go_sem, *]); clear hc1 hf1)))
          have b0 : Below w1.heap.size w1 w1.drew := below_drew1 (Below.refl _ _)
          go_region_held3 (fun W => W.cell? ⟨w.heap.size, 0, none⟩ = some (.int .i64 k1) ∧ W.cell? ⟨w.heap.size, 1, none⟩ = some (.string t1) ∧ W.cell? ⟨w.heap.size, 2, none⟩ = some (.int .i64 a1) ∧ W.cell? ⟨w.heap.size + 1, 0, none⟩ = some (.int .i64 k2) ∧ W.cell? ⟨w.heap.size + 1, 1, none⟩ = some (.string t2) ∧ W.cell? ⟨w.heap.size + 1, 2, none⟩ = some (.int .i64 a2) ∧
            W.cell? ⟨g, 0, none⟩ = some (.int .i64 x.1.kind) ∧ W.cell? ⟨g, 1, none⟩ = some (.string u) ∧ W.cell? ⟨g, 2, none⟩ = some (.int .i64 x.2) ∧ W.cell? ⟨g, 3, none⟩ = some (.int .i64 y.1.kind) ∧ W.cell? ⟨g, 4, none⟩ = some (.string v) ∧ W.cell? ⟨g, 5, none⟩ = some (.int .i64 y.2) ∧ Below w1.heap.size w1 W)
          (first
            | go_keep
            | (go_split_ands
               have hBB := bJoin (w1 := w1) hbq (by assumption)
               exact ⟨keepAt hBB r0, keepAt hBB r1, keepAt hBB r2, keepAt hBB r3, keepAt hBB r4, keepAt hBB r5, keepAt hBB p0, keepAt hBB p1, keepAt hBB p2, keepAt hBB p3, keepAt hBB p4, keepAt hBB p5, hBB⟩))
          (first | (go_at_call 83; (with_reducible refine (bare_calls _ _ _ _).mono ?_); rintro e wq ⟨rfl, hbq⟩))
          all_goals
            rename_i hS
            have hz := Aside0.mk (below_step HB1.out hS.2.2.2.2.2.2.2.2.2.2.2.2)
            clear hS
            go_wp2
            go_ret
            exact ⟨rfl, hz.out⟩
      · have hk1 := kind_four k1
        have hk2 := kind_four k2
        rcases hcase with ⟨f1, f2⟩ | ⟨f1, f2, f3⟩
        all_goals
          go_enter Tryd.func50, Tryd.ntmps50
          go_wp2_with (first | (go_at_call 82; ((with_reducible refine (hA.out _ (HE.out.below (by repeat (first | (with_reducible exact HB.out) | (with_reducible exact Below.refl _ _) | (with_reducible apply below_alloc) | (with_reducible apply pw_below_drewN) | (with_reducible apply below_drew1) | refine below_set ?_ (by omega))))).mono ?_); rintro e w1 ⟨v1, rfl, hR1, hb1⟩; obtain ⟨g, m1, hv0, hgb, hgl, hcc⟩ := row_at hR1 (Nat.succ_pos _); have hv1 : v1 = .slice (some ⟨g, 0, none⟩) 2 m1 := hv0; subst hv1; obtain ⟨q0, q1, q2⟩ := hcc 0 (Nat.succ_pos _); obtain ⟨q3, q4, q5⟩ := hcc 1 (Nat.succ_lt_succ (Nat.succ_pos _)); have p0 : w1.cell? ⟨g, 0, none⟩ = some (.int .i64 x.1.kind) := q0; have p1 : w1.cell? ⟨g, 1, none⟩ = some (.string u) := q1.trans (by have h := hU.out; subst h; rfl); have p2 : w1.cell? ⟨g, 2, none⟩ = some (.int .i64 x.2) := q2; have p3 : w1.cell? ⟨g, 3, none⟩ = some (.int .i64 y.1.kind) := q3; have p4 : w1.cell? ⟨g, 4, none⟩ = some (.string v) := q4.trans (by have h := hV.out; subst h; rfl); have p5 : w1.cell? ⟨g, 5, none⟩ = some (.int .i64 y.2) := q5; obtain ⟨hc1, hf1⟩ := bcell hb1; have z1 : w.heap.size + 1 < w1.heap.size := Nat.lt_of_lt_of_le (by simp) hb1.size; have z0 : w.heap.size < w1.heap.size := Nat.lt_of_succ_lt z1; have HB1 : Aside0 (Below w.heap.size w w1) := ⟨below_step (by repeat (first | (with_reducible exact HB.out) | (with_reducible exact Below.refl _ _) | (with_reducible apply below_alloc) | (with_reducible apply pw_below_drewN) | (with_reducible apply below_drew1) | refine below_set ?_ (by omega))) hb1⟩; clear hR1 HB hcc q0 q1 q2 q3 q4 q5; have r0 : w1.cell? ⟨w.heap.size, 0, none⟩ = some (.int .i64 k1) := (hc1 w.heap.size 0 (by simp; omega)).trans (by simp [go_sem, *]); have r1 : w1.cell? ⟨w.heap.size, 1, none⟩ = some (.string t1) := (hc1 w.heap.size 1 (by simp; omega)).trans (by simp [go_sem, *]); have r2 : w1.cell? ⟨w.heap.size, 2, none⟩ = some (.int .i64 a1) := (hc1 w.heap.size 2 (by simp; omega)).trans (by simp [go_sem, *]); have r3 : w1.cell? ⟨(w.heap.size + 1), 0, none⟩ = some (.int .i64 k2) := (hc1 (w.heap.size + 1) 0 (by simp)).trans (by simp [go_sem, *]); have r4 : w1.cell? ⟨(w.heap.size + 1), 1, none⟩ = some (.string t2) := (hc1 (w.heap.size + 1) 1 (by simp)).trans (by simp [go_sem, *]); have r5 : w1.cell? ⟨(w.heap.size + 1), 2, none⟩ = some (.int .i64 a2) := (hc1 (w.heap.size + 1) 2 (by simp)).trans (by simp [go_sem, *]); clear hc1 hf1)))
          have b0 : Below w1.heap.size w1 w1.drew := below_drew1 (Below.refl _ _)
          go_region_held3 (fun W => W.cell? ⟨w.heap.size, 0, none⟩ = some (.int .i64 k1) ∧ W.cell? ⟨w.heap.size, 1, none⟩ = some (.string t1) ∧ W.cell? ⟨w.heap.size, 2, none⟩ = some (.int .i64 a1) ∧ W.cell? ⟨w.heap.size + 1, 0, none⟩ = some (.int .i64 k2) ∧ W.cell? ⟨w.heap.size + 1, 1, none⟩ = some (.string t2) ∧ W.cell? ⟨w.heap.size + 1, 2, none⟩ = some (.int .i64 a2) ∧
            W.cell? ⟨g, 0, none⟩ = some (.int .i64 x.1.kind) ∧ W.cell? ⟨g, 1, none⟩ = some (.string u) ∧ W.cell? ⟨g, 2, none⟩ = some (.int .i64 x.2) ∧ W.cell? ⟨g, 3, none⟩ = some (.int .i64 y.1.kind) ∧ W.cell? ⟨g, 4, none⟩ = some (.string v) ∧ W.cell? ⟨g, 5, none⟩ = some (.int .i64 y.2) ∧ Below w1.heap.size w1 W)
          (first
            | go_keep
            | (go_split_ands
               have hBB := bJoin (w1 := w1) hbq (by assumption)
               exact ⟨keepAt hBB r0, keepAt hBB r1, keepAt hBB r2, keepAt hBB r3, keepAt hBB r4, keepAt hBB r5, keepAt hBB p0, keepAt hBB p1, keepAt hBB p2, keepAt hBB p3, keepAt hBB p4, keepAt hBB p5, hBB⟩))
          (first | (go_at_call 83; (with_reducible refine (bare_calls _ _ _ _).mono ?_); rintro e wq ⟨rfl, hbq⟩))
          all_goals
            rename_i hS
            obtain ⟨z0, z1, z2, z3, z4, z5, -, -, -, -, -, -, hb9⟩ := hS
            have hz := Aside0.mk (below_step HB1.out hb9)
            clear hb9 b0 r0 r1 r2 r3 r4 r5 p0 p1 p2 p3 p4 p5
            have y0 : ∀ o, (wq.alloc o).cell? ⟨w.heap.size, 0, none⟩ = some (.int .i64 k1) := fun o => keepAt (below_alloc (Below.refl _ _) o) z0
            have y1 : ∀ o, (wq.alloc o).cell? ⟨w.heap.size, 1, none⟩ = some (.string t1) := fun o => keepAt (below_alloc (Below.refl _ _) o) z1
            have y3 : ∀ o, (wq.alloc o).cell? ⟨w.heap.size + 1, 0, none⟩ = some (.int .i64 k2) := fun o => keepAt (below_alloc (Below.refl _ _) o) z3
            have y4 : ∀ o, (wq.alloc o).cell? ⟨w.heap.size + 1, 1, none⟩ = some (.string t2) := fun o => keepAt (below_alloc (Below.refl _ _) o) z4
            have y5 : ∀ o o', ((wq.alloc o).alloc o').cell? ⟨w.heap.size + 1, 1, none⟩ = some (.string t2) := fun o o' => keepAt (below_alloc (Below.refl _ _) o') (y4 o)
            rcases hk1 with q1 | q1
            all_goals
              rcases hk2 with q2 | q2
              all_goals
                go_wp2_with (first | (go_at_call 84; ((with_reducible refine (contains_behind _ _ t1 (by simp)).mono ?_); rintro e w9 ⟨rfl, rfl⟩)) | (go_at_call 84; ((with_reducible refine (contains_ahead _ _ t2 (by simp)).mono ?_); rintro e w8 ⟨rfl, rfl⟩)))
                all_goals
                  go_ret
                  exact ⟨by first | rfl | (simp [*]; done), by repeat (first | exact hz.out | apply below_alloc | apply pw_below_drewN | apply below_drew1)⟩
  · have hr : apartB k1 t1 k2 t2 = true := by
      have h0 : twoTok k1 t1 k2 t2 = false := by
        rw [twoTok]
        rcases hab : aloneB (t1 ++ t2) with _ | ⟨x, _ | ⟨y, _ | ⟨z, L⟩⟩⟩
        · rfl
        · rfl
        · rw [hab] at htwo; exact absurd rfl htwo
        · rfl
      rw [apartB, if_neg c1, if_pos h0]
    rw [hr]
    have d4 : (((aloneB (t1 ++ t2)).length : Int) != 2) = true := by simp; omega
    have d5 : ((aloneB (t1 ++ t2)).length != 2) = true := by simpa using htwo
    have d6 : (((aloneB (t1 ++ t2)).length : Int) == 2) = false := by simp; omega
    have d7 : ((aloneB (t1 ++ t2)).length == 2) = false := by simpa using htwo
    have d8 : ((aloneB (t1 ++ t2)).length = 2) = False := eq_false htwo
    have d9 : (((aloneB (t1 ++ t2)).length : Int) = 2) = False := eq_false (by omega)
    clear c1 hr htwo
    generalize aloneB (t1 ++ t2) = Z at *
    rcases hcase with ⟨f1, f2⟩ | ⟨f1, f2, f3⟩
    all_goals
      go_enter Tryd.func50, Tryd.ntmps50
      go_wp2_with (first | (go_at_call 82; ((with_reducible refine (hA.out _ (HE.out.below (by repeat (first | (with_reducible exact HB.out) | (with_reducible exact Below.refl _ _) | (with_reducible apply below_alloc) | (with_reducible apply pw_below_drewN) | (with_reducible apply below_drew1) | refine below_set ?_ (by omega))))).mono ?_); rintro e w1 ⟨v1, rfl, hR1, hb1⟩; obtain ⟨A1, m1, hv1⟩ := own_slice hR1; subst hv1; obtain ⟨hc1, hf1⟩ := bcell hb1; have z1 : w.heap.size < w1.heap.size := Nat.lt_of_lt_of_le (by simp; omega) hb1.size; have HB1 : Aside0 (Below w.heap.size w w1) := ⟨below_step (by repeat (first | (with_reducible exact HB.out) | (with_reducible exact Below.refl _ _) | (with_reducible apply below_alloc) | (with_reducible apply pw_below_drewN) | (with_reducible apply below_drew1) | refine below_set ?_ (by omega))) hb1⟩; have HR1 := Aside0.mk hR1; clear hR1 HB)))
      go_quiet (fail)
      all_goals
        try go_wp2
        go_ret
        exact ⟨rfl, by repeat (first | exact HB1.out | apply below_drew1 | apply pw_below_drewN)⟩
end Go.Proofs.YtmnnhbikdgpedaaDoor.Lx
