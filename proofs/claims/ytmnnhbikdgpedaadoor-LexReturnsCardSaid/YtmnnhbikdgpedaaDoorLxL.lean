/- lex.Tokens has its contract. -/
import Derived.Test.YtmnnhbikdgpedaaDoorLxK
import Derived.RangeFuncBox
import Derived.Maps.AppendAt
import Derived.Maps.OwnIn
import Derived.Deep.AppendLies
import Derived.Deep.RegionHeld3
namespace Go.Proofs.YtmnnhbikdgpedaaDoor.Lx
open Go.RowKit Go.Shelf Go.Proofs.YtmnnhbikdgpedaaDoorW.PrintWords Go.Proofs.YtmnnhbikdgpedaaDoorW.PrintLast Go.Proofs.YtmnnhbikdgpedaaDoorW.PrintMore
open Go.Proofs.YtmnnhbikdgpedaaDoor.Rf
set_option linter.unusedVariables false
set_option linter.unusedSimpArgs false
attribute [local go_sem] Oper.semAt_some

theorem iter_calls (s : ByteArray) (w : World) :
    Calls Tryd.prog 35 #[.string s] w fun e w' => e = .returned (.func (.func 65) #[] #[.pointer (some ⟨w.heap.size, 0, none⟩)]) ∧ w.alloc (.cells #[.string s] 9) = w' := by
  go_enter Tryd.func35, Tryd.ntmps35
  go_wp2
  go_ret
  exact ⟨rfl, rfl⟩

def cellsOf (s : ByteArray) (xs : List (Tok × Nat)) : List Value := xs.flatMap fun x => [.int .i64 x.1.kind, .string (s.extract x.2 x.1.fin), .int .i64 x.2]
theorem cellsOf_snoc (s : ByteArray) (xs : List (Tok × Nat)) (x : Tok × Nat) : cellsOf s (xs ++ [x]) = cellsOf s xs ++ [.int .i64 x.1.kind, .string (s.extract x.2 x.1.fin), .int .i64 x.2] := by simp [cellsOf]

theorem cellsOf_at (s : ByteArray) : ∀ (xs : List (Tok × Nat)) (k : Nat) (h : k < xs.length), (cellsOf s xs)[3 * k + 2]? = some (.int .i64 (xs[k]).2)
  | [], k, h => by simp at h
  | x :: xs, 0, h => by simp [cellsOf]
  | x :: xs, k + 1, h => by
    have h2 : k < xs.length := by simpa using h
    have ih := cellsOf_at s xs k h2
    rw [show cellsOf s (x :: xs) = [.int .i64 x.1.kind, .string (s.extract x.2 x.1.fin), .int .i64 x.2] ++ cellsOf s xs from by simp [cellsOf], List.getElem?_append_right (by simp; omega)]
    simp only [List.length_cons, List.length_nil, List.getElem_cons_succ]
    rw [show 3 * (k + 1) + 2 - (0 + 1 + 1 + 1) = 3 * k + 2 by omega]
    exact ih

/-- What Tokens comes to: the tokens, or the place and the number of an error. -/
def tokRes (s : ByteArray) : List (Tok × Nat) × Int × Int :=
  if 65536 < s.size then ([], 0, 23)
  else match (lexFrom s 0).find? (fun x => x.1.bad != 0) with
    | some x => ([], x.2, x.1.bad)
    | none => if h : 20000 < (lexFrom s 0).length then ([], ((lexFrom s 0)[20000]).2, 5) else (lexFrom s 0, 0, 0)

theorem lexFrom_length (s : ByteArray) (i : Nat) (hi : i ≤ s.size) : (lexFrom s i).length ≤ s.size - i + 1 := by
  revert hi
  fun_induction lexFrom s i with
  | case1 i h => intro _; simp
  | case2 i h h1 h2 h3 ih => intro hi; have := ih h3.2; simp only [List.length_cons]; omega
  | case3 i h h1 h2 h3 => intro _; simp
  | case4 i h h1 h2 => intro _; simp
  | case5 i h h1 => intro _; simp

/-- What lies in memory between two rounds of Tokens. -/
structure TI (w : World) (s : ByteArray) (pre : List (Tok × Nat)) (own : List Nat) (W : World) : Prop where
  r2 : Boxed W w.heap.size 26 (.slice none 0 0)
  r3 : Boxed W (w.heap.size + 1) 3 (.int .i64 0)
  r4 : Boxed W (w.heap.size + 1 + 1) 27 (.int .i64 0)
  ot : ∃ v, Boxed W (w.heap.size + 1 + 1 + 1) 26 v ∧ W.ownsRow w.heap.size 49 3 v pre.length (cellsOf s pre) ∧ ∀ g, v.ownBlock = some g → g ∉ own
  no : ∀ k, k < 4 → w.heap.size + k ∉ own
  bl : Below w.heap.size w W
  ok : ∀ x, x ∈ pre → x.1.bad = 0

structure TX (w : World) (s : ByteArray) (pre : List (Tok × Nat)) (own : List Nat) (W : World) : Prop where
  r2 : Boxed W w.heap.size 26 (.slice none 0 0)
  r34 : ∃ q x, pre = q ++ [x] ∧ (∀ y, y ∈ q → y.1.bad = 0) ∧ x.1.bad ≠ 0 ∧ Boxed W (w.heap.size + 1) 3 (.int .i64 x.2) ∧ Boxed W (w.heap.size + 1 + 1) 27 (.int .i64 x.1.bad)
  no : ∀ k, k < 4 → w.heap.size + k ∉ own
  bl : Below w.heap.size w W

theorem boxed_turn {n₀ : Nat} {own : List Nat} {A B : World} {b : Nat} {t : TypeId} {v : Value} (h : Boxed A b t v) (ht : Turn n₀ own A B) (hno : b ∉ own) : Boxed B b t v := ht.cells b _ h rfl hno
theorem ownsRow_turn {n₀ : Nat} {own : List Nat} {A B : World} {base : Nat} {e : TypeId} {size : Nat} {v : Value} {n : Nat} {xs : List Value} (h : A.ownsRow base e size v n xs) (ht : Turn n₀ own A B) (hno : ∀ g, v.ownBlock = some g → g ∉ own) : B.ownsRow base e size v n xs := by
  refine ⟨h.1, ?_⟩
  rcases h.2 with hn | ⟨g, cap, cur, rfl, hb, hgg, rest⟩
  · exact .inl hn
  · exact .inr ⟨g, cap, cur, rfl, hb, ht.cells g _ hgg rfl (hno g rfl), rest⟩
theorem below_turn {n₀ : Nat} {own : List Nat} {w A B : World} (h : Below n₀ w A) (ht : Turn n₀ own A B) : Below n₀ w B := h.trans ⟨ht.os, ht.tape, ht.output, ht.size, ht.low⟩

theorem TI.turn {w : World} {s : ByteArray} {pre : List (Tok × Nat)} {own : List Nat} {A B : World} (h : TI w s pre own A) (ht : Turn w.heap.size own A B) : TI w s pre own B := by
  obtain ⟨r2, r3, r4, ⟨v, o1, o2, o3⟩, no, bl, ok⟩ := h
  exact ⟨boxed_turn r2 ht (no 0 (by omega)), boxed_turn r3 ht (no 1 (by omega)), boxed_turn r4 ht (no 2 (by omega)), ⟨v, boxed_turn o1 ht (no 3 (by omega)), ownsRow_turn o2 ht o3, o3⟩, no, below_turn bl ht, ok⟩
theorem TX.turn {w : World} {s : ByteArray} {pre : List (Tok × Nat)} {own : List Nat} {A B : World} (h : TX w s pre own A) (ht : Turn w.heap.size own A B) : TX w s pre own B := by
  obtain ⟨r2, ⟨q, x, e, h1, h2, r3, r4⟩, no, bl⟩ := h
  exact ⟨boxed_turn r2 ht (no 0 (by omega)), ⟨q, x, e, h1, h2, boxed_turn r3 ht (no 1 (by omega)), boxed_turn r4 ht (no 2 (by omega))⟩, no, below_turn bl ht⟩
theorem TI.adopt {w : World} {s : ByteArray} {pre : List (Tok × Nat)} {own : List Nat} {A : World} {r : Nat} (h : TI w s pre own A) (hr : A.heap.size ≤ r) : TI w s pre (r :: own) A := by
  obtain ⟨r2, r3, r4, ⟨v, o1, o2, o3⟩, no, bl, ok⟩ := h
  refine ⟨r2, r3, r4, ⟨v, o1, o2, fun g hg => ?_⟩, fun k hk => ?_, bl, ok⟩
  · have := (o2.lt g hg).2
    simp only [List.mem_cons, not_or]
    exact ⟨by omega, o3 g hg⟩
  · have := o1.lt
    simp only [List.mem_cons, not_or]
    exact ⟨by omega, no k hk⟩

theorem boxed_at (W : World) (n : Nat) (t : TypeId) (v : Value) (h : n = W.heap.size) : Boxed (W.alloc (.cells #[v] t)) n t v := by subst h; exact Boxed.new W t v
theorem info49 : (Tryd.prog.info? 49).map (fun i => (i.zero, i.size, i.bytes)) = some (some (.agg #[(.int .i64 0), (.string ⟨#[]⟩), (.int .i64 0)]), 3, 32) := by kernel_rfl
theorem below_alloc' {B : Nat} {w W : World} (h : Below B w W) (hB : B ≤ W.heap.size) (o : Obj) : Below B w (W.alloc o) := h.alloc hB o

theorem boxed_put {W : World} {B D : Nat} {t : TypeId} {v : Value} (h : Boxed W B t v) (hne : B ≠ D) (o : Obj) : Boxed (W.putObj D o) B t v := (World.putObj_heap_other hne).trans h

/-- What Tokens hands back when its mark has been taken. -/
theorem tokens_end (w W3 : World) (D : Nat) (tmps : Array Value) (v : Value) (x y : Int) (R : Ending → World → Prop) (h2 : tmps[2]?.getD undef = .pointer (some ⟨w.heap.size, 0, none⟩)) (h3 : tmps[3]?.getD undef = .pointer (some ⟨w.heap.size + 1, 0, none⟩))
    (h4 : tmps[4]?.getD undef = .pointer (some ⟨w.heap.size + 1 + 1, 0, none⟩)) (hD : w.heap.size + 3 < D) (hK : W3.heap[D]? = some (.deferred (some []))) (c0 : Boxed W3 w.heap.size 26 v) (c1 : Boxed W3 (w.heap.size + 1) 3 (.int .i64 x)) (c2 : Boxed W3 (w.heap.size + 1 + 1) 27 (.int .i64 y))
    (hR : R (.returned (.tuple #[v, .int .i64 x, .int .i64 y])) (W3.putObj D (.deferred none))) : bodyPostM Fence.wide 6 Tryd.prog Tryd.f10 R Exit.ret { tmps, defers := [{ target := .collected D, args := #[] }] } W3 := by
  refine ⟨by simp, .inl ⟨_, _, rfl, run_takeDeferred hK, ?_⟩⟩
  refine ⟨_, ?_, hR⟩
  have k0 := (boxed_put (D := D) c0 (by omega) (.deferred none)).cell
  have k1 := (boxed_put (D := D) c1 (by omega) (.deferred none)).cell
  have k2 := (boxed_put (D := D) c2 (by omega) (.deferred none)).cell
  simp [results, Tryd.results10, go_sem, h2, h3, h4, k0, k1, k2]

set_option maxHeartbeats 8000000 in
set_option maxRecDepth 100000 in
theorem tokens_calls (s : ByteArray) (hs : s.size ≤ 140737488351232) (w : World) (hE : Env w) :
    Calls Tryd.prog 10 #[.string s] w fun e w' => ∃ v, e = .returned (.tuple #[v, .int .i64 (tokRes s).2.1, .int .i64 (tokRes s).2.2]) ∧ w'.ownsRow w.heap.size 49 3 v (tokRes s).1.length (cellsOf s (tokRes s).1) ∧ Below w.heap.size w w' := by
  by_cases hsz : 65536 < s.size
  · have E := Aside0.mk (show tokRes s = ([], 0, 23) by rw [tokRes, if_pos hsz])
    have hb : decide (65536 < (s.size : Int)) = true := by simp; omega
    rw [E.out]
    go_enter Tryd.func10, Tryd.ntmps10
    go_wp2
    go_returns
    exact ⟨_, rfl, World.ownsRow_nil _ _ _ _, by repeat (first | exact Below.refl _ _ | apply below_alloc | apply pw_below_drewN)⟩
  · have hb : decide (65536 < (s.size : Int)) = false := by simp; omega
    refine (callsIn_wide (n := 6)).1 ?_
    refine callsIn_of_wp_marks Tryd.func10 rfl trivial ?_ rfl
    simp only [Tryd.ntmps10, List.size_toArray, List.length_cons, List.length_nil, Nat.reduceAdd, Nat.reduceSub, Array.replicate_succ, Array.replicate_zero, List.push_toArray, List.append_toArray, List.nil_append, List.cons_append]
    gi_wp2_with (first | (refine ⟨trivial, ?_⟩; gi_at_call 35; refine (callsIn_wide.2 (iter_calls s _)).mono ?_; rintro e w' ⟨rfl, rfl⟩))
    have hb0 : Below w.heap.size w (((((w.alloc (Obj.cells #[Value.slice none 0 0] 26)).alloc (Obj.cells #[Value.int IntKind.i64 0] 3)).alloc (Obj.cells #[Value.int IntKind.i64 0] 27)).alloc (Obj.cells #[Value.slice none 0 0] 26)).alloc (Obj.cells #[Value.string s] 9)) := below_alloc (below_alloc (below_alloc (below_alloc (below_alloc (Below.refl _ _) _) _) _) _) _
    have hcs : (((((w.alloc (Obj.cells #[Value.slice none 0 0] 26)).alloc (Obj.cells #[Value.int IntKind.i64 0] 3)).alloc (Obj.cells #[Value.int IntKind.i64 0] 27)).alloc (Obj.cells #[Value.slice none 0 0] 26)).alloc (Obj.cells #[Value.string s] 9)).cell? ⟨w.heap.size + 1 + 1 + 1 + 1, 0, none⟩ = some (.string s) := by simp [go_sem]
    have I0 : TI w s [] [w.heap.size + 1 + 1 + 1 + 1] (((((w.alloc (Obj.cells #[Value.slice none 0 0] 26)).alloc (Obj.cells #[Value.int IntKind.i64 0] 3)).alloc (Obj.cells #[Value.int IntKind.i64 0] 27)).alloc (Obj.cells #[Value.slice none 0 0] 26)).alloc (Obj.cells #[Value.string s] 9)) := by
      refine ⟨?_, ?_, ?_, ⟨_, ?_, World.ownsRow_nil _ _ _ _, fun g hg => by simp [Value.ownBlock] at hg⟩, fun k hk => by simp; omega, hb0, fun x hx => by cases hx⟩
      · exact ((((boxed_at w _ 26 _ rfl).alloc _).alloc _).alloc _).alloc _
      · exact (((boxed_at (w.alloc _) _ 3 _ (by simp)).alloc _).alloc _).alloc _
      · exact ((boxed_at ((w.alloc _).alloc _) _ 27 _ (by simp)).alloc _).alloc _
      · exact (boxed_at (((w.alloc _).alloc _).alloc _) _ 26 _ (by simp)).alloc _
    have hW0 : ∃ W0, W0 = (((((w.alloc (Obj.cells #[Value.slice none 0 0] 26)).alloc (Obj.cells #[Value.int IntKind.i64 0] 3)).alloc (Obj.cells #[Value.int IntKind.i64 0] 27)).alloc (Obj.cells #[Value.slice none 0 0] 26)).alloc (Obj.cells #[Value.string s] 9)) := ⟨_, rfl⟩
    obtain ⟨W0, hW0⟩ := hW0
    rw [← hW0] at hb0 hcs I0
    have hz0 : W0.heap.size = w.heap.size + 5 := by rw [hW0]; simp
    have hgo : Fence.wide.round = none := rfl
    rw [← hW0]
    clear hW0
    refine wpIn_range (own0 := [w.heap.size + 1 + 1 + 1 + 1]) (n₀ := w.heap.size) rfl (by omega) (gf := 65) (lb := #[.pointer (some ⟨w.heap.size + 1 + 1 + 1 + 1, 0, none⟩)]) rfl trivial Tryd.call65 (iter_seq 5 (by omega) s (by omega) w W0 hE hb0 _ (by omega) hcs) (by omega) (fun _ => rfl) (fun r hr => by simp only [List.mem_singleton] at hr; omega)
      (TI w s) (fun c pre own W => c = .ret ∧ TX w s pre own W) (fun pre own A B h ht => h.turn ht) (fun pre own A r h hr => h.adopt hr) (fun c pre own A B h ht => ⟨h.1, h.2.turn ht⟩) I0
      (fun pre own x a' W => ∃ Bx, Bx ∉ own ∧ w.heap.size + 3 < Bx ∧ W.heap[Bx]? = some (.cells #[.int .i64 x.1.kind, .string (s.extract x.2 x.1.fin), .int .i64 x.2, .int .i64 x.1.bad] 68 (0, 0)) ∧ a' = { tmps := #[Value.string s, undef, Value.pointer (some ⟨w.heap.size, 0, none⟩), Value.pointer (some ⟨w.heap.size + 1, 0, none⟩), Value.pointer (some ⟨w.heap.size + 1 + 1, 0, none⟩), Value.pointer (some ⟨w.heap.size + 1 + 1 + 1, 0, none⟩), Value.pointer (some ⟨Bx, 0, none⟩), Value.string s, Value.int IntKind.i64 ↑s.size, Value.bool false, Value.string s, Value.func (Fn.func 65) #[] #[Value.pointer (some ⟨w.heap.size + 1 + 1 + 1 + 1, 0, none⟩)], Value.agg #[.int .i64 x.1.kind, .string (s.extract x.2 x.1.fin), .int .i64 x.2, .int .i64 x.1.bad], undef, undef, undef, undef, undef, undef, undef, undef, undef, undef, undef, undef, undef, undef, undef, undef, undef, undef, undef, undef, undef], defers := [] }) ?ax ?assign ?body ?done ?stop
    case ax =>
      rintro pre own x a' A B ⟨Bx, h1, h2, h3, h4⟩ ht
      exact ⟨Bx, h1, h2, ht.cells _ _ h3 rfl h1, h4⟩
    case assign =>
      intro l pre own x W K ho hz hI hK
      unfold foundV
      gi_wp2
      refine hK _ _ ((KeepsOthers.alloc _ _).from _) ?_ ?_ ⟨W.heap.size, ?_, ?_, World.alloc_heap_new _ _, rfl⟩
      · exact ⟨below_alloc' (Below.refl _ _) (by omega) _, fun r hr hl => Below.heap_alloc _ _ _ hl⟩
      · exact hI.turn (Turn.alloc _ (by omega))
      · intro hm
        have := (ho _ hm).2
        omega
      · omega
    case body =>
      rintro l pre own x a' W ho hz ⟨r2, r3, r4, ⟨v, o1, o2, o3⟩, no, bl, ok⟩ ⟨Bx, hx1, hx2, hx3, rfl⟩ hlen
      have c0 : W.cell? ⟨Bx, 0, none⟩ = some (.int .i64 x.1.kind) := by simp [World.cell?, hx3]
      have c1 : W.cell? ⟨Bx, 1, none⟩ = some (.string (s.extract x.2 x.1.fin)) := by simp [World.cell?, hx3]
      have c2 : W.cell? ⟨Bx, 2, none⟩ = some (.int .i64 x.2) := by simp [World.cell?, hx3]
      have c3 : W.cell? ⟨Bx, 3, none⟩ = some (.int .i64 x.1.bad) := by simp [World.cell?, hx3]
      by_cases hbd : x.1.bad = 0
      · have hbb : (x.1.bad != 0) = false := by simp [hbd]
        have HBD := Aside0.mk hbd
        clear hbd
        have oc := o1.cell
        have of := o1.frozen
        have hlen2 : pre.length + 1 ≤ 70000 := by
          have := lexFrom_length s 0 (by omega)
          omega
        obtain ⟨i0, hi0, hz1, hz2, hz3⟩ := info_parts info49
        gi_wp2_with (first | (gi_at_builtin; (refine wpListIn_append_own_at _ rfl _ _ 26 rfl w.heap.size 49 i0 (.agg #[.int .i64 0, .string ⟨#[]⟩, .int .i64 0]) 3 32 Tryd.underlying26 hi0 hz1 hz2 hz3 rfl (by decide) _ _ _ rfl (o2.alloc _) ⟨W.heap.size, 0, none⟩ 1 1 [.int .i64 x.1.kind, .string (s.extract x.2 x.1.fin), .int .i64 x.2] rfl rfl ?c1 ?c2 ?c3 ?c4 ?c5 ?c6; (case c1 => exact World.news_of_block (World.alloc_heap_new W _)); (case c2 => simp [Value.oneCell']); (case c3 => simp only [maxLen]; omega); (case c4 => omega); (case c5 => simp; omega); intro v' w1 hown' hgrow hnil hat; obtain ⟨g', cap', rfl⟩ := ownsRow_succ hown'; obtain ⟨hv1, hv2, hr2, hk2, hb2⟩ := o1.appended (by decide) o2 bl.size (by omega) hown' hgrow; have hc1 := hv1.cell; have hf1 := hv1.frozen)))
        refine ⟨hk2.from _, ⟨hb2, ?_⟩, ?_, ?_, ?_, ⟨_, hv2, ?_, ?_⟩, no, bl.trans hb2, ?_⟩
        · intro r hr hl
          refine (Below.heap_setCell _ _ _ _ (fun e => no 3 (by omega) (by rw [show w.heap.size + 3 = r from e.symm]; exact hr))).trans ((hgrow.block r (by simp; omega) (fun e => o3 r e.symm hr)).trans (Below.heap_alloc _ _ _ hl))
        · exact ((r2.alloc _).kept hgrow (r2.not_row (by decide) o2)).other (by omega) _
        · exact ((r3.alloc _).kept hgrow (r3.not_row (by decide) o2)).other (by omega) _
        · exact ((r4.alloc _).kept hgrow (r4.not_row (by decide) o2)).other (by omega) _
        · rw [cellsOf_snoc, List.length_append]
          exact hr2
        · intro g hg hm
          rcases hat with hat | hat
          · exact o3 g (hat ▸ hg) hm
          · rw [hat] at hg
            cases hg
            have := (ho _ hm).2
            simp at this
            omega
        · intro y hy
          rcases List.mem_append.1 hy with hy | hy
          · exact ok y hy
          · simp only [List.mem_singleton] at hy
            rw [hy]
            exact HBD.out
      · have hbb : (x.1.bad != 0) = true := by simp [hbd]
        have HBD := Aside0.mk hbd
        have q0 := r2.cell
        have q1 := r3.cell
        have q2 := r4.cell
        have e0 := r2.frozen
        have e1 := r3.frozen
        have e2 := r4.frozen
        have mixed : Tryd.prog.follows .mixedOrders = true := by kernel_rfl
        have HF := Aside0.mk (show TX w s (pre ++ [x]) own (((W.setCell ⟨w.heap.size, 0, none⟩ (Value.slice none 0 0)).setCell ⟨w.heap.size + 1, 0, none⟩ (Value.int IntKind.i64 ↑x.2)).setCell ⟨w.heap.size + 1 + 1, 0, none⟩ (Value.int IntKind.i64 x.1.bad)).drew from
          ⟨((r2.set _).other (by omega) _).other (by omega) _, ⟨pre, x, rfl, ok, hbd, (((r3.other (by omega) _).set _).other (by omega) _), ((r4.other (by omega) _).other (by omega) _).set _⟩, no, (((bl.setCell (p := ⟨w.heap.size, 0, none⟩) (Nat.le_refl _) _).setCell (p := ⟨w.heap.size + 1, 0, none⟩) (by simp) _).setCell (p := ⟨w.heap.size + 1 + 1, 0, none⟩) (by simp; omega) _).drew⟩)
        have HG := Aside0.mk (show KeepsFrom W0.heap.size W (((W.setCell ⟨w.heap.size, 0, none⟩ (Value.slice none 0 0)).setCell ⟨w.heap.size + 1, 0, none⟩ (Value.int IntKind.i64 ↑x.2)).setCell ⟨w.heap.size + 1 + 1, 0, none⟩ (Value.int IntKind.i64 x.1.bad)).drew from
          ((((KeepsOthers.setCell _ _ _).trans (KeepsOthers.setCell _ _ _)).trans (KeepsOthers.setCell _ _ _)).trans (KeepsOthers.drew _)).from _)
        clear hbd r2 r3 r4 o1 o2 o3 no bl ok
        gi_wp2
        gi_region_with_o (fail)
        all_goals
          gi_wp2
          exact ⟨HG.out, rfl, HF.out⟩
    case done =>
      rintro D xs own W hD rfl hI hK
      obtain ⟨r2, r3, r4, ⟨v, o1, o2, o3⟩, no, bl, ok⟩ := hI
      have hfi : (lexFrom s 0).find? (fun x => x.1.bad != 0) = none := by
        rw [List.find?_eq_none]
        intro x hx
        simp [ok x hx]
      have oc := o1.cell
      have q0 := r2.cell
      have q1 := r3.cell
      have q2 := r4.cell
      have e0 := r2.frozen
      have e1 := r3.frozen
      have e2 := r4.frozen
      obtain ⟨A, c, hv⟩ := own_slice o2
      rw [hv] at oc o2
      by_cases hm : 20000 < (lexFrom s 0).length
      · have E := Aside0.mk (show tokRes s = ([], (((lexFrom s 0)[20000]).2 : Int), 5) by rw [tokRes, if_neg hsz, hfi]; simp [hm])
        have hmb : decide (20000 < ((lexFrom s 0).length : Int)) = true := by simp; omega
        have hmc : decide (20000 < (lexFrom s 0).length) = true := by simp; omega
        have hget : (cellsOf s (lexFrom s 0))[60002]? = some (.int .i64 ((lexFrom s 0)[20000]).2) := cellsOf_at s _ 20000 hm
        obtain ⟨g, cap, hA, hgb, _⟩ := o2.form (by omega)
        injection hA with hA1 hA2 hA3
        subst hA1
        have hcell := o2.cells (g := g) rfl 60002 _ hget
        rw [add_plain] at hcell
        generalize ((lexFrom s 0)[20000]).2 = at2 at *
        generalize hxs : lexFrom s 0 = xs at *
        have HXS := Aside0.mk hxs
        have mixed : Tryd.prog.follows .mixedOrders = true := by kernel_rfl
        have qi : (20000 < xs.length) = True := eq_true hm
        have qj : ((20000 : Int) < (xs.length : Int)) = True := eq_true (by omega)
        have HB2 := Aside0.mk r2
        have HB3 := Aside0.mk r3
        have HB4 := Aside0.mk r4
        clear hxs hfi hm o1 r2 r3 r4 hget
        gi_wp2
        refine wpIn_mono (Q := NoPanic _) ?_ NoPanic.imp
        gi_region_with_o (fail)
        all_goals
          refine NoPanic.normal ?_
          gi_wp2
          refine tokens_end w _ D _ (.slice none 0 0) at2 5 _ rfl rfl rfl (by omega) (((((KeepsOthers.setCell _ _ _).trans (KeepsOthers.setCell _ _ _)).trans (KeepsOthers.setCell _ _ _)).trans (KeepsOthers.drew _)).same D _ hK rfl) (((HB2.out.set _).other (by omega) _).other (by omega) _) (((HB3.out.other (by omega) _).set _).other (by omega) _) (((HB4.out.other (by omega) _).other (by omega) _).set _) ?_
          rw [E.out]
          exact ⟨_, rfl, World.ownsRow_nil _ _ _ _, (((bl.setCell (p := ⟨w.heap.size, 0, none⟩) (Nat.le_refl _) _).setCell (p := ⟨w.heap.size + 1, 0, none⟩) (by simp) _).setCell (p := ⟨w.heap.size + 1 + 1, 0, none⟩) (by simp; omega) _).drew.trans (belowK_b (w := w) (Nat.le_refl _) _ D _ _ (by omega) (((((KeepsOthers.setCell _ _ _).trans (KeepsOthers.setCell _ _ _)).trans (KeepsOthers.setCell _ _ _)).trans (KeepsOthers.drew _)).same D _ hK rfl) rfl rfl)⟩
      · have E := Aside0.mk (show tokRes s = (lexFrom s 0, 0, 0) by rw [tokRes, if_neg hsz, hfi]; simp [hm])
        have hmb : decide (20000 < ((lexFrom s 0).length : Int)) = false := by simp; omega
        have hmc : decide (20000 < (lexFrom s 0).length) = false := by simp; omega
        have n2 := Aside0.mk (r2.not_row (by decide) o2)
        have n3 := Aside0.mk (r3.not_row (by decide) o2)
        have n4 := Aside0.mk (r4.not_row (by decide) o2)
        have HB2 := Aside0.mk r2
        have HB3 := Aside0.mk r3
        have HB4 := Aside0.mk r4
        generalize hxs : lexFrom s 0 = xs at *
        have HXS := Aside0.mk hxs
        clear hxs hfi hm o1 r2 r3 r4
        gi_wp2
        refine tokens_end w _ D _ (.slice A xs.length c) 0 0 _ rfl rfl rfl (by omega) ((((KeepsOthers.setCell _ _ _).trans (KeepsOthers.setCell _ _ _)).trans (KeepsOthers.setCell _ _ _)).same D _ hK rfl) (((HB2.out.set _).other (by omega) _).other (by omega) _) (((HB3.out.other (by omega) _).set _).other (by omega) _) (((HB4.out.other (by omega) _).other (by omega) _).set _) ?_
        rw [E.out]
        refine ⟨_, rfl, ?_, ?_⟩
        · refine ownsRow_putObj ?_ _ ((((KeepsOthers.setCell _ _ _).trans (KeepsOthers.setCell _ _ _)).trans (KeepsOthers.setCell _ _ _)).same D _ hK rfl) rfl
          exact (((o2.kept (grownBy_setCell' _ _ _) (.inr n2.out.symm)).kept (grownBy_setCell' _ _ _) (.inr n3.out.symm)).kept (grownBy_setCell' _ _ _) (.inr n4.out.symm))
        · exact (((bl.setCell (p := ⟨w.heap.size, 0, none⟩) (Nat.le_refl _) _).setCell (p := ⟨w.heap.size + 1, 0, none⟩) (by simp) _).setCell (p := ⟨w.heap.size + 1 + 1, 0, none⟩) (by simp; omega) _).trans (belowK_b (w := w) (Nat.le_refl _) _ D _ _ (by omega) ((((KeepsOthers.setCell _ _ _).trans (KeepsOthers.setCell _ _ _)).trans (KeepsOthers.setCell _ _ _)).same D _ hK rfl) rfl rfl)
    case stop =>
      rintro D c pre own W hD hSp ⟨rfl, ⟨r2, ⟨q, x, rfl, g1, g2, r3, r4⟩, no, bl⟩⟩ hK
      have E := Aside0.mk (show tokRes s = ([], (x.2 : Int), x.1.bad) by
        have hl : ∃ rest, lexFrom s 0 = q ++ (x :: rest) := by
          obtain ⟨rest, hrest⟩ := hSp
          exact ⟨rest, by rw [← hrest]; simp⟩
        obtain ⟨rest, hrest⟩ := hl
        have hf : (lexFrom s 0).find? (fun x => x.1.bad != 0) = some x := by
          rw [hrest, List.find?_append, show q.find? (fun x => x.1.bad != 0) = none from by rw [List.find?_eq_none]; intro y hy; simp [g1 y hy]]
          simp [List.find?_cons, g2]
        rw [tokRes, if_neg hsz, hf])
      gi_wp2
      refine tokens_end w _ D _ (.slice none 0 0) x.2 x.1.bad _ rfl rfl rfl (by omega) hK r2 r3 r4 ?_
      rw [E.out]
      exact ⟨_, rfl, World.ownsRow_nil _ _ _ _, bl.trans (belowK_b (w := w) (Nat.le_refl _) _ D _ _ (by omega) hK rfl rfl)⟩
end Go.Proofs.YtmnnhbikdgpedaaDoor.Lx
