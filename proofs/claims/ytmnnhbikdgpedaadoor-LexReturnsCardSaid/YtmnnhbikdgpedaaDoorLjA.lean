/- lex.alone has its contract. -/
import Derived.Test.YtmnnhbikdgpedaaDoorLxL
import Derived.Test.YtmnnhbikdgpedaaDoorLxP
namespace Go.Proofs.YtmnnhbikdgpedaaDoor.Lx
open Go.RowKit Go.Shelf Go.Proofs.YtmnnhbikdgpedaaDoorW.PrintWords Go.Proofs.YtmnnhbikdgpedaaDoorW.PrintLast Go.Proofs.YtmnnhbikdgpedaaDoorW.PrintMore
open Go.Proofs.YtmnnhbikdgpedaaDoor.Rf
set_option linter.unusedVariables false
set_option linter.unusedSimpArgs false
attribute [local go_sem] Oper.semAt_some

/-- How long a token's text is. -/
def wid (s : ByteArray) (x : Tok × Nat) : Nat := (s.extract x.2 x.1.fin).size
/-- No token has an error, and each begins where the one ahead of it ends. -/
def contig (s : ByteArray) : List (Tok × Nat) → Nat → Bool
  | [], _ => true
  | x :: xs, p => (x.1.bad == 0) && (x.2 == p) && contig s xs (p + wid s x)
def lastAt (s : ByteArray) : List (Tok × Nat) → Nat → Nat
  | [], p => p
  | x :: xs, p => lastAt s xs (p + wid s x)
theorem contig_snoc (s : ByteArray) (x : Tok × Nat) : ∀ (xs : List (Tok × Nat)) (p : Nat), contig s (xs ++ [x]) p = (contig s xs p && ((x.1.bad == 0) && (x.2 == lastAt s xs p)))
  | [], p => by simp [contig, lastAt]
  | y :: ys, p => by rw [List.cons_append, contig, contig, contig_snoc s x ys, lastAt, Bool.and_assoc, Bool.and_assoc, Bool.and_assoc]
theorem lastAt_snoc (s : ByteArray) (x : Tok × Nat) : ∀ (xs : List (Tok × Nat)) (p : Nat), lastAt s (xs ++ [x]) p = lastAt s xs p + wid s x
  | [], p => rfl
  | y :: ys, p => by rw [List.cons_append, lastAt, lastAt_snoc s x ys, lastAt]
theorem wid_le (s : ByteArray) (x : Tok × Nat) : wid s x ≤ s.size := by simp [wid]; omega
theorem lastAt_le (s : ByteArray) (hs : s.size ≤ 70000) : ∀ (xs : List (Tok × Nat)) (p : Nat), lastAt s xs p ≤ p + xs.length * 70000
  | [], p => by simp [lastAt]
  | y :: ys, p => by
    rw [lastAt, List.length_cons, Nat.succ_mul]
    have := lastAt_le s hs ys (p + wid s y)
    have := wid_le s y
    omega

/-- What alone hands back. -/
def aloneB (s : ByteArray) : List (Tok × Nat) := if contig s (lexFrom s 0) 0 = true ∧ lastAt s (lexFrom s 0) 0 = s.size then lexFrom s 0 else []

structure AI (w : World) (s : ByteArray) (pre : List (Tok × Nat)) (own : List Nat) (W : World) : Prop where
  r2 : Boxed W w.heap.size 26 (.slice none 0 0)
  ot : ∃ v, Boxed W (w.heap.size + 1) 26 v ∧ W.ownsRow w.heap.size 49 3 v pre.length (cellsOf s pre) ∧ ∀ g, v.ownBlock = some g → g ∉ own
  r4 : Boxed W (w.heap.size + 1 + 1) 3 (.int .i64 (lastAt s pre 0))
  no : ∀ k, k < 3 → w.heap.size + k ∉ own
  bl : Below w.heap.size w W
  ok : contig s pre 0 = true

structure AX (w : World) (s : ByteArray) (pre : List (Tok × Nat)) (own : List Nat) (W : World) : Prop where
  r2 : Boxed W w.heap.size 26 (.slice none 0 0)
  ex : contig s pre 0 = false
  no : ∀ k, k < 3 → w.heap.size + k ∉ own
  bl : Below w.heap.size w W

theorem AI.turn {w : World} {s : ByteArray} {pre : List (Tok × Nat)} {own : List Nat} {A B : World} (h : AI w s pre own A) (ht : Turn w.heap.size own A B) : AI w s pre own B := by
  obtain ⟨r2, ⟨v, o1, o2, o3⟩, r4, no, bl, ok⟩ := h
  exact ⟨boxed_turn r2 ht (no 0 (by omega)), ⟨v, boxed_turn o1 ht (no 1 (by omega)), ownsRow_turn o2 ht o3, o3⟩, boxed_turn r4 ht (no 2 (by omega)), no, below_turn bl ht, ok⟩
theorem AX.turn {w : World} {s : ByteArray} {pre : List (Tok × Nat)} {own : List Nat} {A B : World} (h : AX w s pre own A) (ht : Turn w.heap.size own A B) : AX w s pre own B := by
  obtain ⟨r2, ex, no, bl⟩ := h
  exact ⟨boxed_turn r2 ht (no 0 (by omega)), ex, no, below_turn bl ht⟩
theorem AI.adopt {w : World} {s : ByteArray} {pre : List (Tok × Nat)} {own : List Nat} {A : World} {r : Nat} (h : AI w s pre own A) (hr : A.heap.size ≤ r) : AI w s pre (r :: own) A := by
  obtain ⟨r2, ⟨v, o1, o2, o3⟩, r4, no, bl, ok⟩ := h
  refine ⟨r2, ⟨v, o1, o2, fun g hg => ?_⟩, r4, fun k hk => ?_, bl, ok⟩
  · have := (o2.lt g hg).2
    simp only [List.mem_cons, not_or]
    exact ⟨by omega, o3 g hg⟩
  · have := o1.lt
    have := r4.lt
    simp only [List.mem_cons, not_or]
    exact ⟨by omega, no k hk⟩

theorem contig_pre (s : ByteArray) : ∀ (q r : List (Tok × Nat)) (p : Nat), contig s q p = false → contig s (q ++ r) p = false
  | [], r, p, h => by simp [contig] at h
  | x :: q, r, p, h => by
    rw [contig] at h
    rw [List.cons_append, contig]
    cases h1 : ((x.1.bad == 0) && (x.2 == p))
    · rfl
    · rw [h1, Bool.true_and] at h
      rw [Bool.true_and]
      exact contig_pre s q r _ h

/-- What alone hands back when its mark has been taken. -/
theorem alone_end (w W3 : World) (D : Nat) (tmps : Array Value) (v : Value) (R : Ending → World → Prop) (h2 : tmps[2]?.getD undef = .pointer (some ⟨w.heap.size, 0, none⟩)) (hD : w.heap.size < D) (hK : W3.heap[D]? = some (.deferred (some []))) (c0 : Boxed W3 w.heap.size 26 v)
    (hR : R (.returned v) (W3.putObj D (.deferred none))) : bodyPostM Fence.wide 6 Tryd.prog Tryd.f82 R Exit.ret { tmps, defers := [{ target := .collected D, args := #[] }] } W3 := by
  refine ⟨by simp, .inl ⟨_, _, rfl, run_takeDeferred hK, ?_⟩⟩
  refine ⟨_, ?_, hR⟩
  have k0 := (boxed_put (D := D) c0 (by omega) (.deferred none)).cell
  simp [results, Tryd.results82, go_sem, h2, k0]

set_option maxHeartbeats 8000000 in
set_option maxRecDepth 100000 in
theorem alone_calls (s : ByteArray) (hs : s.size ≤ 70000) (w : World) (hE : Env w) :
    Calls Tryd.prog 82 #[.string s] w fun e w' => ∃ v, e = .returned v ∧ w'.ownsRow w.heap.size 49 3 v (aloneB s).length (cellsOf s (aloneB s)) ∧ Below w.heap.size w w' := by
  refine (callsIn_wide (n := 6)).1 ?_
  refine callsIn_of_wp_marks Tryd.func82 rfl trivial ?_ rfl
  simp only [Tryd.ntmps82, List.size_toArray, List.length_cons, List.length_nil, Nat.reduceAdd, Nat.reduceSub, Array.replicate_succ, Array.replicate_zero, List.push_toArray, List.append_toArray, List.nil_append, List.cons_append]
  gi_wp2_with (first | (refine ⟨trivial, ?_⟩; gi_at_call 35; refine (callsIn_wide.2 (iter_calls s _)).mono ?_; rintro e w' ⟨rfl, rfl⟩))
  have hb0 : Below w.heap.size w ((((w.alloc (Obj.cells #[Value.slice none 0 0] 26)).alloc (Obj.cells #[Value.slice none 0 0] 26)).alloc (Obj.cells #[Value.int IntKind.i64 0] 3)).alloc (Obj.cells #[Value.string s] 9)) := below_alloc (below_alloc (below_alloc (below_alloc (Below.refl _ _) _) _) _) _
  have hcs : ((((w.alloc (Obj.cells #[Value.slice none 0 0] 26)).alloc (Obj.cells #[Value.slice none 0 0] 26)).alloc (Obj.cells #[Value.int IntKind.i64 0] 3)).alloc (Obj.cells #[Value.string s] 9)).cell? ⟨w.heap.size + 1 + 1 + 1, 0, none⟩ = some (.string s) := by simp [go_sem]
  have I0 : AI w s [] [w.heap.size + 1 + 1 + 1] ((((w.alloc (Obj.cells #[Value.slice none 0 0] 26)).alloc (Obj.cells #[Value.slice none 0 0] 26)).alloc (Obj.cells #[Value.int IntKind.i64 0] 3)).alloc (Obj.cells #[Value.string s] 9)) := by
    refine ⟨?_, ⟨_, ?_, World.ownsRow_nil _ _ _ _, fun g hg => by simp [Value.ownBlock] at hg⟩, ?_, fun k hk => by simp; omega, hb0, rfl⟩
    · exact (((boxed_at w _ 26 _ rfl).alloc _).alloc _).alloc _
    · exact ((boxed_at (w.alloc _) _ 26 _ (by simp)).alloc _).alloc _
    · exact (boxed_at ((w.alloc _).alloc _) _ 3 _ (by simp)).alloc _
  have hW0 : ∃ W0, W0 = ((((w.alloc (Obj.cells #[Value.slice none 0 0] 26)).alloc (Obj.cells #[Value.slice none 0 0] 26)).alloc (Obj.cells #[Value.int IntKind.i64 0] 3)).alloc (Obj.cells #[Value.string s] 9)) := ⟨_, rfl⟩
  obtain ⟨W0, hW0⟩ := hW0
  rw [← hW0] at hb0 hcs I0
  have hz0 : W0.heap.size = w.heap.size + 4 := by rw [hW0]; simp
  rw [← hW0]
  clear hW0
  refine wpIn_range (own0 := [w.heap.size + 1 + 1 + 1]) (n₀ := w.heap.size) rfl (by omega) (gf := 65) (lb := #[.pointer (some ⟨w.heap.size + 1 + 1 + 1, 0, none⟩)]) rfl trivial Tryd.call65 (iter_seq 5 (by omega) s (by omega) w W0 hE hb0 _ (by omega) hcs) (by omega) (fun _ => rfl) (fun r hr => by simp only [List.mem_singleton] at hr; omega)
    (AI w s) (fun c pre own W => c = .ret ∧ AX w s pre own W) (fun pre own A B h ht => h.turn ht) (fun pre own A r h hr => h.adopt hr) (fun c pre own A B h ht => ⟨h.1, h.2.turn ht⟩) I0
    (fun pre own x a' W => ∃ Bx, Bx ∉ own ∧ w.heap.size + 2 < Bx ∧ W.heap[Bx]? = some (.cells #[.int .i64 x.1.kind, .string (s.extract x.2 x.1.fin), .int .i64 x.2, .int .i64 x.1.bad] 68 (0, 0)) ∧ a' = { tmps := #[Value.string s, undef, Value.pointer (some ⟨w.heap.size, 0, none⟩), Value.pointer (some ⟨w.heap.size + 1, 0, none⟩), Value.pointer (some ⟨w.heap.size + 1 + 1, 0, none⟩), Value.pointer (some ⟨Bx, 0, none⟩), Value.string s, Value.func (Fn.func 65) #[] #[Value.pointer (some ⟨w.heap.size + 1 + 1 + 1, 0, none⟩)], Value.agg #[.int .i64 x.1.kind, .string (s.extract x.2 x.1.fin), .int .i64 x.2, .int .i64 x.1.bad], undef, undef, undef, undef, undef, undef, undef, undef, undef, undef, undef, undef, undef, undef, undef, undef, undef, undef, undef, undef, undef, undef, undef, undef, undef, undef], defers := [] }) ?ax ?assign ?body ?done ?stop
  case ax =>
    rintro pre own x a' A B ⟨Bx, h1, h2, h3, h4⟩ ht
    exact ⟨Bx, h1, h2, ht.cells _ _ h3 rfl h1, h4⟩
  case assign =>
    intro l pre own x W K ho hz hI hK
    unfold foundV
    gi_wp2
    refine hK _ _ ((KeepsOthers.alloc _ _).from _) ?_ ?_ ⟨W.heap.size, ?_, ?_, World.alloc_heap_new _ _, rfl⟩
    · exact ⟨below_alloc' (Below.refl _ _) (by omega) _, fun r hr hl => Below.heap_alloc _ _ _ hl⟩
    · exact hI.turn (Turn.alloc _ (by omega))
    · intro hm
      have := (ho _ hm).2
      omega
    · omega
  case body =>
    rintro l pre own x a' W ho hz ⟨r2, ⟨v, o1, o2, o3⟩, r4, no, bl, ok⟩ ⟨Bx, hx1, hx2, hx3, rfl⟩ hlen
    have c0 : W.cell? ⟨Bx, 0, none⟩ = some (.int .i64 x.1.kind) := by simp [World.cell?, hx3]
    have c1 : W.cell? ⟨Bx, 1, none⟩ = some (.string (s.extract x.2 x.1.fin)) := by simp [World.cell?, hx3]
    have c2 : W.cell? ⟨Bx, 2, none⟩ = some (.int .i64 x.2) := by simp [World.cell?, hx3]
    have c3 : W.cell? ⟨Bx, 3, none⟩ = some (.int .i64 x.1.bad) := by simp [World.cell?, hx3]
    have q0 := r2.cell
    have q2 := r4.cell
    have e0 := r2.frozen
    have e2 := r4.frozen
    have oc := o1.cell
    have of := o1.frozen
    have hlen2 : pre.length + 1 ≤ 70010 := by
      have := lexFrom_length s 0 (by omega)
      omega
    have hcs2 := contig_snoc s x pre 0
    rw [ok, Bool.true_and] at hcs2
    by_cases hgood : x.1.bad = 0 ∧ x.2 = lastAt s pre 0
    · obtain ⟨g1, g2⟩ := hgood
      have b1 : (x.1.bad != 0) = false := by simp [g1]
      have b2 : ((x.2 : Int) != (lastAt s pre 0 : Int)) = false := by simp [g2]
      have b3 : (x.2 != lastAt s pre 0) = false := by simp [g2]
      have hCS := Aside0.mk (show contig s (pre ++ [x]) 0 = true by rw [hcs2, g1, g2]; simp)
      have hLA := Aside0.mk (lastAt_snoc s x pre 0)
      have hpl := lastAt_le s hs pre 0
      have hwl := wid_le s x
      have hcl := Aside0.mk (cellsOf_snoc s pre x)
      have hwd : wid s x = (s.extract x.2 x.1.fin).size := rfl
      rw [hwd] at hwl hLA
      generalize s.extract x.2 x.1.fin = t at *
      generalize lastAt s pre 0 = p0 at *
      have hw : wrap64 ((p0 : Int) + (t.size : Int)) = ((p0 + t.size : Nat) : Int) := wrap_add p0 t.size (by omega)
      have R2 := Aside0.mk (show Boxed (W.setCell ⟨w.heap.size + 1 + 1, 0, none⟩ (.int .i64 ((p0 + t.size : Nat) : Int))) w.heap.size 26 (.slice none 0 0) from r2.other (by omega) _)
      have O1 := Aside0.mk (show Boxed (W.setCell ⟨w.heap.size + 1 + 1, 0, none⟩ (.int .i64 ((p0 + t.size : Nat) : Int))) (w.heap.size + 1) 26 v from o1.other (by omega) _)
      have O2 := Aside0.mk (show (W.setCell ⟨w.heap.size + 1 + 1, 0, none⟩ (.int .i64 ((p0 + t.size : Nat) : Int))).ownsRow w.heap.size 49 3 v pre.length (cellsOf s pre) from o2.kept (grownBy_setCell' _ _ _) (.inr (r4.not_row (by decide) o2).symm))
      have R4 := Aside0.mk (show Boxed (W.setCell ⟨w.heap.size + 1 + 1, 0, none⟩ (.int .i64 ((p0 + t.size : Nat) : Int))) (w.heap.size + 1 + 1) 3 (.int .i64 ((p0 + t.size : Nat) : Int)) from r4.set _)
      have BL := Aside0.mk (show Below w.heap.size w (W.setCell ⟨w.heap.size + 1 + 1, 0, none⟩ (.int .i64 ((p0 + t.size : Nat) : Int))) from bl.setCell (p := ⟨w.heap.size + 1 + 1, 0, none⟩) (by simp; omega) _)
      have NO := Aside0.mk no
      have HO := Aside0.mk ho
      have O3 := Aside0.mk o3
      have L2 := Aside0.mk hlen2
      clear g1 g2 hcs2 hpl hwl hwd r2 r4 o2 o3 no ho bl ok o1 hlen2
      obtain ⟨i0, hi0, hz1, hz2, hz3⟩ := info_parts info49
      gi_wp2_with (first | (gi_at_builtin; go_loud (refine wpListIn_append_own_at _ rfl _ _ 26 rfl w.heap.size 49 i0 (.agg #[.int .i64 0, .string ⟨#[]⟩, .int .i64 0]) 3 32 Tryd.underlying26 hi0 hz1 hz2 hz3 rfl (by decide) _ _ _ rfl (O2.out.alloc _) ⟨W.heap.size, 0, none⟩ 1 1 [.int .i64 x.1.kind, .string t, .int .i64 x.2] rfl rfl ?c1 ?c2 ?c3 ?c4 ?c5 ?c6; (case c1 => exact World.news_of_block (by have h := World.alloc_heap_new (W.setCell ⟨w.heap.size + 1 + 1, 0, none⟩ (.int .i64 ((p0 + t.size : Nat) : Int))) (.cells #[.int .i64 x.1.kind, .string t, .int .i64 x.2] 49); rw [World.size_setCell] at h; exact h)); (case c2 => simp [Value.oneCell']); (case c3 => have := L2.out; simp only [maxLen]; omega); (case c4 => have := L2.out; omega); (case c5 => simp; omega); intro v' w1 hown' hgrow hnil hat; obtain ⟨g', cap', rfl⟩ := ownsRow_succ hown'; obtain ⟨hv1, hv2, hr2, hk2, hb2⟩ := O1.out.appended (by decide) O2.out BL.out.size (by omega) hown' hgrow; have hc1 := hv1.cell; have hf1 := hv1.frozen)))
      refine ⟨((KeepsOthers.setCell _ _ _).trans hk2).from _, ⟨((Below.refl _ W).setCell (p := ⟨w.heap.size + 1 + 1, 0, none⟩) (by simp; omega) _).trans hb2, ?_⟩, ?_, ⟨_, hv2, ?_, ?_⟩, ?_, NO.out, BL.out.trans hb2, hCS.out⟩
      · intro r hr hl
        have hro := (HO.out r hr).2
        refine (Below.heap_setCell _ _ _ _ (fun e => NO.out 1 (by omega) (by rw [show w.heap.size + 1 = r from e.symm]; exact hr))).trans ((hgrow.block r (by simp; omega) (fun e => O3.out r e.symm hr)).trans ((Below.heap_alloc _ _ _ (by simpa using hl)).trans (Below.heap_setCell _ _ _ _ (fun e => NO.out 2 (by omega) (by rw [show w.heap.size + 2 = r from e.symm]; exact hr)))))
      · exact ((R2.out.alloc _).kept hgrow (R2.out.not_row (by decide) O2.out)).other (by omega) _
      · rw [hcl.out, List.length_append]
        exact hr2
      · intro g hg hm
        rcases hat with hat | hat
        · exact O3.out g (hat ▸ hg) hm
        · rw [hat] at hg
          cases hg
          have := (HO.out _ hm).2
          simp at this
          omega
      · rw [hLA.out]
        exact ((R4.out.alloc _).kept hgrow (R4.out.not_row (by decide) O2.out)).other (by omega) _
    · have hCS := Aside0.mk (show contig s (pre ++ [x]) 0 = false by
        rw [hcs2]
        by_cases h1 : x.1.bad = 0
        · by_cases h2 : x.2 = lastAt s pre 0
          · exact absurd ⟨h1, h2⟩ hgood
          · simp [h2]
        · simp [h1])
      have HX := Aside0.mk (show AX w s (pre ++ [x]) own (W.setCell ⟨w.heap.size, 0, none⟩ (Value.slice none 0 0)) from ⟨r2.set _, hCS.out, no, bl.setCell (p := ⟨w.heap.size, 0, none⟩) (Nat.le_refl _) _⟩)
      have HG := Aside0.mk (show KeepsFrom W0.heap.size W (W.setCell ⟨w.heap.size, 0, none⟩ (Value.slice none 0 0)) from (KeepsOthers.setCell _ _ _).from _)
      have hcase : ((x.1.bad != 0) = true) ∨ ((x.1.bad != 0) = false ∧ ((x.2 : Int) != (lastAt s pre 0 : Int)) = true ∧ (x.2 != lastAt s pre 0) = true) := by
        by_cases h1 : x.1.bad = 0
        · refine .inr ⟨by simp [h1], ?_, ?_⟩
          · have : x.2 ≠ lastAt s pre 0 := fun h => hgood ⟨h1, h⟩
            simp; omega
          · have : x.2 ≠ lastAt s pre 0 := fun h => hgood ⟨h1, h⟩
            simpa using this
        · exact .inl (by simp [h1])
      clear hgood hcs2 r2 r4 o1 o2 o3 no bl ok
      rcases hcase with b1 | ⟨b1, b2, b3⟩
      all_goals
        gi_wp2
        exact ⟨HG.out, rfl, HX.out⟩
  case done =>
    rintro D xs own W hD rfl hI hK
    obtain ⟨r2, ⟨v, o1, o2, o3⟩, r4, no, bl, ok⟩ := hI
    have n2 := Aside0.mk (r2.not_row (by decide) o2)
    obtain ⟨A, c, hv⟩ := own_slice o2
    subst hv
    have oc := o1.cell
    have of := o1.frozen
    have q0 := r2.cell
    have q2 := r4.cell
    have e0 := r2.frozen
    have e2 := r4.frozen
    by_cases hl : lastAt s (lexFrom s 0) 0 = s.size
    · have E := Aside0.mk (show aloneB s = lexFrom s 0 by rw [aloneB, if_pos ⟨ok, hl⟩])
      have b1 : ((lastAt s (lexFrom s 0) 0 : Int) != (s.size : Int)) = false := by simp [hl]
      have b2 : (lastAt s (lexFrom s 0) 0 != s.size) = false := by simp [hl]
      have R2 := Aside0.mk r2
      have O2 := Aside0.mk o2
      clear hl o1 r2 r4 o2 ok
      gi_wp2
      refine alone_end w _ D _ (.slice A (lexFrom s 0).length c) _ rfl (by omega) (((KeepsOthers.setCell _ _ _)).same D _ hK rfl) (R2.out.set _) ?_
      rw [E.out]
      refine ⟨_, rfl, ?_, ?_⟩
      · exact ownsRow_putObj (O2.out.kept (grownBy_setCell' _ _ _) (.inr n2.out.symm)) _ ((KeepsOthers.setCell _ _ _).same D _ hK rfl) rfl
      · exact (bl.setCell (p := ⟨w.heap.size, 0, none⟩) (Nat.le_refl _) _).trans (belowK_b (w := w) (Nat.le_refl _) _ D _ _ (by omega) ((KeepsOthers.setCell _ _ _).same D _ hK rfl) rfl rfl)
    · have E := Aside0.mk (show aloneB s = [] by rw [aloneB, if_neg (fun h => hl h.2)])
      have b1 : ((lastAt s (lexFrom s 0) 0 : Int) != (s.size : Int)) = true := by simp; omega
      have b2 : (lastAt s (lexFrom s 0) 0 != s.size) = true := by simpa using hl
      have R2 := Aside0.mk r2
      clear hl o1 r2 r4 o2 ok
      gi_wp2
      refine alone_end w _ D _ (.slice none 0 0) _ rfl (by omega) (((KeepsOthers.setCell _ _ _)).same D _ hK rfl) (R2.out.set _) ?_
      rw [E.out]
      exact ⟨_, rfl, World.ownsRow_nil _ _ _ _, (bl.setCell (p := ⟨w.heap.size, 0, none⟩) (Nat.le_refl _) _).trans (belowK_b (w := w) (Nat.le_refl _) _ D _ _ (by omega) ((KeepsOthers.setCell _ _ _).same D _ hK rfl) rfl rfl)⟩
  case stop =>
    rintro D c pre own W hD hSp ⟨rfl, ⟨r2, ex, no, bl⟩⟩ hK
    have E := Aside0.mk (show aloneB s = [] by
      obtain ⟨rest, hrest⟩ := hSp
      rw [aloneB, if_neg]
      rintro ⟨h1, _⟩
      rw [← hrest, contig_pre s pre rest 0 ex] at h1
      cases h1)
    gi_wp2
    refine alone_end w _ D _ (.slice none 0 0) _ rfl (by omega) hK r2 ?_
    rw [E.out]
    exact ⟨_, rfl, World.ownsRow_nil _ _ _ _, bl.trans (belowK_b (w := w) (Nat.le_refl _) _ D _ _ (by omega) hK rfl rfl)⟩
end Go.Proofs.YtmnnhbikdgpedaaDoor.Lx
