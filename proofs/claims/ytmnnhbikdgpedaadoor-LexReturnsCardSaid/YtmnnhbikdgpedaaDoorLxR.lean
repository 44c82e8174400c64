/- A range over a function whose iterator keeps cells of its own between two rounds: the blocks that are the iterator's are named, the loop's body leaves them alone, and what the caller holds does not mind what the iterator does with them. -/
import Derived.RangeFuncNested
import Derived.RangeFuncBound
import Derived.RangeFuncCalls
import Derived.RangeFuncLeaves
import Derived.WalkKit
namespace Go.Proofs.YtmnnhbikdgpedaaDoor.Rf
open Go Go.RowKit

variable {F : Fence} {n : Nat} {P : Program}

/-- What the iterator does between two rounds: new blocks, and whatever it likes with its own. -/
structure Step (own : List Nat) (A B : World) : Prop where
  os : B.os = A.os
  tape : B.tape = A.tape
  output : B.output = A.output
  size : A.heap.size ≤ B.heap.size
  block : ∀ k, k < A.heap.size → k ∉ own → B.heap[k]? = A.heap[k]?

theorem Step.refl (own : List Nat) (A : World) : Step own A A := ⟨rfl, rfl, rfl, Nat.le_refl _, fun _ _ _ => rfl⟩
theorem Step.trans {own : List Nat} {A B C : World} (h : Step own A B) (k : Step own B C) : Step own A C :=
  ⟨k.os.trans h.os, k.tape.trans h.tape, k.output.trans h.output, Nat.le_trans h.size k.size, fun i hi ho => (k.block i (Nat.lt_of_lt_of_le hi h.size) ho).trans (h.block i hi ho)⟩
theorem Step.of_below {own : List Nat} {A B : World} (h : Below A.heap.size A B) : Step own A B := ⟨h.os, h.tape, h.output, h.size, fun i hi _ => h.block i hi⟩
theorem Step.set {own : List Nat} {A : World} {b o : Nat} (v : Value) (h : b ∈ own) : Step own A (A.setCell ⟨b, o, none⟩ v) :=
  ⟨rfl, rfl, rfl, by simp [World.setCell], fun k _ ho => Below.heap_setCell _ _ _ _ (fun e => ho (by rw [e]; exact h))⟩

/-- What the caller's word must not mind: the iterator's own blocks; whatever is no cells, from n₀ on. -/
structure Turn (n₀ : Nat) (own : List Nat) (A B : World) : Prop where
  os : B.os = A.os
  tape : B.tape = A.tape
  output : B.output = A.output
  size : A.heap.size ≤ B.heap.size
  low : ∀ k, k < n₀ → B.heap[k]? = A.heap[k]?
  cells : ∀ (k : Nat) (o : Obj), A.heap[k]? = some o → o.isCells = true → k ∉ own → B.heap[k]? = some o

theorem Turn.of_step {n₀ : Nat} {own : List Nat} {A B : World} (h : Step own A B) (hn : n₀ ≤ A.heap.size) (ho : ∀ r, r ∈ own → n₀ ≤ r) : Turn n₀ own A B :=
  ⟨h.os, h.tape, h.output, h.size, fun k hk => h.block k (by omega) (fun e => by have := ho k e; omega),
   fun k o hk _ hno => (h.block k (Array.getElem?_eq_some_iff.1 hk).1 hno).trans hk⟩
theorem Turn.putObj {n₀ : Nat} {own : List Nat} {A : World} {l : Nat} {o : Obj} (o' : Obj) (hl : A.heap[l]? = some o) (ho : o.isCells = false) (hn : n₀ ≤ l) : Turn n₀ own A (A.putObj l o') :=
  ⟨rfl, rfl, rfl, by simp, fun k hk => World.putObj_heap_other (by omega), fun k o2 hk hc _ => (World.putObj_heap_other (fun e => by subst e; rw [hl] at hk; cases hk; rw [ho] at hc; cases hc)).trans hk⟩
theorem Turn.alloc {n₀ : Nat} {own : List Nat} {A : World} (o : Obj) (hn : n₀ ≤ A.heap.size) : Turn n₀ own A (A.alloc o) :=
  ⟨rfl, rfl, rfl, by simp, fun k hk => Below.heap_alloc _ _ _ (by omega), fun k o2 hk _ _ => (Below.heap_alloc _ _ _ (Array.getElem?_eq_some_iff.1 hk).1).trans hk⟩

/-- What a round keeps for the iterator. -/
structure Kept (n₀ : Nat) (own : List Nat) (A B : World) : Prop where
  below : Below n₀ A B
  own : ∀ r, r ∈ own → r < A.heap.size → B.heap[r]? = A.heap[r]?
theorem Kept.refl (n₀ : Nat) (own : List Nat) (A : World) : Kept n₀ own A A := ⟨Below.refl _ _, fun _ _ _ => rfl⟩
theorem Kept.trans {n₀ : Nat} {own : List Nat} {A B C : World} (h : Kept n₀ own A B) (k : Kept n₀ own B C) : Kept n₀ own A C :=
  ⟨h.below.trans k.below, fun r hr hl => (k.own r hr (Nat.lt_of_lt_of_le hl h.below.size)).trans (h.own r hr hl)⟩
theorem Kept.putObj {n₀ : Nat} {own : List Nat} {A : World} {l : Nat} (o' : Obj) (hn : n₀ ≤ l) (hno : l ∉ own) : Kept n₀ own A (A.putObj l o') :=
  ⟨⟨rfl, rfl, rfl, by simp, fun k hk => World.putObj_heap_other (by omega)⟩, fun r hr _ => World.putObj_heap_other (fun e => hno (by rw [← e]; exact hr))⟩

/-- THE ITERATOR's CONTRACT. -/
def Seq {α : Type} (F : Fence) (n : Nat) (P : Program) (g : Nat) (lb : Array Value) (encs : α → Array Value) (S Sp : List α → Prop) (N n₀ : Nat) (own0 : List Nat) (w : World) : Prop :=
  ∀ (l : Nat) (J Jx : List α → List Nat → World → Prop) (W : World), Below w.heap.size w W →
    (∀ pre own A B, J pre own A → Step own A B → J pre own B) →
    (∀ pre own A r, J pre own A → A.heap.size ≤ r → J pre (r :: own) A) →
    (∀ pre own A B, Jx pre own A → Step own A B → Jx pre own B) →
    (∀ pre own x W1, J pre own W1 → (∀ r, r ∈ own → r < W1.heap.size) → pre.length < N → YieldAt F (n - 1) P l (encs x) W1 fun e W' =>
      (e = .returned (.bool true) ∧ J (pre ++ [x]) own W' ∧ Kept n₀ own W1 W') ∨ (e = .returned (.bool false) ∧ Jx (pre ++ [x]) own W')) →
    J [] own0 W →
    CallsIn F n P g (#[.func (.yield l) #[] #[]] ++ lb) W fun e W' => (∃ v, e = .returned v) ∧ ((∃ xs own, S xs ∧ J xs own W') ∨ (∃ pre own, Sp pre ∧ Jx pre own W'))

/-- How the body of a round may be left. -/
def bodyEnds {α : Type} (n₀ B : Nat) (own : List Nat) (I : List α → List Nat → World → Prop) (Ix : Code → List α → List Nat → World → Prop) (xs : List α) (W : World) : Exit → Act → World → Prop
  | .normal, _, W' => KeepsFrom B W W' ∧ Kept n₀ own W W' ∧ I xs own W'
  | .ret, _, W' => KeepsFrom B W W' ∧ Ix .ret xs own W'
  | .exit id, _, W' => KeepsFrom B W W' ∧ Ix (.exit id) xs own W'
  | .goto t, _, W' => KeepsFrom B W W' ∧ Ix (.goto t) xs own W'
  | .panic _, _, _ => False
  | .outgrown, _, _ => False

/-- THE STATEMENT 'for x := range seq' OVER SUCH AN ITERATOR. -/
theorem wpIn_range {α : Type} {g : Operand} {ps : Array Tmp} {assign body : Code} {Q : Exit → Act → World → Prop} {a : Act} {w : World}
    (hro : F.round = none) (h1 : 1 ≤ n) {gf : Nat} {lb : Array Value} (hg : a.eval g = .func (.func gf) #[] lb) (hFg : F.fn gf) (eg : ∀ args w, (callFunc gf args).run P w = .ok (.enter gf args) w)
    {encs : α → Array Value} {S Sp : List α → Prop} {N n₀ : Nat} {own0 : List Nat} (hseq : Seq F (n - 1) P gf lb encs S Sp N n₀ own0 w) (hn₀ : n₀ ≤ w.heap.size) (hps : ∀ x, (encs x).size = ps.size)
    (hown0 : ∀ r, r ∈ own0 → n₀ ≤ r ∧ r < w.heap.size)
    (I : List α → List Nat → World → Prop) (Ix : Code → List α → List Nat → World → Prop)
    (hI : ∀ pre own A B, I pre own A → Turn n₀ own A B → I pre own B) (hIa : ∀ pre own A r, I pre own A → A.heap.size ≤ r → I pre (r :: own) A)
    (hIx : ∀ c pre own A B, Ix c pre own A → Turn n₀ own A B → Ix c pre own B)
    (h0 : I [] own0 w) (Ax : List α → List Nat → α → Act → World → Prop) (hAx : ∀ pre own x a' A B, Ax pre own x a' A → Turn n₀ own A B → Ax pre own x a' B)
    (hassign : ∀ (l : Nat) (pre : List α) (own : List Nat) (x : α) (W : World) (K : Act → World → Prop), (∀ r, r ∈ own → n₀ ≤ r ∧ r < W.heap.size) → w.heap.size ≤ W.heap.size → I pre own W →
      (∀ a' W', KeepsFrom w.heap.size W W' → Kept n₀ own W W' → I pre own W' → Ax pre own x a' W' → K a' W') →
      assign.wpIn (F.inRound l) (n - 1 - 1) P (Exit.then K (fun _ _ _ => False)) { tmps := (ps.zip (encs x)).foldl (fun t (p, v) => t.setIfInBounds p v) a.tmps, defers := [] } W)
    (hbody : ∀ (l : Nat) (pre : List α) (own : List Nat) (x : α) (a' : Act) (W : World), (∀ r, r ∈ own → n₀ ≤ r ∧ r < W.heap.size) → w.heap.size ≤ W.heap.size → I pre own W → Ax pre own x a' W → pre.length < N →
      body.wpIn (F.inRound l) (n - 1 - 1) P (bodyEnds n₀ w.heap.size own I Ix (pre ++ [x]) W) a' W)
    (hdone : ∀ (D : Nat) (xs : List α) (own : List Nat) (W : World), w.heap.size ≤ D → S xs → I xs own W → W.heap[D]? = some (.deferred (some [])) → Q .normal { a with defers := { target := .collected D, args := #[] } :: a.defers } W)
    (hstop : ∀ (D : Nat) (c : Code) (pre : List α) (own : List Nat) (W : World), w.heap.size ≤ D → Sp pre → Ix c pre own W → W.heap[D]? = some (.deferred (some [])) → c.wpIn F n P Q { a with defers := { target := .collected D, args := #[] } :: a.defers } W) :
    (Code.rangeFunc g ps assign body).wpIn F n P Q a w := by
  refine wpIn_rangeFunc (fun fn hfn => ?_)
  rw [hro]
  obtain ⟨rec, hrec⟩ : ∃ rec : LoopState → Option Code → Loop, rec = fun st pe => { state := st, pending := pe, fn, tmps := a.tmps, params := ps, assign, body, defers := w.heap.size } := ⟨_, rfl⟩
  obtain ⟨W1, hW1⟩ : ∃ W1, (w.alloc (.deferred (some []))).alloc (.loop (rec .ready none)) = W1 := ⟨_, rfl⟩
  have hL1 : W1.heap[w.heap.size + 1]? = some (.loop (rec .ready none)) := by
    rw [← hW1]
    have := World.alloc_heap_new (w.alloc (.deferred (some []))) (.loop (rec .ready none))
    rwa [World.size_alloc] at this
  have hK1 : W1.heap[w.heap.size]? = some (.deferred (some [])) := by
    rw [← hW1]
    exact (Below.heap_alloc _ _ _ (by simp)).trans (World.alloc_heap_new w _)
  have hI1 : I [] own0 W1 := by
    rw [← hW1]
    exact hI _ _ _ _ (hI _ _ _ _ h0 (Turn.alloc _ hn₀)) (Turn.alloc _ (by simp; omega))
  have hb1 : Below w.heap.size w W1 := by
    rw [← hW1]
    exact ((Below.refl _ w).alloc (Nat.le_refl _) _).alloc (by simp) _
  refine ⟨w.heap.size + 1, [{ target := .collected w.heap.size, args := #[] }], W1, { target := .fn (.func gf) lb, args := #[.func (.yield (w.heap.size + 1)) #[] #[]] }, W1, gf,
    #[.func (.yield (w.heap.size + 1)) #[] #[]] ++ lb, W1, ?_, ?_, ?_, ?_, fun _ => h1, ?_⟩
  · rw [← hW1, hrec]
    exact run_enterLoop_outer _ _ _ _ _
  · simp only [resolve, hg]
    simp [go_sem]
  · intro f' hf'
    simp [Target.leads] at hf'
    subst hf'
    exact hFg
  · simp [invoke, go_sem, eg]
  · let Bk : List Nat → LoopState → Option Code → World → Prop := fun own st pe W => w.heap.size + 1 ∉ own ∧ w.heap.size ∉ own ∧ (∀ r, r ∈ own → n₀ ≤ r) ∧ W.heap[w.heap.size + 1]? = some (.loop (rec st pe)) ∧ W.heap[w.heap.size]? = some (.deferred (some []))
    have bkStep : ∀ own st pe A B, Bk own st pe A → Step own A B → Bk own st pe B := by
      rintro own st pe A B ⟨g1, g2, g3, g4, g5⟩ hs
      exact ⟨g1, g2, g3, (hs.block _ (Array.getElem?_eq_some_iff.1 g4).1 g1).trans g4, (hs.block _ (Array.getElem?_eq_some_iff.1 g5).1 g2).trans g5⟩
    have bkTurn : ∀ own st pe A B, Bk own st pe A → Step own A B → Turn n₀ own A B := by
      rintro own st pe A B ⟨g1, g2, g3, g4, g5⟩ hs
      exact Turn.of_step hs (by have := (Array.getElem?_eq_some_iff.1 g5).1; omega) g3
    refine (hseq (w.heap.size + 1) (fun pre own W => I pre own W ∧ Bk own .ready none W) (fun pre own W => ∃ c, Ix c pre own W ∧ Bk own .done (some c) W) W1 hb1 ?_ ?_ ?_ ?_ ⟨hI1, ?_⟩).mono ?_
    · rintro pre own A B ⟨hi, hb⟩ hs
      exact ⟨hI _ _ _ _ hi (bkTurn _ _ _ _ _ hb hs), bkStep _ _ _ _ _ hb hs⟩
    · rintro pre own A r ⟨hi, g1, g2, g3, g4, g5⟩ hr
      have k4 := (Array.getElem?_eq_some_iff.1 g4).1
      refine ⟨hIa _ _ _ _ hi hr, ?_, ?_, ?_, g4, g5⟩
      · simp only [List.mem_cons, not_or]
        exact ⟨by omega, g1⟩
      · simp only [List.mem_cons, not_or]
        exact ⟨by omega, g2⟩
      · intro q hq
        rcases List.mem_cons.1 hq with rfl | hq
        · omega
        · exact g3 q hq
    · rintro pre own A B ⟨c, hi, hb⟩ hs
      exact ⟨c, hIx _ _ _ _ _ hi (bkTurn _ _ _ _ _ hb hs), bkStep _ _ _ _ _ hb hs⟩
    · rintro pre own x W ⟨hi, g1, g2, g3, hl, hk⟩ hol hlen
      have hlt : w.heap.size + 1 < W.heap.size := (Array.getElem?_eq_some_iff.1 hl).1
      have hy := run_yield (P := P) (args := encs x) hl (by rw [hrec]; exact hps x)
      rw [hrec] at hy
      refine ⟨fn, _, assign, body, hy, roundIn_of_wpIn hfn (hassign _ pre own x W _ (fun r hr => ⟨g3 r hr, hol r hr⟩) (by omega) hi ?_)⟩
      clear hy
      intro a' Wa kfa kpa hia hax
      have hla := kfa.same _ _ (by omega) hl rfl
      have hka := kfa.same _ _ (Nat.le_refl _) hk rfl
      have hlta : w.heap.size + 1 < Wa.heap.size := (Array.getElem?_eq_some_iff.1 hla).1
      refine ⟨_, run_beginRound hla (by rw [hrec]), ?_⟩
      have t2 : Turn n₀ own Wa (Wa.putObj (w.heap.size + 1) (.loop { rec .ready none with state := .busy })) := Turn.putObj _ hla rfl (by omega)
      have hl2 : (Wa.putObj (w.heap.size + 1) (.loop { rec .ready none with state := .busy })).heap[w.heap.size + 1]? = some (.loop { rec .ready none with state := .busy }) := World.putObj_heap_same hlta
      have hk2 : (Wa.putObj (w.heap.size + 1) (.loop { rec .ready none with state := .busy })).heap[w.heap.size]? = some (.deferred (some [])) := (World.putObj_heap_other (by omega)).trans hka
      have kp2 : Kept n₀ own Wa (Wa.putObj (w.heap.size + 1) (.loop { rec .ready none with state := .busy })) := Kept.putObj _ (by omega) g1
      refine wpIn_mono (hbody _ pre own x a' _ (fun r hr => ⟨g3 r hr, by have := hol r hr; have := kfa.size; simp; omega⟩) (by simp; omega) (hI _ _ _ _ hia t2) (hAx _ _ _ _ _ _ hax t2) hlen) ?_
      have fin : ∀ (jump : Option Code) (W3 : World), KeepsFrom w.heap.size (Wa.putObj (w.heap.size + 1) (.loop { rec .ready none with state := .busy })) W3 →
          (Instr.endRound (w.heap.size + 1) jump).run P W3 = .ok (.bool jump.isNone) (W3.putObj (w.heap.size + 1) (.loop (rec (if jump.isNone then .ready else .done) jump))) ∧
          W3.heap[w.heap.size + 1]? = some (.loop { rec .ready none with state := .busy }) ∧
          Bk own (if jump.isNone then .ready else .done) jump (W3.putObj (w.heap.size + 1) (.loop (rec (if jump.isNone then .ready else .done) jump))) := by
        intro jump W3 k3
        have hl3 := k3.same _ _ (by omega) hl2 rfl
        have hr := run_endRound (P := P) jump hl3
        rw [hrec] at hr ⊢
        refine ⟨hr, by rw [hrec] at hl3; exact hl3, g1, g2, g3, ?_, ?_⟩
        · rw [World.putObj_heap_same (Array.getElem?_eq_some_iff.1 hl3).1, hrec]
        · exact (World.putObj_heap_other (by omega)).trans (k3.same _ _ (Nat.le_refl _) hk2 rfl)
      rintro e a3 W3 hp
      cases e with
      | normal =>
        obtain ⟨k3, kp3, hi3⟩ := hp
        obtain ⟨hr, hl3, hb3⟩ := fin none W3 k3
        exact ⟨_, _, hr, .inl ⟨rfl, ⟨hI _ _ _ _ hi3 (Turn.putObj _ hl3 rfl (by omega)), hb3⟩, (kpa.trans (kp2.trans kp3)).trans (Kept.putObj _ (by omega) g1)⟩⟩
      | ret =>
        obtain ⟨k3, hi3⟩ := hp
        obtain ⟨hr, hl3, hb3⟩ := fin (some .ret) W3 k3
        exact ⟨_, _, hr, .inr ⟨rfl, .ret, hIx _ _ _ _ _ hi3 (Turn.putObj _ hl3 rfl (by omega)), hb3⟩⟩
      | exit id =>
        obtain ⟨k3, hi3⟩ := hp
        obtain ⟨hr, hl3, hb3⟩ := fin (some (.exit id)) W3 k3
        exact ⟨_, _, hr, .inr ⟨rfl, .exit id, hIx _ _ _ _ _ hi3 (Turn.putObj _ hl3 rfl (by omega)), hb3⟩⟩
      | goto t =>
        obtain ⟨k3, hi3⟩ := hp
        obtain ⟨hr, hl3, hb3⟩ := fin (some (.goto t)) W3 k3
        exact ⟨_, _, hr, .inr ⟨rfl, .goto t, hIx _ _ _ _ _ hi3 (Turn.putObj _ hl3 rfl (by omega)), hb3⟩⟩
      | panic ch => exact hp.elim
      | outgrown => exact hp.elim
    · exact ⟨fun h => by have := (hown0 _ h).2; omega, fun h => by have := (hown0 _ h).2; omega, fun r hr => (hown0 r hr).1, hL1, hK1⟩
    · rintro e W2 ⟨⟨v, rfl⟩, h⟩
      rcases h with ⟨xs, own, hS, hi, g1, g2, g3, hl, hk⟩ | ⟨pre, own, hSp, c, hi, g1, g2, g3, hl, hk⟩
      · have hr := run_endLoop (P := P) hl (by rw [hrec]; simp)
        rw [hrec] at hr
        exact ⟨none, _, hr, hdone _ xs own _ (Nat.le_refl _) hS (hI _ _ _ _ hi (Turn.putObj _ hl rfl (by omega))) ((World.putObj_heap_other (by omega)).trans hk)⟩
      · have hr := run_endLoop (P := P) hl (by rw [hrec]; simp)
        rw [hrec] at hr
        exact ⟨some c, _, hr, hstop _ c pre own _ (Nat.le_refl _) hSp (hIx _ _ _ _ _ hi (Turn.putObj _ hl rfl (by omega))) ((World.putObj_heap_other (by omega)).trans hk)⟩
end Go.Proofs.YtmnnhbikdgpedaaDoor.Rf
