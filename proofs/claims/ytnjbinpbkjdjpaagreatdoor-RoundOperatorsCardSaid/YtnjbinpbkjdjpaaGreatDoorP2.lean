import Derived.Test.YtnjbinpbkjdjpaaGreatDoorP1
import Derived.RangeFuncBox
import Derived.Lib.ItoaMem
/- Own text: contracts and laws on which the card rests (NmL NmT NnB). -/
set_option linter.unusedVariables false
set_option linter.unusedSimpArgs false
set_option maxRecDepth 1000000
set_option maxHeartbeats 16000000
namespace Go.Proofs.YtnjbinpbkjdjpaaGreatDoor.Nm
section
open Go.Proofs.YtnjbinpbkjdjpaaGreatDoor.Rf Go.Proofs.YtnjbinpbkjdjpaaGreatDoorW.PrintLast Go.Proofs.YtnjbinpbkjdjpaaGreatDoorW.PrintMore Go.Proofs.YtnjbinpbkjdjpaaGreatDoorW.PrintWords Go.RowKit Go.Shelf
attribute [local go_sem] Oper.semAt_some
theorem back_calls (A : Option Addr) (L : Nat) (w : World) :
 Calls Tryz.prog 216 #[.slice A L L] w fun e w' => e = .returned (.func (.func 227) #[] #[.pointer (some ⟨w.heap.size, 0, none⟩)]) ∧ w.alloc (.cells #[.slice A L L] 99) = w' := by
 go_enter Tryz.func216, Tryz.ntmps216
 go_wp2
 go_ret
 exact ⟨rfl, rfl⟩
theorem boxed_turn {n₀ : Nat} {own : List Nat} {A B : World} {b : Nat} {t : TypeId} {v : Value} (h : Boxed A b t v) (ht : Turn n₀ own A B) (hno : b ∉ own) : Boxed B b t v := ht.cells b _ h rfl hno
theorem below_turn {n₀ : Nat} {own : List Nat} {w A B : World} (h : Below n₀ w A) (ht : Turn n₀ own A B) : Below n₀ w B := h.trans ⟨ht.os, ht.tape, ht.output, ht.size, ht.low⟩
theorem boxed_at (W : World) (n : Nat) (t : TypeId) (v : Value) (h : n = W.heap.size) : Boxed (W.alloc (.cells #[v] t)) n t v := by subst h; exact Boxed.new W t v
theorem boxed_put {W : World} {B D : Nat} {t : TypeId} {v : Value} (h : Boxed W B t v) (hne : B ≠ D) (o : Obj) : Boxed (W.putObj D o) B t v := (World.putObj_heap_other hne).trans h
theorem boxed_below {W W' : World} {B : Nat} {t : TypeId} {v : Value} (h : Boxed W B t v) (hb : Below W.heap.size W W') : Boxed W' B t v := (hb.block B h.lt).trans h
theorem wpIn_set {l : Nat} {n : Nat} {P : Program} {id d p : Nat} {ty : TypeId} {pos : String} {Q : Exit → Act → World → Prop} {a : Act} {w : World}
 (h : Q .normal { a with tmps := a.tmps.setIfInBounds d (a.tmps[p]?.getD undef) } w) : (Code.region id #[{ dst := some d, op := Op.assign (Operand.tmp p), type := ty, pos := pos, after := #[], guard := none }] false).wpIn (Fence.wide.inRound l) n P Q a w := by
 refine wpIn_region_lit (l := [_]) ?_
 gi_wp2
 exact h
/-- A range over slices.Backward, its two variables behind their places. -/
theorem wpIn_back {n : Nat} {P : Program} {g : Operand} {p q i d id1 id2 : Nat} {t1 t2 : TypeId} {s1 s2 : String} {body : Code} {Q : Exit → Act → World → Prop} {a : Act} {w : World}
 (h1 : 1 ≤ n) {gf : Nat} {lb : Array Value} (hg : a.eval g = .func (.func gf) #[] lb) (eg : ∀ args w, (callFunc gf args).run P w = .ok (.enter gf args) w)
 {S Sp : List (Nat × Nat) → Prop} {Nx : List (Nat × Nat) → Nat × Nat → Prop} {n₀ : Nat} {own0 : List Nat} (hseq : Seq Fence.wide (n - 1) P gf lb backV S Sp Nx n₀ own0 w) (hn₀ : n₀ ≤ w.heap.size)
 (hown0 : ∀ r, r ∈ own0 → n₀ ≤ r ∧ r < w.heap.size)
 (I : List (Nat × Nat) → List Nat → World → Prop) (Ix : Code → List (Nat × Nat) → List Nat → World → Prop)
 (hI : ∀ pre own A B, I pre own A → Turn n₀ own A B → I pre own B) (hIa : ∀ pre own A r, I pre own A → A.heap.size ≤ r → I pre (r :: own) A)
 (hIx : ∀ c pre own A B, Ix c pre own A → Turn n₀ own A B → Ix c pre own B)
 (h0 : I [] own0 w) (hsz : p < a.tmps.size ∧ q < a.tmps.size ∧ p ≠ q ∧ p ≠ i ∧ q ≠ i)
 (hbody : ∀ (l : Nat) (pre : List (Nat × Nat)) (own : List Nat) (x : Nat × Nat) (W : World), (∀ r, r ∈ own → n₀ ≤ r ∧ r < W.heap.size) → w.heap.size ≤ W.heap.size → I pre own W → Nx pre x →
   body.wpIn (Fence.wide.inRound l) (n - 1 - 1) P (bodyEnds n₀ w.heap.size own I Ix (pre ++ [x]) W) { tmps := (((a.tmps.setIfInBounds p (.int .i64 (x.1 : Int))).setIfInBounds q (.int .u32 (x.2 : Int))).setIfInBounds i (.int .i64 (x.1 : Int))).setIfInBounds d (.int .u32 (x.2 : Int)), defers := [] } W)
 (hdone : ∀ (D : Nat) (xs : List (Nat × Nat)) (own : List Nat) (W : World), w.heap.size ≤ D → S xs → I xs own W → W.heap[D]? = some (.deferred (some [])) → Q .normal { a with defers := { target := .collected D, args := #[] } :: a.defers } W)
 (hstop : ∀ (D : Nat) (c : Code) (pre : List (Nat × Nat)) (own : List Nat) (W : World), w.heap.size ≤ D → Sp pre → Ix c pre own W → W.heap[D]? = some (.deferred (some [])) → c.wpIn Fence.wide n P Q { a with defers := { target := .collected D, args := #[] } :: a.defers } W) :
 (Code.rangeFunc g #[p, q] ((Code.region id1 #[{ dst := some i, op := Op.assign (Operand.tmp p), type := t1, pos := s1, after := #[], guard := none }] false).seq (Code.region id2 #[{ dst := some d, op := Op.assign (Operand.tmp q), type := t2, pos := s2, after := #[], guard := none }] false)) body).wpIn Fence.wide n P Q a w := by
 obtain ⟨z1, z2, z3, z4, z5⟩ := hsz
 refine wpIn_range rfl h1 hg trivial eg hseq hn₀ (fun _ => rfl) hown0 I Ix hI hIa hIx h0 (fun pre own x a' W => a' = { tmps := (((a.tmps.setIfInBounds p (.int .i64 (x.1 : Int))).setIfInBounds q (.int .u32 (x.2 : Int))).setIfInBounds i (.int .i64 (x.1 : Int))).setIfInBounds d (.int .u32 (x.2 : Int)), defers := [] }) (fun _ _ _ _ _ _ h _ => h) ?_ ?_ hdone hstop
 ·intro l pre own x W K ho hz hI hK
  have e1 : ((#[p, q] : Array Nat).zip (backV x)).foldl (fun t (p, v) => t.setIfInBounds p v) a.tmps = (a.tmps.setIfInBounds p (.int .i64 (x.1 : Int))).setIfInBounds q (.int .u32 (x.2 : Int)) := by simp [backV, ← Array.foldl_toList, Array.toList_zip]
  rw [e1]
  refine wpIn_seq (wpIn_set ?_)
  refine wpIn_set ?_
  refine hK _ _ (KeepsFrom.refl _ _) (Rf.Kept.refl _ _ _) hI ?_
  have v1 : ((a.tmps.setIfInBounds p (.int .i64 (x.1 : Int))).setIfInBounds q (.int .u32 (x.2 : Int)))[p]?.getD undef = .int .i64 (x.1 : Int) := by
   simp [Array.getElem?_setIfInBounds, z3, z3.symm, z1]
  have v2 : (((a.tmps.setIfInBounds p (.int .i64 (x.1 : Int))).setIfInBounds q (.int .u32 (x.2 : Int))).setIfInBounds i (.int .i64 (x.1 : Int)))[q]?.getD undef = .int .u32 (x.2 : Int) := by
   simp [Array.getElem?_setIfInBounds, z3, z3.symm, z1, z2, z5, z5.symm]
  show Act.mk _ _ = _
  first
   | (simp only [v1, v2]; done)
   | (erw [v1, v2]; rfl)
 ·rintro l pre own x a' W ho hz hI rfl hx
  exact hbody l pre own x W ho hz hI hx
/-- Numbers whose digits agree from a place on, and the order of what lies below decides. -/
theorem cmp_len {m n L1 L2 : Nat} (h1 : (dg BB m).length = L1) (h2 : (dg BB n).length = L2) (hne : L1 ≠ L2) : cmpI (m : Int) n = cmpI (L1 : Int) L2 := by
 have key : ∀ a b : Nat, (dg BB a).length < (dg BB b).length → a < b := by
  intro a b h
  rcases Nat.lt_or_ge a b with hlt | hge
  ·exact hlt
  ·exfalso
   obtain ⟨k, hk⟩ : ∃ k, (dg BB b).length = k + 1 := ⟨(dg BB b).length - 1, by omega⟩
   have e1 := dg_ge_pow BB1 k b hk
   have e2 := dg_lt_pow BB1 a
   have e3 : BB ^ (dg BB a).length ≤ BB ^ k := Nat.pow_le_pow_right (by decide) (by omega)
   omega
 rcases Nat.lt_or_gt_of_ne hne with h | h
 ·have := key m n (by omega)
  unfold cmpI
  rw [if_pos (by omega), if_pos (by omega)]
 ·have := key n m (by omega)
  unfold cmpI
  rw [if_neg (by omega), if_pos (by omega), if_neg (by omega), if_pos (by omega)]
theorem cmp_top {m n i : Nat} (h : m / BB ^ (i + 1) = n / BB ^ (i + 1)) (hne : m / BB ^ i % BB ≠ n / BB ^ i % BB) : cmpI (m : Int) n = cmpI ((m / BB ^ i % BB : Nat) : Int) ((n / BB ^ i % BB : Nat) : Int) := by
 have hp : 0 < BB ^ i := Nat.pow_pos (by decide)
 have e1 : ∀ a : Nat, a / BB ^ i = BB * (a / BB ^ (i + 1)) + a / BB ^ i % BB := fun a => by
  rw [Nat.pow_succ, ← Nat.div_div_eq_div_mul, Nat.div_add_mod]
 have key : ∀ a b : Nat, a / BB ^ (i + 1) = b / BB ^ (i + 1) → a / BB ^ i % BB < b / BB ^ i % BB → a < b := by
  intro a b he hl
  have : a / BB ^ i < b / BB ^ i := by rw [e1 a, e1 b, he]; omega
  exact Nat.lt_of_div_lt_div this
 rcases Nat.lt_or_gt_of_ne hne with hl | hl
 ·have := key m n h hl
  unfold cmpI
  rw [if_pos (by omega), if_pos (by omega)]
 ·have := key n m h.symm hl
  unfold cmpI
  rw [if_neg (by omega), if_pos (by omega), if_neg (by omega), if_pos (by omega)]
theorem top_step {m n i : Nat} (h : m / BB ^ (i + 1) = n / BB ^ (i + 1)) (he : m / BB ^ i % BB = n / BB ^ i % BB) : m / BB ^ i = n / BB ^ i := by
 have e1 : ∀ a : Nat, a / BB ^ i = BB * (a / BB ^ (i + 1)) + a / BB ^ i % BB := fun a => by
  rw [Nat.pow_succ, ← Nat.div_div_eq_div_mul, Nat.div_add_mod]
 rw [e1 m, e1 n, h, he]
/-- What lies in memory between two rounds of order. -/
structure OI (w : World) (m n L : Nat) (A2 : Option Addr) (pre : List (Nat × Nat)) (own : List Nat) (W : World) : Prop where
 r3 : Boxed W (w.heap.size + 1) 109 (.slice A2 L L)
 r4 : Boxed W (w.heap.size + 1 + 1) 3 (.int .i64 0)
 no : ∀ k, k < 3 → w.heap.size + k ∉ own
 bl : Below w.heap.size w W
 ok : ∀ k, k ≤ L → pre = backs (dg BB m) k → m / BB ^ (L - k) = n / BB ^ (L - k)
structure OX (w : World) (m n : Nat) (own : List Nat) (W : World) : Prop where
 r4 : Boxed W (w.heap.size + 1 + 1) 3 (.int .i64 (cmpI m n))
 no : ∀ k, k < 3 → w.heap.size + k ∉ own
 bl : Below w.heap.size w W
theorem OI.turn {w : World} {m n L : Nat} {A2 : Option Addr} {pre : List (Nat × Nat)} {own : List Nat} {A B : World} (h : OI w m n L A2 pre own A) (ht : Turn w.heap.size own A B) : OI w m n L A2 pre own B :=
 ⟨boxed_turn h.r3 ht (h.no 1 (by omega)), boxed_turn h.r4 ht (h.no 2 (by omega)), h.no, below_turn h.bl ht, h.ok⟩
theorem OX.turn {w : World} {m n : Nat} {own : List Nat} {A B : World} (h : OX w m n own A) (ht : Turn w.heap.size own A B) : OX w m n own B :=
 ⟨boxed_turn h.r4 ht (h.no 2 (by omega)), h.no, below_turn h.bl ht⟩
theorem OI.adopt {w : World} {m n L : Nat} {A2 : Option Addr} {pre : List (Nat × Nat)} {own : List Nat} {A : World} {r : Nat} (h : OI w m n L A2 pre own A) (hr : A.heap.size ≤ r) : OI w m n L A2 pre (r :: own) A := by
 obtain ⟨r3, r4, no, bl, ok⟩ := h
 refine ⟨r3, r4, fun k hk => ?_, bl, ok⟩
 have := r4.lt
 simp only [List.mem_cons, not_or]
 exact ⟨by omega, no k hk⟩
theorem backs_len (xs : List Nat) (k : Nat) : (backs xs k).length = k := by simp [backs]
theorem backs_inj {xs : List Nat} {k j : Nat} (h : backs xs k = backs xs j) : k = j := by
 have := congrArg List.length h
 rwa [backs_len, backs_len] at this
/-- What order hands back when its mark has been taken. -/
theorem order_end (w W3 : World) (D : Nat) (tmps : Array Value) (x : Int) (R : Ending → World → Prop) (h4 : tmps[4]?.getD undef = .pointer (some ⟨w.heap.size + 1 + 1, 0, none⟩)) (hD : w.heap.size + 2 < D) (hK : W3.heap[D]? = some (.deferred (some [])))
 (c2 : Boxed W3 (w.heap.size + 1 + 1) 3 (.int .i64 x)) (hR : R (.returned (.int .i64 x)) (W3.putObj D (.deferred none))) : bodyPostM Fence.wide 6 Tryz.prog Tryz.f182 R Exit.ret { tmps, defers := [{ target := .collected D, args := #[] }] } W3 := by
 refine ⟨by simp, .inl ⟨_, _, rfl, run_takeDeferred hK, ?_⟩⟩
 refine ⟨_, ?_, hR⟩
 have k2 := (boxed_put (D := D) c2 (by omega) (.deferred none)).cell
 simp [results, Tryz.results182, go_sem, h4, k2]
theorem order_calls {w : World} {B : Nat} {A1 A2 : Option Addr} {L1 L2 m n : Nat} (h1 : Mag w B A1 L1 m) (h2 : Mag w B A2 L2 n) (hB : B ≤ w.heap.size) :
 Calls Tryz.prog 182 #[.agg #[.slice A1 L1 L1], .agg #[.slice A2 L2 L2]] w fun e w' => e = .returned (.int .i64 (cmpI m n)) ∧ Below w.heap.size w w' := by
 by_cases hL : L1 = L2
 ·subst hL
  have hlen := h1.2.1
  have H1 : Aside0 (Mag w B A1 L1 m) := ⟨h1⟩
  have H2 : Aside0 (Mag w B A2 L1 n) := ⟨h2⟩
  clear h1 h2
  refine (callsIn_wide (n := 6)).1 ?_
  refine callsIn_of_wp_marks Tryz.func182 rfl trivial ?_ rfl
  simp only [Tryz.ntmps182, List.size_toArray, List.length_cons, List.length_nil, Nat.reduceAdd, Nat.reduceSub, Array.replicate_succ, Array.replicate_zero, List.push_toArray, List.append_toArray, List.nil_append, List.cons_append]
  gi_wp2_with (first | (refine ⟨trivial, ?_⟩; gi_at_call 216; refine (callsIn_wide.2 (back_calls _ _ _)).mono ?_; rintro e w' ⟨rfl, rfl⟩))
  obtain ⟨W0, hW0⟩ : ∃ W0, W0 = (((w.alloc (.cells #[.slice A1 L1 L1] 109)).alloc (.cells #[.slice A2 L1 L1] 109)).alloc (.cells #[.int .i64 0] 3)).alloc (.cells #[.slice A1 L1 L1] 99) := ⟨_, rfl⟩
  have hb0 : Below w.heap.size w W0 := by subst hW0; repeat (first | exact Below.refl _ _ | apply below_alloc)
  have hcs : W0.cell? ⟨w.heap.size + 1 + 1 + 1, 0, none⟩ = some (.slice A1 L1 L1) := by subst hW0; simp [go_sem]
  have I0 : OI w m n L1 A2 [] [w.heap.size + 1 + 1 + 1] W0 := by
   subst hW0
   refine ⟨?_, ?_, fun k hk => by simp; omega, hb0, fun k hk e => ?_⟩
   ·exact ((boxed_at (w.alloc _) _ _ _ (by simp)).alloc _).alloc _
   ·exact (boxed_at ((w.alloc _).alloc _) _ _ _ (by simp)).alloc _
   ·obtain rfl : k = 0 := by have := congrArg List.length e; rw [backs_len] at this; simpa using this.symm
    have d1 := dg_lt_pow BB1 m
    have d2 := dg_lt_pow BB1 n
    rw [H1.out.1] at d1
    rw [H2.out.1] at d2
    rw [Nat.sub_zero, Nat.div_eq_of_lt d1, Nat.div_eq_of_lt d2]
  have hz0 : W0.heap.size = w.heap.size + 4 := by rw [hW0]; simp
  rw [← hW0]
  clear hW0
  refine wpIn_back (own0 := [w.heap.size + 1 + 1 + 1]) (n₀ := w.heap.size) (by omega) (gf := 227) (lb := #[.pointer (some ⟨w.heap.size + 1 + 1 + 1, 0, none⟩)]) rfl Tryz.call227 (back_seq 5 (by omega) (xs := dg BB m) ((H1.out.keep hB hb0).more hB).lst hlen hcs (by omega)) (by omega) (fun r hr => by simp only [List.mem_singleton] at hr; omega)
   (OI w m n L1 A2) (fun c pre own W => c = .ret ∧ OX w m n own W) (fun pre own A B h ht => h.turn ht) (fun pre own A r h hr => h.adopt hr) (fun c pre own A B h ht => ⟨h.1, h.2.turn ht⟩) I0 (by simp) ?body ?done ?stop
  case body =>
   rintro l pre own x W ho hz hI ⟨k, hk, rfl, rfl⟩
   obtain ⟨r3, r4, no, bl, ok⟩ := hI
   obtain ⟨j, hj⟩ : ∃ j, k + 1 + j = L1 := ⟨L1 - 1 - k, by omega⟩
   have ek : L1 - k = j + 1 := by omega
   have hok := ok k (by omega) rfl
   rw [ek] at hok
   obtain ⟨d, hd⟩ : ∃ d, m / BB ^ j % BB = d := ⟨_, rfl⟩
   obtain ⟨e, he⟩ : ∃ e, n / BB ^ j % BB = e := ⟨_, rfl⟩
   have hd1 : d < 1000000000 := by rw [← hd]; exact Nat.mod_lt _ (by decide)
   have he1 : e < 1000000000 := by rw [← he]; exact Nat.mod_lt _ (by decide)
   have eb : backAt (dg BB m) k = (j, d) := by
    unfold backAt
    rw [H1.out.1, show L1 - 1 - k = j by omega, dg_getD BB1, hd]
   obtain ⟨b2, hA2, hb2, hc2⟩ := (H2.out.keep hB bl).2.2 (by omega)
   have hcj := hc2 j (by omega)
   rw [dg_getD BB1, he] at hcj
   subst hA2
   have hc3 := r3.cell
   have hji : (j : Int) < (L1 : Int) := by omega
   rw [eb]
   have HE : Aside0 (m / BB ^ (j + 1) = n / BB ^ (j + 1) ∧ m / BB ^ j % BB = d ∧ n / BB ^ j % BB = e) := ⟨hok, hd, he⟩
   have HR : Aside0 (Boxed W (w.heap.size + 1) 109 (.slice (some ⟨b2, 0, none⟩) L1 L1) ∧ Boxed W (w.heap.size + 1 + 1) 3 (.int .i64 0) ∧ Below w.heap.size w W) := ⟨r3, r4, bl⟩
   have hc4 := r4.cell
   have hf4 := r4.frozen
   have HK : Aside0 (backs (dg BB m) k ++ [(j, d)] = backs (dg BB m) (k + 1)) := ⟨by rw [backs_succ, eb]⟩
   clear hok hd he hc2 eb ok r3 r4 bl
   by_cases hde : d = e
   ·subst hde
    gi_wp2
    refine ⟨KeepsFrom.refl _ _, Rf.Kept.refl _ _ _, HR.out.1, HR.out.2.1, no, HR.out.2.2, fun i hi hx => ?_⟩
    rw [HK.out] at hx
    obtain rfl := backs_inj hx
    rw [show L1 - (k + 1) = j by omega]
    exact top_step HE.out.1 (by rw [HE.out.2.1, HE.out.2.2])
   ·have hbd : ((d : Int) != (e : Int)) = true := by simp; omega
    have w1 : IntKind.i64.wrap (d : Int) = (d : Int) := IntWalk.i64_in _ (by omega)
    have w2 : IntKind.i64.wrap (e : Int) = (e : Int) := IntWalk.i64_in _ (by omega)
    gi_wp2_with (first | (refine ⟨trivial, ?_⟩; gi_at_call 217; refine ((callsIn_wide.2 (compare_calls _ _ _)).inRound _).mono ?_; rintro e w' ⟨rfl, rfl⟩))
    refine ⟨(KeepsOthers.setCell _ _ _).from _, rfl, ?_, no, HR.out.2.2.setCell (by first | (simp; done) | (simp; omega)) _⟩
    rw [cmp_top HE.out.1 (by rw [HE.out.2.1, HE.out.2.2]; exact hde), HE.out.2.1, HE.out.2.2]
    exact HR.out.2.1.set _
  case done =>
   rintro D xs own W hD rfl hI hK
   obtain ⟨r3, r4, no, bl, ok⟩ := hI
   have hmn := ok L1 (Nat.le_refl _) rfl
   rw [Nat.sub_self, Nat.pow_zero, Nat.div_one, Nat.div_one] at hmn
   have hc4 := r4.cell
   have hf4 := r4.frozen
   have HR : Aside0 (Boxed W (w.heap.size + 1 + 1) 3 (.int .i64 0) ∧ Below w.heap.size w W) := ⟨r4, bl⟩
   clear r3 r4 bl ok
   gi_wp2
   refine order_end w _ D _ 0 _ rfl (by omega) ((KeepsOthers.setCell _ _ _).same D _ hK rfl) (HR.out.1.set _) ⟨?_, ?_⟩
   ·rw [hmn]; simp [cmpI]
   ·exact (HR.out.2.setCell (p := ⟨w.heap.size + 1 + 1, 0, none⟩) (by first | (simp; done) | (simp; omega)) _).trans (belowK_b (w := w) (Nat.le_refl _) _ D _ _ (by omega) ((KeepsOthers.setCell _ _ _).same D _ hK rfl) rfl rfl)
  case stop =>
   rintro D c pre own W hD hSp ⟨rfl, hX⟩ hK
   gi_wp2
   refine order_end w _ D _ (cmpI m n) _ rfl (by omega) hK hX.r4 ⟨rfl, hX.bl.trans (belowK_b (w := w) (Nat.le_refl _) _ D _ _ (by omega) hK rfl rfl)⟩
 ·have e := cmp_len h1.1 h2.1 hL
  have HN : Aside0 (cmpI (m : Int) n = cmpI (L1 : Int) L2) := ⟨e⟩
  clear e h1 h2
  have hd : ((L1 : Int) != (L2 : Int)) = true := by simp; omega
  go_enter Tryz.func182, Tryz.ntmps182
  go_wp2_with (go_at_call 217; (with_reducible refine (compare_calls _ _ _).mono ?_); rintro e w' ⟨rfl, rfl⟩)
  refine bodyPost_ret (v := .int .i64 (cmpI L1 L2)) (by simp [results, Tryz.results182, go_sem]) rfl ⟨by rw [HN.out], ?_⟩
  repeat (first | exact Below.refl _ _ | apply below_alloc)
end
section
open Go.Lib (decDigits itoa)
def pad : Nat → Nat → List UInt8
 | 0, _ => []
 | k + 1, d => pad k (d / 10) ++ [UInt8.ofNat (48 + d % 10)]
theorem dec_big {u : Nat} (h : ¬ u < 10) : decDigits u = decDigits (u / 10) ++ [UInt8.ofNat (48 + u % 10)] := by rw [decDigits, dif_neg h]
theorem dec_small {u : Nat} (h : u < 10) : decDigits u = [UInt8.ofNat (48 + u)] := by rw [decDigits, dif_pos h]
theorem dec_pad {q : Nat} (hq : 0 < q) : ∀ k d : Nat, d < 10 ^ k → decDigits (q * 10 ^ k + d) = decDigits q ++ pad k d
 | 0, d, h => by
   have : d = 0 := by simpa using h
   subst this; simp [pad]
 | k + 1, d, h => by
   have hp : 0 < 10 ^ k := Nat.pow_pos (by omega)
   have hge : 1 * 10 ^ k ≤ q * 10 ^ k := Nat.mul_le_mul_right _ hq
   have e0 : q * 10 ^ (k + 1) = q * 10 ^ k * 10 := by rw [Nat.pow_succ, Nat.mul_assoc]
   have hd : d < 10 ^ k * 10 := by rwa [Nat.pow_succ] at h
   have e1 : (q * 10 ^ (k + 1) + d) / 10 = q * 10 ^ k + d / 10 := by omega
   have e2 : (q * 10 ^ (k + 1) + d) % 10 = d % 10 := by omega
   rw [dec_big (by omega), e1, e2, dec_pad hq k (d / 10) (by omega), pad, List.append_assoc]
theorem pad_zero : ∀ k : Nat, pad k 0 = List.replicate k 48
 | 0 => rfl
 | k + 1 => by
   rw [pad, Nat.zero_div, pad_zero k, List.replicate_succ']; rfl
theorem dec_len : ∀ k d : Nat, 0 < k → d < 10 ^ k → (decDigits d).length ≤ k
 | 0, d, h0, _ => absurd h0 (by omega)
 | k + 1, d, _, h => by
   by_cases hd : d < 10
   ·rw [dec_small hd]; simp
   ·rw [dec_big hd, List.length_append]
    have hk : 0 < k := by
     rcases Nat.eq_zero_or_pos k with h0 | h0
     ·subst h0; simp at h; omega
     ·exact h0
    have := dec_len k (d / 10) hk (by rw [Nat.pow_succ] at h; omega)
    simpa using this
theorem dec_pos (d : Nat) : 0 < (decDigits d).length := by
 by_cases hd : d < 10
 ·rw [dec_small hd]; simp
 ·rw [dec_big hd]; simp
theorem pad_eq : ∀ k d : Nat, 0 < k → d < 10 ^ k → List.replicate (k - (decDigits d).length) 48 ++ decDigits d = pad k d
 | 0, d, h0, _ => absurd h0 (by omega)
 | k + 1, d, _, h => by
   by_cases hd : d < 10
   ·rw [dec_small hd, pad, Nat.div_eq_of_lt hd, pad_zero, Nat.mod_eq_of_lt hd]; simp
   ·have hk : 0 < k := by
     rcases Nat.eq_zero_or_pos k with h0 | h0
     ·subst h0; simp at h; omega
     ·exact h0
    rw [dec_big hd, List.length_append, pad, ← pad_eq k (d / 10) hk (by rw [Nat.pow_succ] at h; omega)]
    simp
/-- The decimal value of a row of digits. -/
def dv (l : List UInt8) : Nat := l.foldl (fun a c => 10 * a + (c.toNat - 48)) 0
theorem dv_from : ∀ (l : List UInt8) (a : Nat), l.foldl (fun a c => 10 * a + (c.toNat - 48)) a = a * 10 ^ l.length + dv l
 | [], a => by simp [dv]
 | c :: l, a => by
   have h2 : dv (c :: l) = (10 * 0 + (c.toNat - 48)) * 10 ^ l.length + dv l := by rw [dv, List.foldl_cons, dv_from l]
   have h3 : 10 * a * 10 ^ l.length = a * (10 ^ l.length * 10) := by rw [Nat.mul_comm 10 a, Nat.mul_assoc, Nat.mul_comm 10]
   rw [List.foldl_cons, dv_from l, h2, List.length_cons, Nat.pow_succ, Nat.add_mul, h3, Nat.mul_zero, Nat.zero_add]; omega
theorem dv_append (a b : List UInt8) : dv (a ++ b) = dv a * 10 ^ b.length + dv b := by
 rw [dv, List.foldl_append, dv_from]; rfl
theorem dv_snoc (a : List UInt8) (c : UInt8) : dv (a ++ [c]) = 10 * dv a + (c.toNat - 48) := by
 rw [dv_append]; simp [dv]; omega
theorem snocInd {P : List UInt8 → Prop} (h0 : P []) (h1 : ∀ l c, P l → P (l ++ [c])) : ∀ l, P l := by
 intro l
 rw [← List.reverse_reverse l]
 induction l.reverse with
 | nil => exact h0
 | cons c l ih => rw [List.reverse_cons]; exact h1 _ _ ih
/-- Are they all digits? -/
def DG (l : List UInt8) : Prop := ∀ c ∈ l, 48 ≤ c.toNat ∧ c.toNat ≤ 57
theorem dv_lt : ∀ (l : List UInt8), DG l → dv l < 10 ^ l.length := by
 intro l
 induction l using snocInd with
 | h0 => intro _; simp [dv]
 | h1 l c ih =>
   intro h
   have := ih (fun d hd => h d (by simp [hd]))
   have hc := h c (by simp)
   rw [dv_snoc, List.length_append, List.length_singleton, Nat.pow_succ]
   omega
theorem dec_digits : ∀ d : Nat, DG (decDigits d) := by
 intro d
 induction d using Nat.strongRecOn with
 | _ d ih =>
   intro c hc
   have key : ∀ r : Nat, r < 10 → 48 ≤ (UInt8.ofNat (48 + r)).toNat ∧ (UInt8.ofNat (48 + r)).toNat ≤ 57 := by
    intro r hr
    rw [UInt8.toNat_ofNat', Nat.mod_eq_of_lt (by omega)]; omega
   by_cases hd : d < 10
   ·rw [dec_small hd] at hc
    rw [List.mem_singleton.1 hc]; exact key d hd
   ·rw [dec_big hd] at hc
    rcases List.mem_append.1 hc with h | h
    ·exact ih (d / 10) (by omega) c h
    ·rw [List.mem_singleton.1 h]; exact key (d % 10) (by omega)
theorem dv_dec : ∀ d : Nat, dv (decDigits d) = d := by
 intro d
 induction d using Nat.strongRecOn with
 | _ d ih =>
   have key : ∀ r : Nat, r < 10 → (UInt8.ofNat (48 + r)).toNat - 48 = r := by
    intro r hr
    rw [UInt8.toNat_ofNat', Nat.mod_eq_of_lt (by omega)]; omega
   by_cases hd : d < 10
   ·rw [dec_small hd]; simp only [dv, List.foldl_cons, List.foldl_nil]; rw [key d hd]; omega
   ·rw [dec_big hd, dv_snoc, ih (d / 10) (by omega), key (d % 10) (by omega)]; omega
/-- A row of digits without a zero in front is that of its value. -/
theorem dec_dv : ∀ (l : List UInt8), DG l → l ≠ [] → (l.head? = some 48 → l.length = 1) → decDigits (dv l) = l := by
 intro l
 induction l using snocInd with
 | h0 => intro _ h _; exact absurd rfl h
 | h1 l c ih =>
   intro h _ hz
   have hc := h c (by simp)
   have ec : UInt8.ofNat (48 + (c.toNat - 48)) = c := by
    rw [show 48 + (c.toNat - 48) = c.toNat by omega]; exact UInt8.ofNat_toNat
   rcases List.eq_nil_or_concat l with rfl | ⟨_, _, _⟩
   ·rw [show ([] : List UInt8) ++ [c] = [c] from rfl]
    rw [show dv [c] = c.toNat - 48 by simp [dv], dec_small (by omega), ec]
   ·have hne : l ≠ [] := by
     intro e; simp_all
    have h' : DG l := fun d hd => h d (by simp [hd])
    have hlen : 0 < l.length := List.length_pos_iff.2 hne
    have hh : l.head? ≠ some 48 := by
     intro e
     have := hz (by rw [List.head?_append, e]; rfl)
     simp at this
     exact hne this
    have hi := ih h' hne (fun e => absurd e hh)
    have hpos : 0 < dv l := by
     rcases Nat.eq_zero_or_pos (dv l) with h0 | h0
     ·exfalso
      rw [h0, dec_small (by omega)] at hi
      exact hh (by rw [← hi]; rfl)
     ·exact h0
    rw [dv_snoc, dec_big (by omega), show (10 * dv l + (c.toNat - 48)) / 10 = dv l by omega, show (10 * dv l + (c.toNat - 48)) % 10 = c.toNat - 48 by omega, hi, ec]
theorem dec_head (d : Nat) (h : (decDigits d).head? = some 48) : d = 0 := by
 induction d using Nat.strongRecOn with
 | _ d ih =>
   by_cases hd : d < 10
   ·rw [dec_small hd] at h
    have := congrArg UInt8.toNat (Option.some.inj h)
    rw [UInt8.toNat_ofNat', Nat.mod_eq_of_lt (by omega)] at this
    have e : (48 : UInt8).toNat = 48 := rfl
    omega
   ·rw [dec_big hd, List.head?_append] at h
    have hp := dec_pos (d / 10)
    rcases hq : (decDigits (d / 10)).head? with _ | x
    ·rw [List.head?_eq_none_iff] at hq; rw [hq] at hp; simp at hp
    ·rw [hq] at h
     have := ih (d / 10) (by omega) (by rw [hq]; simpa using h)
     omega
/-- The step of text: nine digits more. -/
theorem dec_step {n i : Nat} (hq : 0 < n / 1000000000 ^ (i + 1)) : decDigits (n / 1000000000 ^ i) = decDigits (n / 1000000000 ^ (i + 1)) ++ (List.replicate (9 - (decDigits (n / 1000000000 ^ i % 1000000000)).length) 48 ++ decDigits (n / 1000000000 ^ i % 1000000000)) := by
 rw [pad_eq 9 _ (by omega) (Nat.mod_lt _ (by omega)), ← dec_pad hq 9 _ (Nat.mod_lt _ (by omega)), show (10 : Nat) ^ 9 = 1000000000 from rfl]
 congr 1
 rw [Nat.pow_succ, ← Nat.div_div_eq_div_mul]
 have := Nat.mod_add_div (n / 1000000000 ^ i) 1000000000
 omega
/-- The step of parse: a piece more in front. -/
theorem parse_step {b : Nat} {xs : List Nat} {a c : List UInt8} {V : Nat} (h : val b xs + b ^ xs.length * dv (a ++ c) = V) (hc : 10 ^ c.length = b) : val b (xs ++ [dv c]) + b ^ (xs ++ [dv c]).length * dv a = V := by
 rw [val_snoc, List.length_append, List.length_singleton, Nat.pow_succ, ← h, dv_append, hc, Nat.mul_add, Nat.mul_assoc, Nat.mul_comm b (dv a)]
 omega
theorem parse_last {b : Nat} {xs : List Nat} {c : List UInt8} {V : Nat} (h : val b xs + b ^ xs.length * dv c = V) : val b (xs ++ [dv c]) = V := by
 rw [val_snoc]; exact h
end
section
open Go.Proofs.YtnjbinpbkjdjpaaGreatDoor.Rf Go.Proofs.YtnjbinpbkjdjpaaGreatDoorW.PrintLast Go.Proofs.YtnjbinpbkjdjpaaGreatDoorW.PrintMore Go.Proofs.YtnjbinpbkjdjpaaGreatDoorW.PrintWords Go.RowKit Go.Shelf
attribute [local go_sem] Oper.semAt_some
/-- The pieces: where each begins and where it ends. -/
def pieces (m : Nat) : List (Nat × Nat) := if h : 0 < m then (m - 9, m) :: pieces (m - 9) else []
termination_by m
theorem pieces_pos {m : Nat} (h : 0 < m) : pieces m = (m - 9, m) :: pieces (m - 9) := by rw [pieces, dif_pos h]
theorem pieces_zero : pieces 0 = [] := by rw [pieces, dif_neg (by omega)]
def pieceV (s : ByteArray) (x : Nat × Nat) : Array Value := #[.string (s.extract x.1 x.2)]
def strAt (W : World) (b : Nat) : Nat := match W.cell? ⟨b, 0, none⟩ with
 | some (.string t) => t.size
 | _ => 0
theorem strAt_eq {W : World} {b : Nat} {t : TypeId} {x : ByteArray} (h : Boxed W b t (.string x)) : strAt W b = x.size := by rw [strAt, h.cell]
theorem ext_zero (t : ByteArray) : t.extract 0 0 = ByteArray.empty := by
 apply ByteArray.ext
 simp [ByteArray.data_extract]
theorem ext_ext (s : ByteArray) {f m : Nat} (hm : m ≤ s.size) {e : Nat} : (s.extract 0 m).extract f e = s.extract f (min e m) := by
 apply ByteArray.ext
 simp [ByteArray.data_extract, Array.extract_extract]
theorem ext_cut {f m : Nat} {s : ByteArray} (h : f ≤ m) : s.extract 0 (min f m) = s.extract 0 f := by rw [Nat.min_eq_left h]
theorem ext_all (s : ByteArray) : s.extract 0 s.size = s := by
 apply ByteArray.ext
 simp [ByteArray.data_extract]
theorem chunks_seq (n : Nat) (hn : 1 ≤ n) (s : ByteArray) (hs : s.size ≤ 1000000) {n₀ Bs : Nat} {w : World} (hBs : Boxed w Bs 9 (.string s)) (hn₀ : n₀ ≤ Bs) :
 Seq Fence.wide n Tryz.prog 212 #[.pointer (some ⟨Bs, 0, none⟩)] (pieceV s) (fun xs => xs = pieces s.size) (fun pre => ∃ m, pre ++ pieces m = pieces s.size) (fun pre x => ∃ m, 0 < m ∧ m ≤ s.size ∧ pre ++ pieces m = pieces s.size ∧ x = (m - 9, m)) n₀ [Bs] w := by
 intro l J Jx W hW hJ hJa hJx hY h0
 have hBW : Boxed W Bs 9 (.string s) := boxed_below hBs hW
 refine callsIn_of_wp Tryz.func212 rfl trivial ?_ rfl
 simp only [Tryz.ntmps212, List.size_toArray, List.length_cons, List.length_nil, Nat.reduceAdd, Nat.reduceSub, Array.replicate_succ, Array.replicate_zero, List.push_toArray, List.append_toArray, List.nil_append, List.cons_append]
 gi_wp2
 gi_loopw [] (fun wr => ∃ pre m, m ≤ s.size ∧ Aside0 (J pre [Bs] wr) ∧ Aside0 (pre ++ pieces m = pieces s.size) ∧ Aside0 (Boxed wr Bs 9 (.string (s.extract 0 m)) ∧ Below n₀ W wr)) (fun wr => strAt wr Bs)
 case atStart => exact ⟨[], s.size, Nat.le_refl _, ⟨h0⟩, ⟨rfl⟩, ⟨by rw [ext_all]; exact hBW, Below.refl _ _⟩⟩
 case round =>
  obtain ⟨pre, m, hm, HJ, HP, HB⟩ := hrel
  obtain ⟨t, ht⟩ : ∃ t, s.extract 0 m = t := ⟨_, rfl⟩
  have hts : t.size = m := by rw [← ht, ByteArray.size_extract]; omega
  have cB := HB.out.1.cell
  have fB := HB.out.1.frozen
  rw [ht] at cB
  rcases Nat.eq_zero_or_pos m with h0 | h0
  ·subst h0
   have HS : Aside0 (pre = pieces s.size) := ⟨by have := HP.out; rwa [pieces_zero, List.append_nil] at this⟩
   clear hY
   gi_wp2
   go_end0
   exact ⟨⟨_, rfl⟩, .inl ⟨pre, [Bs], HS.out, HJ.out⟩⟩
  ·obtain ⟨f, hf⟩ : ∃ f, m - 9 = f := ⟨_, rfl⟩
   obtain ⟨fn, tmps, assign, body, hy, hR⟩ := hY pre [Bs] (m - 9, m) wr HJ.out (by intro r hr; rw [List.mem_singleton.1 hr]; exact HB.out.1.lt) ⟨m, h0, hm, HP.out, rfl⟩
   have hp : s.extract (m - 9) m = t.extract f m := by rw [hf, ← ht, ext_ext _ hm, Nat.min_self]
   have hn : s.extract 0 (m - 9) = t.extract 0 f := by rw [hf, ← ht, ext_ext _ hm, ext_cut (by omega)]
   simp only [pieceV] at hy
   rw [hp] at hy
   have HN : Aside0 (s.extract 0 (m - 9) = t.extract 0 f ∧ (pre ++ [(m - 9, m)]) ++ pieces (m - 9) = pieces s.size) := ⟨hn, by have := HP.out; rw [pieces_pos h0] at this; simpa using this⟩
   have HM : Aside0 (m - 9 = f ∧ f < m ∧ m ≤ s.size) := ⟨hf, by omega, hm⟩
   have d1 : decide ((0 : Int) < (t.size : Int)) = true := decide_eq_true (by omega)
   have hfm : f ≤ m := by omega
   have hnx : pre ++ [(m - 9, m)] = pre ++ [(m - 9, m)] := rfl
   clear hY hp hn
   by_cases h9 : 9 < m
   ·have e1 : IntKind.i64.wrap ((m : Int) - 9) = (f : Int) := by rw [IntWalk.i64_in _ (by omega)]; omega
    have k1 : (0 : Int) < (f : Int) := by omega
    have k2 : 0 < f := by omega
    clear hf
    gi_wp2
    refine hR.mono ?_
    rintro e W3 (⟨rfl, hJ3, hk3⟩ | ⟨rfl, hJx3⟩)
    ·have eB : W3.heap[Bs]? = wr.heap[Bs]? := hk3.own Bs (by simp) HB.out.1.lt
     have xB : Boxed W3 Bs 9 (.string t) := by rw [← ht]; exact eB.trans HB.out.1
     have cB := xB.cell
     have fB := xB.frozen
     have HX := Aside0.mk xB
     have HK3 := Aside0.mk hk3.below
     have HJ3 := Aside0.mk hJ3
     clear xB hk3 hJ3 eB
     gi_wp2
     go_roundw
     case rel => exact ⟨pre ++ [(m - 9, m)], m - 9, by omega, ⟨hJ _ _ _ _ HJ3.out (Step.set _ (by simp))⟩, ⟨HN.out.2⟩, ⟨by rw [HN.out.1]; first | exact HX.out.set _ | (rw [ext_zero]; exact HX.out.set _), (HB.out.2.trans HK3.out).setCell (p := ⟨Bs, 0, none⟩) hn₀ _⟩⟩
     case measure =>
      have h1 := HM.out.2.1
      rw [strAt_eq HB.out.1, strAt_eq (HX.out.set _)]
      first
       | (rw [ByteArray.size_extract, ByteArray.size_extract]; omega)
       | (rw [show ByteArray.empty.size = 0 from rfl, ByteArray.size_extract]; omega)
    ·have HJX := Aside0.mk hJx3
     clear hJx3
     gi_wp2
     refine bodyPost_ret (results_none rfl _ _ _) rfl ?_
     exact ⟨⟨_, rfl⟩, .inr ⟨_, _, ⟨m - 9, HN.out.2⟩, HJX.out⟩⟩
   ·have e1 : IntKind.i64.wrap ((m : Int) - 9) = (m : Int) - 9 := IntWalk.i64_in _ (by omega)
    have k1 : ¬ (0 : Int) < (m : Int) - 9 := by omega
    have k2 : ¬ 9 < m := by omega
    obtain rfl : f = 0 := by omega
    clear hf
    gi_wp2
    refine hR.mono ?_
    rintro e W3 (⟨rfl, hJ3, hk3⟩ | ⟨rfl, hJx3⟩)
    ·have eB : W3.heap[Bs]? = wr.heap[Bs]? := hk3.own Bs (by simp) HB.out.1.lt
     have xB : Boxed W3 Bs 9 (.string t) := by rw [← ht]; exact eB.trans HB.out.1
     have cB := xB.cell
     have fB := xB.frozen
     have HX := Aside0.mk xB
     have HK3 := Aside0.mk hk3.below
     have HJ3 := Aside0.mk hJ3
     clear xB hk3 hJ3 eB
     gi_wp2
     go_roundw
     case rel => exact ⟨pre ++ [(m - 9, m)], m - 9, by omega, ⟨hJ _ _ _ _ HJ3.out (Step.set _ (by simp))⟩, ⟨HN.out.2⟩, ⟨by rw [HN.out.1]; first | exact HX.out.set _ | (rw [ext_zero]; exact HX.out.set _), (HB.out.2.trans HK3.out).setCell (p := ⟨Bs, 0, none⟩) hn₀ _⟩⟩
     case measure =>
      have h1 := HM.out.2.1
      rw [strAt_eq HB.out.1, strAt_eq (HX.out.set _)]
      first
       | (rw [ByteArray.size_extract, ByteArray.size_extract]; omega)
       | (rw [show ByteArray.empty.size = 0 from rfl, ByteArray.size_extract]; omega)
    ·have HJX := Aside0.mk hJx3
     clear hJx3
     gi_wp2
     refine bodyPost_ret (results_none rfl _ _ _) rfl ?_
     exact ⟨⟨_, rfl⟩, .inr ⟨_, _, ⟨m - 9, HN.out.2⟩, HJX.out⟩⟩
end
end Go.Proofs.YtnjbinpbkjdjpaaGreatDoor.Nm
