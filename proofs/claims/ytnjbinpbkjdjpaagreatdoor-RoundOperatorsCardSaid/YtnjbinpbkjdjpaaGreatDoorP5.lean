import Derived.Test.YtnjbinpbkjdjpaaGreatDoorP4
import Derived.Test.YtnjbinpbkjdjpaaGreatDoorP2
import Derived.Test.YtnjbinpbkjdjpaaGreatDoorP1
import Derived.Laws.RangeAny
import Derived.Lib.Strings
import Derived.Test.YtnjbinpbkjdjpaaGreatDoorPs
import Derived.Maps.AppendAt
import Derived.Maps.OwnIn
import Derived.Shelf.Abstract
import Derived.Deep.Upon
/- Own text: contracts and laws on which the card rests (NnI NnD NnE NnC NnF NnG NnJ NnK NmU NmW). -/
set_option linter.unusedVariables false
set_option linter.unusedSimpArgs false
set_option maxRecDepth 1000000
set_option maxHeartbeats 16000000
namespace Go.Proofs.YtnjbinpbkjdjpaaGreatDoor.Nm
section
open Go.Proofs.YtnjbinpbkjdjpaaGreatDoor.Rf Go.Proofs.YtnjbinpbkjdjpaaGreatDoorW.PrintLast Go.Proofs.YtnjbinpbkjdjpaaGreatDoorW.PrintMore Go.Proofs.YtnjbinpbkjdjpaaGreatDoorW.PrintWords Go.RowKit Go.Shelf
attribute [local go_sem] Oper.semAt_some
/-- The string of an integer. -/
def strI (x : Int) : ByteArray := ⟨(Lib.itoa x).toArray⟩
theorem text_zero {w : World} {B : Nat} {A : Option Addr} {L : Nat} (h1 : Mag w B A L (0 : Int).natAbs) (hB : B ≤ w.heap.size) :
 Calls Tryz.prog 219 #[iV A L 0] w fun e w' => e = .returned (.string (strI 0)) ∧ Below w.heap.size w w' := by
 have HZ : ∀ W, Below w.heap.size w W → Calls Tryz.prog 74 #[.agg #[.slice A L L]] W fun e w' => e = .returned (.bool true) ∧ Below W.heap.size W w' := fun W hb => isZero_calls (h1.keep hB hb)
 have HZ := Aside0.mk HZ
 have HB := Aside0.mk (Below.refl w.heap.size w)
 clear h1
 unfold iV
 go_enter Tryz.func219, Tryz.ntmps219
 go_wp2_with (first | (go_at_call 74; ((with_reducible refine (HZ.out _ bl).mono ?_); rintro e w1 ⟨rfl, hb1⟩; obtain ⟨hc1, hf1⟩ := bcell hb1; have z1_0 : (w.heap.size) < w1.heap.size := zb hb1; have nB1 : Aside0 (Below w.heap.size w w1) := sb hb1; clear HB; have HB := nB1; clear nB1)))
 go_ret
 refine ⟨?_, bl⟩
 have : strI 0 = ⟨#[48]⟩ := by unfold strI Lib.itoa; rw [if_neg (by omega), show (0 : Int).toNat = 0 from rfl, dec_small (by omega)]; rfl
 rw [this]; rfl
theorem builder_new (W : World) : Lib.IsBuilderF 263 5 W.heap.size W.heap.size [] (W.alloc (.cells #[.pointer none, .slice none 0 0] 263)) :=
 Or.inl ⟨Nat.le_refl _, .slice none 0 0, heap_alloc_new _ _, World.ownsRowF_nil _ _ _ _, by simp [Value.ownBlock]⟩
/-- What the first limbs give. -/
def topD (m L k : Nat) : List UInt8 := if k = 0 then [] else Lib.decDigits (m / BB ^ (L - k))
theorem top_stepD {w : World} {B : Nat} {A : Option Addr} {L m k j d : Nat} (h : Mag w B A L m) (hk : k < L) (hm0 : m ≠ 0) (hj : k + 1 + j = L) (hd : m / BB ^ j % BB = d) :
 topD m L (k + 1) = topD m L k ++ ((if k = 0 then [] else List.replicate (9 - (Lib.decDigits d).length) 48) ++ Lib.decDigits d) := by
 have hlt := dg_lt_pow BB1 m
 rw [h.1] at hlt
 have hge := dg_ge_pow BB1 (L - 1) m (by rw [h.1]; omega)
 unfold topD
 rw [if_neg (by omega), show L - (k + 1) = j by omega]
 by_cases hk0 : k = 0
 ·subst hk0
  rw [if_pos rfl, if_pos rfl, List.nil_append, List.nil_append, ← hd, Nat.mod_eq_of_lt]
  rw [Nat.div_lt_iff_lt_mul (Nat.pow_pos (by decide)), Nat.mul_comm]
  have e : BB ^ (j + 1) = BB ^ j * BB := Nat.pow_succ _ _
  rw [show j + 1 = L by omega] at e
  omega
 ·rw [if_neg hk0, if_neg hk0, show L - k = j + 1 by omega, ← hd]
  refine dec_step (Nat.div_pos ?_ (Nat.pow_pos (by decide)))
  exact Nat.le_trans (Nat.pow_le_pow_right (by decide) (by omega)) hge
theorem topD_le {w : World} {B : Nat} {A : Option Addr} {L m k : Nat} (h : Mag w B A L m) (hk : k ≤ L) {sg : List UInt8} (hs : sg.length ≤ 1) : (sg ++ topD m L k).length ≤ 1000000 := by
 have hL := h.2.1
 have hlt := dg_lt_pow BB1 m
 rw [h.1] at hlt
 rw [List.length_append]
 unfold topD
 split
 ·simp; omega
 ·have h1 : m / BB ^ (L - k) < 10 ^ (9 * k) := by
   rw [Nat.pow_mul, Nat.div_lt_iff_lt_mul (Nat.pow_pos (by decide)), show (10 ^ 9 : Nat) = BB from rfl, ← Nat.pow_add, show k + (L - k) = L by omega]
   exact hlt
  have := dec_len (9 * k) _ (by omega) h1
  omega
theorem repeat0 (q : Nat) (hq : q ≤ 9) (W : World) : Calls Tryz.prog 230 #[.string ⟨#[48]⟩, .int .i64 (q : Int)] W fun e w' => e = .returned (.string ⟨(List.replicate q 48).toArray⟩) ∧ Below W.heap.size W w' := by
 have h := Tryz.strings_Repeat ⟨#[48]⟩ q W (by omega) (by show 1 * q ≤ _; omega)
 have e : Lib.repeatL [48] q = List.replicate q 48 := by
  clear h hq
  induction q with
  | zero => rfl
  | succ q ih => rw [Lib.repeatL, ih]; rfl
 rw [show (⟨#[48]⟩ : ByteArray).data.toList = [48] from rfl, e] at h
 exact h
/-- What lies in memory between two rounds of text. -/
structure TI (w : World) (b : Nat) (A : Option Addr) (L m : Nat) (neg : Bool) (sg : List UInt8) (pre : List (Nat × Nat)) (own : List Nat) (W : World) : Prop where
 r : W.heap[w.heap.size]? = some (.cells #[.slice A L L, .bool neg] 111 (0, 0))
 bx : ∃ k p v, k ≤ L ∧ pre = backs (dg BB m) k ∧ BX b b p v (Lib.byteCells (sg ++ topD m L k)) W ∧ ∀ g, v.ownBlock = some g → g ∉ own
 no : w.heap.size ∉ own ∧ b ∉ own
 bl : Below w.heap.size w W
 lt : w.heap.size < b
theorem TI.turn {w : World} {b : Nat} {A : Option Addr} {L m : Nat} {neg : Bool} {sg : List UInt8} {pre : List (Nat × Nat)} {own : List Nat} {X Y : World} (h : TI w b A L m neg sg pre own X) (ht : Turn w.heap.size own X Y) : TI w b A L m neg sg pre own Y := by
 obtain ⟨r, ⟨k, p, v, hk, hp, ⟨b0, b1, b2, b3, b4⟩, hv⟩, no, bl, lt⟩ := h
 refine ⟨ht.cells _ _ r rfl no.1, ⟨k, p, v, hk, hp, ⟨b0, b1, ht.cells _ _ b2 rfl no.2, ⟨b3.1, ?_⟩, b4⟩, hv⟩, no, below_turn bl ht, lt⟩
 rcases b3.2 with hn | ⟨g, cap, cur, fz, rfl, hbg, hg, hr⟩
 ·exact .inl hn
 ·exact .inr ⟨g, cap, cur, fz, rfl, hbg, ht.cells _ _ hg rfl (hv g rfl), hr⟩
theorem TI.adopt {w : World} {b : Nat} {A : Option Addr} {L m : Nat} {neg : Bool} {sg : List UInt8} {pre : List (Nat × Nat)} {own : List Nat} {X : World} {r : Nat} (h : TI w b A L m neg sg pre own X) (hr : X.heap.size ≤ r) : TI w b A L m neg sg pre (r :: own) X := by
 obtain ⟨r0, ⟨k, p, v, hk, hp, hx, hv⟩, no, bl, lt⟩ := h
 have hl := hx.lt
 refine ⟨r0, ⟨k, p, v, hk, hp, hx, fun g hg => ?_⟩, ?_, bl, lt⟩
 ·have := (hx.2.2.2.1.lt g hg).2
  simp only [List.mem_cons, not_or]
  exact ⟨by omega, hv g hg⟩
 ·simp only [List.mem_cons, not_or]
  exact ⟨⟨by omega, no.1⟩, by omega, no.2⟩
theorem text_round {w W w2 W3 : World} {b B0 : Nat} {A : Option Addr} {L m k : Nat} {neg : Bool} {sg : List UInt8} {own : List Nat} {p v p' v' : Value} {t : ByteArray} {x : Nat × Nat}
 (HX : BX b b p v (Lib.byteCells (sg ++ topD m L k)) W ∧ (∀ g, v.ownBlock = some g → g ∉ own) ∧ W.heap[w.heap.size]? = some (.cells #[.slice A L L, .bool neg] 111 (0, 0)) ∧ Below w.heap.size w W)
 (HB2 : Below W.heap.size W w2) (hx3 : BX b b p' v' (Lib.byteCells (sg ++ topD m L k) ++ Lib.strCells t) W3) (hb3 : Below b w2 W3) (hk3 : ∀ k, k < w2.heap.size → k ≠ b → v.ownBlock ≠ some k → W3.heap[k]? = w2.heap[k]?) (hg3 : ∀ g, v'.ownBlock = some g → v.ownBlock = some g ∨ w2.heap.size ≤ g)
 (ht : topD m L (k + 1) = topD m L k ++ t.data.toList) (hk : k < L) (hx : backs (dg BB m) k ++ [x] = backs (dg BB m) (k + 1)) (no : w.heap.size ∉ own ∧ b ∉ own) (lt : w.heap.size < b) (ho : ∀ r, r ∈ own → w.heap.size ≤ r ∧ r < W.heap.size) :
 KeepsFrom B0 W W3 ∧ Rf.Kept w.heap.size own W W3 ∧ TI w b A L m neg sg (backs (dg BB m) k ++ [x]) own W3 := by
 obtain ⟨h1, h2, h3, h4⟩ := HX
 have hbl := h1.lt
 have hz := HB2.size
 have hne : v.ownBlock ≠ some w.heap.size := fun e => by have := (h1.2.2.2.1.lt _ e).1; omega
 have hbw : Below w.heap.size W W3 := (HB2.mono (by omega)).trans (hb3.mono (by omega))
 refine ⟨⟨hbw.size, fun i o hi hoi hc => ?_⟩, ⟨hbw, fun q hq hl => ?_⟩, ⟨?_, ⟨k + 1, p', v', by omega, hx, ?_, fun g hg hm => ?_⟩, no, h4.trans hbw, lt⟩⟩
 ·have hil := (Array.getElem?_eq_some_iff.1 hoi).1
  by_cases h5 : i = b
  ·subst h5; rw [h1.2.2.1] at hoi; cases hoi; cases hc
  ·by_cases h6 : v.ownBlock = some i
   ·exfalso
    rcases h1.2.2.2.1.2 with ⟨rfl, _⟩ | ⟨g, cap, cur, fz, rfl, _, hgg, _⟩
    ·simp [Value.ownBlock] at h6
    ·simp [Value.ownBlock] at h6
     subst h6
     rw [hgg] at hoi; cases hoi; cases hc
   ·rw [hk3 i (by omega) h5 h6, HB2.block i hil]; exact hoi
 ·rw [hk3 q (by omega) (fun e => no.2 (e ▸ hq)) (fun e => h2 q e hq)]
  exact HB2.block q hl
 ·rw [hk3 _ (by omega) (by omega) hne, HB2.block _ (by omega)]
  exact h3
 ·rw [ht, ← List.append_assoc, Lib.byteCells_append, ← Lib.strCells_eq]
  exact hx3
 ·rcases hg3 g hg with h | h
  ·exact h2 g h hm
  ·have := (ho g hm).2
   omega
/-- What text hands back when its mark has been taken. -/
theorem text_end (w W3 : World) (D : Nat) (tmps : Array Value) (S : List UInt8) (R : Ending → World → Prop) (h2 : tmps[2]?.getD undef = .string ⟨S.toArray⟩) (hK : W3.heap[D]? = some (.deferred (some [])))
 (hR : R (.returned (.string ⟨S.toArray⟩)) (W3.putObj D (.deferred none))) : bodyPostM Fence.wide 6 Tryz.prog Tryz.f219 R Exit.ret { tmps, defers := [{ target := .collected D, args := #[] }] } W3 := by
 refine ⟨by simp, .inl ⟨_, _, rfl, run_takeDeferred hK, ?_⟩⟩
 refine ⟨_, ?_, hR⟩
 simp [results, Tryz.results219, go_sem, h2]
theorem text_some {w : World} {B : Nat} {A : Option Addr} {L : Nat} {x : Int} (h1 : Mag w B A L x.natAbs) (hB : B ≤ w.heap.size) (htab : Tens w) (hx : x ≠ 0) :
 Calls Tryz.prog 219 #[iV A L x] w fun e w' => e = .returned (.string (strI x)) ∧ Below w.heap.size w w' := by
 have hm0 : x.natAbs ≠ 0 := by omega
 have hL := h1.2.1
 have hL0 : 0 < L := by
  rcases Nat.eq_zero_or_pos L with h | h
  ·exact absurd (h1.len_zero.1 h) hm0
  ·exact h
 have HS : Aside0 (Lib.itoa x = (if decide (x < 0) = true then [45] else []) ++ Lib.decDigits x.natAbs) := ⟨by
  unfold Lib.itoa
  by_cases h : x < 0
  ·rw [if_pos h, if_pos (by simpa using h)]; rfl
  ·rw [if_neg h, if_neg (by simpa using h), show x.toNat = x.natAbs by omega]; rfl⟩
 have HZ : Aside0 (∀ W, Below w.heap.size w W → Calls Tryz.prog 74 #[.agg #[.slice A L L]] W fun e w' => e = .returned (.bool false) ∧ Below W.heap.size W w') := ⟨fun W hb => by
  have := isZero_calls (h1.keep hB hb)
  rwa [decide_eq_false hm0] at this⟩
 have H1 := Aside0.mk h1
 have HT := Aside0.mk htab
 have HB := Aside0.mk (Below.refl w.heap.size w)
 unfold strI iV
 generalize decide (x < 0) = neg at *
 generalize x.natAbs = m at *
 generalize Lib.itoa x = S at *
 clear h1 htab hx
 refine (callsIn_wide (n := 6)).1 ?_
 refine callsIn_of_wp_marks Tryz.func219 rfl trivial ?_ rfl
 simp only [Tryz.ntmps219, List.size_toArray, List.length_cons, List.length_nil, Nat.reduceAdd, Nat.reduceSub, Array.replicate_succ, Array.replicate_zero, List.push_toArray, List.append_toArray, List.nil_append, List.cons_append]
 refine wpIn_wide.2 ?_
 obtain ⟨sg, hsg⟩ : ∃ sg : List UInt8, (if neg = true then [45] else []) = sg := ⟨_, rfl⟩
 rw [hsg] at HS
 have hsl : sg.length ≤ 1 := by rw [← hsg]; split <;> simp
 have HW : Aside0 (∀ (b : Nat) (W : World), Lib.IsBuilderF 263 5 b b [] W → b ≤ W.heap.size → neg = true → Calls Tryz.prog 228 #[.pointer (some ⟨b, 0, none⟩), .int .u8 45] W fun e w' => e = .returned .nilIface ∧ Below b W w' ∧ Aside0 (Lib.IsBuilderF 263 5 b b (Lib.byteCells sg) w')) := ⟨fun b W h hb hn => by
  refine (writeByte_calls b b [] 45 W h (by simp) hb).mono ?_
  rintro e w' ⟨rfl, h1, h2, _⟩
  refine ⟨rfl, h2, ⟨.inr ?_⟩⟩
  rw [← hsg, if_pos hn]
  exact h1⟩
 have HNW : Aside0 (neg = false → sg = []) := ⟨fun h => by rw [← hsg, h]; rfl⟩
 clear hsg
 go_wp2_with (first
  | (go_at_call 74; ((with_reducible refine (HZ.out _ bl).mono ?_); rintro e w1 ⟨rfl, hb1⟩; obtain ⟨hc1, hf1⟩ := bcell hb1; have z1_0 : (w.heap.size) < w1.heap.size := zb hb1; have nB1 : Aside0 (Below w.heap.size w w1) := sb hb1; clear HB; have HB := nB1; clear nB1))
  | (go_at_call 228; go_loud ((with_reducible refine (HW.out _ _ (builder_new _) (by simp) (by assumption)).mono ?_); rintro e w5 ⟨rfl, hb5, hI5⟩; have z5 : w.heap.size < w5.heap.size := Nat.lt_of_lt_of_le (by simp; omega) hb5.size; have c5 : ∀ j, w5.cell? ⟨w.heap.size, j, none⟩ = w1.cell? ⟨w.heap.size, j, none⟩ := fun j => (hb5.cell (p := ⟨w.heap.size, j, none⟩) z1_0).trans (by simp [go_sem, z1_0]); have HB5 := Aside0.mk hb5; clear hb5))
  | (go_at_call 216; (with_reducible refine (back_calls _ _ _).mono ?_); rintro e w' ⟨rfl, rfl⟩))
 ·have h1a : w1.heap[w.heap.size]? = some (.cells #[.slice A L L, .bool neg] 111 (0, 0)) := (hb1.block _ (by simp)).trans (heap_alloc_new w _)
  have h5a : w5.heap[w.heap.size]? = some (.cells #[.slice A L L, .bool neg] 111 (0, 0)) := (HB5.out.block _ z1_0).trans ((Below.heap_alloc _ _ _ z1_0).trans h1a)
  have hb0 : Below w.heap.size w (w5.alloc (.cells #[.slice A L L] 99)) := below_alloc ((bl : Below w.heap.size w (w1.alloc (.cells #[.pointer none, .slice none 0 0] 263))).trans (HB5.out.mono (by omega))) _
  have hlt5 : w1.heap.size < w5.heap.size := Nat.lt_of_lt_of_le (by simp) HB5.out.size
  obtain ⟨p5, v5, hx5⟩ := BX.of hI5.out
  have I0 : TI w w1.heap.size A L m neg sg [] [w5.heap.size] (w5.alloc (.cells #[.slice A L L] 99)) :=
   ⟨(Below.heap_alloc _ _ _ z5).trans h5a, ⟨0, p5, v5, by omega, rfl, by rw [topD, if_pos rfl, List.append_nil]; exact hx5.below (below_alloc (Below.refl _ _) _), fun g hg => by have := (hx5.2.2.2.1.lt g hg).2; simp; omega⟩, by simp; omega, hb0, z1_0⟩
  have hcs : (w5.alloc (.cells #[.slice A L L] 99)).cell? ⟨w5.heap.size, 0, none⟩ = some (.slice A L L) := by simp [go_sem]
  have hbs : w.heap.size ≤ w5.heap.size ∧ w5.heap.size < (w5.alloc (.cells #[.slice A L L] 99)).heap.size := ⟨by omega, by simp⟩
  clear hx5 hlt5 h5a h1a c5
  generalize (w5.alloc (.cells #[.slice A L L] 99)) = W0 at *
  generalize w5.heap.size = Bs at *
  generalize hbb : w1.heap.size = b at *
  clear hb1 hc1 hf1 HB
  refine (wpIn_wide (n := 6)).1 ?_
  refine wpIn_back (own0 := [Bs]) (n₀ := w.heap.size) (by omega) (gf := 227) (lb := #[.pointer (some ⟨Bs, 0, none⟩)]) rfl Tryz.call227 (back_seq 5 (by omega) (xs := dg BB m) ((H1.out.keep hB hb0).more hB).lst hL hcs (by omega)) (by omega) (fun r hr => by simp only [List.mem_singleton] at hr; omega)
   (TI w b A L m neg sg) (fun c pre own W => False) (fun pre own A B h ht => h.turn ht) (fun pre own A r h hr => h.adopt hr) (fun c pre own A B h ht => h) I0 (by simp) ?body ?done ?stop
  case stop =>
   rintro D c pre own W hD hSp h hK
   exact h.elim
  case body =>
   rintro l pre own x W ho hz hI ⟨k, hk, rfl, rfl⟩
   obtain ⟨r, ⟨k', p, v, hk', hp, hx, hv⟩, no, bl, lt⟩ := hI
   obtain rfl := backs_inj hp
   obtain ⟨j, hj⟩ : ∃ j, k + 1 + j = L := ⟨L - 1 - k, by omega⟩
   obtain ⟨d, hd⟩ : ∃ d, m / BB ^ j % BB = d := ⟨_, rfl⟩
   have hd1 : d < 1000000000 := by rw [← hd]; exact Nat.mod_lt _ (by decide)
   have eb : backAt (dg BB m) k = (j, d) := by
    unfold backAt
    rw [H1.out.1, show L - 1 - k = j by omega, dg_getD BB1, hd]
   rw [eb]
   have c0 : W.cell? ⟨w.heap.size, 0, none⟩ = some (.slice A L L) := by simp [World.cell?, r]
   have HX := Aside0.mk (show BX b b p v (Lib.byteCells (sg ++ topD m L k)) W ∧ (∀ g, v.ownBlock = some g → g ∉ own) ∧ W.heap[w.heap.size]? = some (.cells #[.slice A L L, .bool neg] 111 (0, 0)) ∧ Below w.heap.size w W from ⟨hx, hv, r, bl⟩)
   have e1 : IntKind.i64.wrap ((L : Int) - 1) = (L : Int) - 1 := IntWalk.i64_in _ (by omega)
   have e0 : IntKind.u64.wrap (d : Int) = (d : Int) := IntWalk.u64_in _ (by omega)
   have hdl := dec_len 9 d (by omega) (by omega)
   have HD : Aside0 (topD m L (k + 1) = topD m L k ++ ((if k = 0 then [] else List.replicate (9 - (Lib.decDigits d).length) 48) ++ Lib.decDigits d)) := ⟨top_stepD H1.out hk hm0 hj hd⟩
   obtain ⟨t, ht⟩ : ∃ t : ByteArray, (⟨(Lib.decDigits d).toArray⟩ : ByteArray) = t := ⟨_, rfl⟩
   have htl : t.data.toList = Lib.decDigits d := by rw [← ht]
   have hts : t.size = (Lib.decDigits d).length := by rw [← ht]; rfl
   have HF : Aside0 (∀ W, Below w.heap.size w W → Calls Tryz.prog 229 #[.int .u64 (d : Int), .int .i64 10] W fun e w' => e = .returned (.string t) ∧ Below W.heap.size W w') := ⟨fun W hb => by rw [← ht]; exact formatUint_calls d (by omega) W (HT.out.below hb)⟩
   rw [← htl] at HD hdl
   rw [← htl] at hts
   have HEB : Aside0 (backs (dg BB m) k ++ [(j, d)] = backs (dg BB m) (k + 1)) := ⟨by rw [backs_succ, eb]⟩
   clear ht htl hd eb hx hv r bl hp
   by_cases hk0 : k = 0
   ·subst hk0
    have hji : ¬ (j : Int) < (L : Int) - 1 := by omega
    rw [if_pos rfl, List.nil_append] at HD
    gi_wp2_with (first
     | (refine ⟨trivial, ?_⟩; gi_at_call 229; (with_reducible refine ((callsIn_wide.2 (HF.out _ HX.out.2.2.2)).inRound _).mono ?_); rintro e w2 ⟨rfl, hb2⟩; have c2 := (hb2.cell (p := ⟨w.heap.size, 0, none⟩) (World.block_lt_of_cell? W _ c0)).trans c0; have HB2 := Aside0.mk hb2)
     | (refine ⟨trivial, ?_⟩; gi_at_call 231; go_loud ((with_reducible refine ((callsIn_wide.2 (writeStringX t (HX.out.1.below HB2.out) (by rw [Lib.byteCells_length]; simp [topD]; omega) (Nat.le_trans (Nat.le_of_lt HX.out.1.lt) HB2.out.size))).inRound _).mono ?_); rintro e w3 ⟨p', v', rfl, hx3, hb3, hk3, hg3⟩)))
    rename_i w3 _ _ _ _
    exact text_round HX.out HB2.out hx3 hb3 hk3 hg3 HD.out hk HEB.out no lt ho
   ·have hji : (j : Int) < (L : Int) - 1 := by omega
    rw [if_neg hk0] at HD
    obtain ⟨q, hq⟩ : ∃ q : Nat, 9 - t.data.toList.length = q := ⟨_, rfl⟩
    have e2 : IntKind.i64.wrap (9 - (t.size : Int)) = (q : Int) := by rw [IntWalk.i64_in _ (by omega)]; omega
    have HR : Aside0 (∀ W, Calls Tryz.prog 230 #[.string ⟨#[48]⟩, .int .i64 (q : Int)] W fun e w' => e = .returned (.string ⟨(List.replicate q 48).toArray⟩) ∧ Below W.heap.size W w') := ⟨fun W => repeat0 q (by omega) W⟩
    rw [hq] at HD
    obtain ⟨r, hr⟩ : ∃ r : ByteArray, (⟨(List.replicate q (48 : UInt8)).toArray⟩ : ByteArray) = r := ⟨_, rfl⟩
    rw [hr] at HR
    have hrt : (r ++ t).data.toList = List.replicate q 48 ++ t.data.toList := by rw [← hr]; simp
    have hrs : (r ++ t).size = q + t.data.toList.length := by rw [ByteArray.size_append, hts, ← hr]; show (List.replicate q (48 : UInt8)).toArray.size + _ = _; simp
    rw [← hrt] at HD
    clear hr hrt
    have hcl := topD_le H1.out (Nat.le_of_lt hk) hsl (k := k)
    have HTS := Aside0.mk (show (Lib.byteCells (sg ++ topD m L k)).length + (r ++ t).size ≤ 140737488355328 by rw [Lib.byteCells_length]; omega)
    have hr9 : r.size ≤ 9 := by rw [ByteArray.size_append] at hrs; omega
    have ht9 : t.size ≤ 9 := by omega
    have hrt9 : r.size + t.size ≤ 9223372036854775807 := by omega
    clear hts hrs hq hdl hcl
    gi_wp2_with (first
     | (refine ⟨trivial, ?_⟩; gi_at_call 229; (with_reducible refine ((callsIn_wide.2 (HF.out _ HX.out.2.2.2)).inRound _).mono ?_); rintro e w2 ⟨rfl, hb2⟩; have c2 := (hb2.cell (p := ⟨w.heap.size, 0, none⟩) (World.block_lt_of_cell? W _ c0)).trans c0; have HB2 := Aside0.mk hb2)
     | (refine ⟨trivial, ?_⟩; gi_at_call 230; (with_reducible refine ((callsIn_wide.2 (HR.out _)).inRound _).mono ?_); rintro e w4 ⟨rfl, hb4⟩; have HB4 := Aside0.mk (HB2.out.trans (hb4.mono HB2.out.size)))
     | (refine ⟨trivial, ?_⟩; gi_at_call 231; go_loud ((with_reducible refine ((callsIn_wide.2 (writeStringX (r ++ t) (HX.out.1.below HB4.out) HTS.out (Nat.le_trans (Nat.le_of_lt HX.out.1.lt) HB4.out.size))).inRound _).mono ?_); rintro e w3 ⟨p', v', rfl, hx3, hb3, hk3, hg3⟩)))
    exact text_round HX.out HB4.out hx3 hb3 hk3 hg3 HD.out hk HEB.out no lt ho
  case done =>
   rintro D xs own W hD rfl hI hK
   obtain ⟨r, ⟨k, p, v, hk, hp, hx, hv⟩, no, bl, lt⟩ := hI
   obtain rfl := backs_inj hp
   have eD : sg ++ topD m L L = S := by rw [topD, if_neg (by omega), Nat.sub_self, Nat.pow_zero, Nat.div_one]; exact HS.out.symm
   rw [eD] at hx
   have HST : Aside0 (Calls Tryz.prog 232 #[.pointer (some ⟨b, 0, none⟩)] W fun e w' => e = .returned (.string ⟨S.toArray⟩) ∧ Below b W w' ∧ w'.heap[D]? = some (.deferred (some []))) := ⟨by
    have hbD := hx.lt
    refine (Any.Builder_String_k Tryz.lays169 Tryz.Builder_Extra_169 b b S W hx.builder (by rw [HS.out]; intro e; have h2 := congrArg List.length e; rw [List.length_append, List.length_nil] at h2; have := dec_pos m; omega)).mono ?_
    rintro e w' ⟨rfl, _, h, hk2⟩
    exact ⟨rfl, h, hk2 D _ hK (by intro e; cases e; rw [hx.2.2.1] at hK; cases hK) (by intro c fz e; cases e)⟩⟩
   have HB := Aside0.mk bl
   have hDw : w.heap.size + 1 ≤ D := by omega
   clear r hx hv bl hK I0 hcs eD
   go_wp2_with (go_at_call 232; (with_reducible refine (HST.out).mono ?_); rintro e w1 ⟨rfl, hb1, hD1⟩)
   exact text_end w _ D _ S _ rfl hD1 ⟨rfl, (HB.out.trans (hb1.mono (by omega))).trans (belowK_b (w := w) (Nat.le_refl _) _ D _ _ (by omega) hD1 rfl rfl)⟩
 ·have h1a : w1.heap[w.heap.size]? = some (.cells #[.slice A L L, .bool neg] 111 (0, 0)) := (hb1.block _ (by simp)).trans (heap_alloc_new w _)
  have hb0 : Below w.heap.size w ((w1.alloc (.cells #[.pointer none, .slice none 0 0] 263)).alloc (.cells #[.slice A L L] 99)) := bl
  have hbN : sg = [] := HNW.out (by first | assumption | simpa using ‹¬ neg = true›)
  obtain ⟨p5, v5, hx5⟩ := BX.of (builder_new w1)
  have I0 : TI w w1.heap.size A L m neg sg [] [w1.heap.size + 1] ((w1.alloc (.cells #[.pointer none, .slice none 0 0] 263)).alloc (.cells #[.slice A L L] 99)) :=
   ⟨(Below.heap_alloc _ _ _ (by simp; omega)).trans ((Below.heap_alloc _ _ _ z1_0).trans h1a), ⟨0, p5, v5, by omega, rfl, by rw [topD, if_pos rfl, List.append_nil, hbN]; exact hx5.below (below_alloc (Below.refl _ _) _), fun g hg => by have := (hx5.2.2.2.1.lt g hg).2; simp at this ⊢; omega⟩, by simp; omega, hb0, z1_0⟩
  have hcs : ((w1.alloc (.cells #[.pointer none, .slice none 0 0] 263)).alloc (.cells #[.slice A L L] 99)).cell? ⟨w1.heap.size + 1, 0, none⟩ = some (.slice A L L) := by simp [go_sem]
  have hbs : w.heap.size ≤ w1.heap.size + 1 ∧ w1.heap.size + 1 < ((w1.alloc (.cells #[.pointer none, .slice none 0 0] 263)).alloc (.cells #[.slice A L L] 99)).heap.size := ⟨by omega, by simp⟩
  clear hx5 h1a
  generalize ((w1.alloc (.cells #[.pointer none, .slice none 0 0] 263)).alloc (.cells #[.slice A L L] 99)) = W0 at *
  generalize w1.heap.size + 1 = Bs at *
  generalize hbb : w1.heap.size = b at *
  clear hb1 hc1 hf1 HB
  refine (wpIn_wide (n := 6)).1 ?_
  refine wpIn_back (own0 := [Bs]) (n₀ := w.heap.size) (by omega) (gf := 227) (lb := #[.pointer (some ⟨Bs, 0, none⟩)]) rfl Tryz.call227 (back_seq 5 (by omega) (xs := dg BB m) ((H1.out.keep hB hb0).more hB).lst hL hcs (by omega)) (by omega) (fun r hr => by simp only [List.mem_singleton] at hr; omega)
   (TI w b A L m neg sg) (fun c pre own W => False) (fun pre own A B h ht => h.turn ht) (fun pre own A r h hr => h.adopt hr) (fun c pre own A B h ht => h) I0 (by simp) ?body ?done ?stop
  case stop =>
   rintro D c pre own W hD hSp h hK
   exact h.elim
  case body =>
   rintro l pre own x W ho hz hI ⟨k, hk, rfl, rfl⟩
   obtain ⟨r, ⟨k', p, v, hk', hp, hx, hv⟩, no, bl, lt⟩ := hI
   obtain rfl := backs_inj hp
   obtain ⟨j, hj⟩ : ∃ j, k + 1 + j = L := ⟨L - 1 - k, by omega⟩
   obtain ⟨d, hd⟩ : ∃ d, m / BB ^ j % BB = d := ⟨_, rfl⟩
   have hd1 : d < 1000000000 := by rw [← hd]; exact Nat.mod_lt _ (by decide)
   have eb : backAt (dg BB m) k = (j, d) := by
    unfold backAt
    rw [H1.out.1, show L - 1 - k = j by omega, dg_getD BB1, hd]
   rw [eb]
   have c0 : W.cell? ⟨w.heap.size, 0, none⟩ = some (.slice A L L) := by simp [World.cell?, r]
   have HX := Aside0.mk (show BX b b p v (Lib.byteCells (sg ++ topD m L k)) W ∧ (∀ g, v.ownBlock = some g → g ∉ own) ∧ W.heap[w.heap.size]? = some (.cells #[.slice A L L, .bool neg] 111 (0, 0)) ∧ Below w.heap.size w W from ⟨hx, hv, r, bl⟩)
   have e1 : IntKind.i64.wrap ((L : Int) - 1) = (L : Int) - 1 := IntWalk.i64_in _ (by omega)
   have e0 : IntKind.u64.wrap (d : Int) = (d : Int) := IntWalk.u64_in _ (by omega)
   have hdl := dec_len 9 d (by omega) (by omega)
   have HD : Aside0 (topD m L (k + 1) = topD m L k ++ ((if k = 0 then [] else List.replicate (9 - (Lib.decDigits d).length) 48) ++ Lib.decDigits d)) := ⟨top_stepD H1.out hk hm0 hj hd⟩
   obtain ⟨t, ht⟩ : ∃ t : ByteArray, (⟨(Lib.decDigits d).toArray⟩ : ByteArray) = t := ⟨_, rfl⟩
   have htl : t.data.toList = Lib.decDigits d := by rw [← ht]
   have hts : t.size = (Lib.decDigits d).length := by rw [← ht]; rfl
   have HF : Aside0 (∀ W, Below w.heap.size w W → Calls Tryz.prog 229 #[.int .u64 (d : Int), .int .i64 10] W fun e w' => e = .returned (.string t) ∧ Below W.heap.size W w') := ⟨fun W hb => by rw [← ht]; exact formatUint_calls d (by omega) W (HT.out.below hb)⟩
   rw [← htl] at HD hdl
   rw [← htl] at hts
   have HEB : Aside0 (backs (dg BB m) k ++ [(j, d)] = backs (dg BB m) (k + 1)) := ⟨by rw [backs_succ, eb]⟩
   clear ht htl hd eb hx hv r bl hp
   by_cases hk0 : k = 0
   ·subst hk0
    have hji : ¬ (j : Int) < (L : Int) - 1 := by omega
    rw [if_pos rfl, List.nil_append] at HD
    gi_wp2_with (first
     | (refine ⟨trivial, ?_⟩; gi_at_call 229; (with_reducible refine ((callsIn_wide.2 (HF.out _ HX.out.2.2.2)).inRound _).mono ?_); rintro e w2 ⟨rfl, hb2⟩; have c2 := (hb2.cell (p := ⟨w.heap.size, 0, none⟩) (World.block_lt_of_cell? W _ c0)).trans c0; have HB2 := Aside0.mk hb2)
     | (refine ⟨trivial, ?_⟩; gi_at_call 231; go_loud ((with_reducible refine ((callsIn_wide.2 (writeStringX t (HX.out.1.below HB2.out) (by rw [Lib.byteCells_length]; simp [topD]; omega) (Nat.le_trans (Nat.le_of_lt HX.out.1.lt) HB2.out.size))).inRound _).mono ?_); rintro e w3 ⟨p', v', rfl, hx3, hb3, hk3, hg3⟩)))
    rename_i w3 _ _ _ _
    exact text_round HX.out HB2.out hx3 hb3 hk3 hg3 HD.out hk HEB.out no lt ho
   ·have hji : (j : Int) < (L : Int) - 1 := by omega
    rw [if_neg hk0] at HD
    obtain ⟨q, hq⟩ : ∃ q : Nat, 9 - t.data.toList.length = q := ⟨_, rfl⟩
    have e2 : IntKind.i64.wrap (9 - (t.size : Int)) = (q : Int) := by rw [IntWalk.i64_in _ (by omega)]; omega
    have HR : Aside0 (∀ W, Calls Tryz.prog 230 #[.string ⟨#[48]⟩, .int .i64 (q : Int)] W fun e w' => e = .returned (.string ⟨(List.replicate q 48).toArray⟩) ∧ Below W.heap.size W w') := ⟨fun W => repeat0 q (by omega) W⟩
    rw [hq] at HD
    obtain ⟨r, hr⟩ : ∃ r : ByteArray, (⟨(List.replicate q (48 : UInt8)).toArray⟩ : ByteArray) = r := ⟨_, rfl⟩
    rw [hr] at HR
    have hrt : (r ++ t).data.toList = List.replicate q 48 ++ t.data.toList := by rw [← hr]; simp
    have hrs : (r ++ t).size = q + t.data.toList.length := by rw [ByteArray.size_append, hts, ← hr]; show (List.replicate q (48 : UInt8)).toArray.size + _ = _; simp
    rw [← hrt] at HD
    clear hr hrt
    have hcl := topD_le H1.out (Nat.le_of_lt hk) hsl (k := k)
    have HTS := Aside0.mk (show (Lib.byteCells (sg ++ topD m L k)).length + (r ++ t).size ≤ 140737488355328 by rw [Lib.byteCells_length]; omega)
    have hr9 : r.size ≤ 9 := by rw [ByteArray.size_append] at hrs; omega
    have ht9 : t.size ≤ 9 := by omega
    have hrt9 : r.size + t.size ≤ 9223372036854775807 := by omega
    clear hts hrs hq hdl hcl
    gi_wp2_with (first
     | (refine ⟨trivial, ?_⟩; gi_at_call 229; (with_reducible refine ((callsIn_wide.2 (HF.out _ HX.out.2.2.2)).inRound _).mono ?_); rintro e w2 ⟨rfl, hb2⟩; have c2 := (hb2.cell (p := ⟨w.heap.size, 0, none⟩) (World.block_lt_of_cell? W _ c0)).trans c0; have HB2 := Aside0.mk hb2)
     | (refine ⟨trivial, ?_⟩; gi_at_call 230; (with_reducible refine ((callsIn_wide.2 (HR.out _)).inRound _).mono ?_); rintro e w4 ⟨rfl, hb4⟩; have HB4 := Aside0.mk (HB2.out.trans (hb4.mono HB2.out.size)))
     | (refine ⟨trivial, ?_⟩; gi_at_call 231; go_loud ((with_reducible refine ((callsIn_wide.2 (writeStringX (r ++ t) (HX.out.1.below HB4.out) HTS.out (Nat.le_trans (Nat.le_of_lt HX.out.1.lt) HB4.out.size))).inRound _).mono ?_); rintro e w3 ⟨p', v', rfl, hx3, hb3, hk3, hg3⟩)))
    exact text_round HX.out HB4.out hx3 hb3 hk3 hg3 HD.out hk HEB.out no lt ho
  case done =>
   rintro D xs own W hD rfl hI hK
   obtain ⟨r, ⟨k, p, v, hk, hp, hx, hv⟩, no, bl, lt⟩ := hI
   obtain rfl := backs_inj hp
   have eD : sg ++ topD m L L = S := by rw [topD, if_neg (by omega), Nat.sub_self, Nat.pow_zero, Nat.div_one]; exact HS.out.symm
   rw [eD] at hx
   have HST : Aside0 (Calls Tryz.prog 232 #[.pointer (some ⟨b, 0, none⟩)] W fun e w' => e = .returned (.string ⟨S.toArray⟩) ∧ Below b W w' ∧ w'.heap[D]? = some (.deferred (some []))) := ⟨by
    have hbD := hx.lt
    refine (Any.Builder_String_k Tryz.lays169 Tryz.Builder_Extra_169 b b S W hx.builder (by rw [HS.out]; intro e; have h2 := congrArg List.length e; rw [List.length_append, List.length_nil] at h2; have := dec_pos m; omega)).mono ?_
    rintro e w' ⟨rfl, _, h, hk2⟩
    exact ⟨rfl, h, hk2 D _ hK (by intro e; cases e; rw [hx.2.2.1] at hK; cases hK) (by intro c fz e; cases e)⟩⟩
   have HB := Aside0.mk bl
   have hDw : w.heap.size + 1 ≤ D := by omega
   clear r hx hv bl hK I0 hcs eD
   go_wp2_with (go_at_call 232; (with_reducible refine (HST.out).mono ?_); rintro e w1 ⟨rfl, hb1, hD1⟩)
   exact text_end w _ D _ S _ rfl hD1 ⟨rfl, (HB.out.trans (hb1.mono (by omega))).trans (belowK_b (w := w) (Nat.le_refl _) _ D _ _ (by omega) hD1 rfl rfl)⟩
theorem text_calls {w : World} {B : Nat} {A : Option Addr} {L : Nat} {x : Int} (h1 : Mag w B A L x.natAbs) (hB : B ≤ w.heap.size) (htab : Tens w) :
 Calls Tryz.prog 219 #[iV A L x] w fun e w' => e = .returned (.string (strI x)) ∧ Below w.heap.size w w' := by
 by_cases h : x = 0
 ·subst h; exact text_zero h1 hB
 ·exact text_some h1 hB htab h
end
section
open Go.Proofs.YtnjbinpbkjdjpaaGreatDoorW.PrintLast Go.Proofs.YtnjbinpbkjdjpaaGreatDoorW.PrintMore Go.Proofs.YtnjbinpbkjdjpaaGreatDoorW.PrintWords Go.RowKit
theorem when_calls (b : Bool) (e : Int) (w : World) :
 Calls Tryz.prog 125 #[.bool b, .int .i64 e] w fun r w' => r = .returned (.int .i64 (if b = true then e else 0)) ∧ w' = w := by
 cases b <;> (go_enter Tryz.func125, Tryz.ntmps125; go_wp2; go_ret; exact ⟨by simp, rfl⟩)
def isDig (c : UInt8) : Bool := decide (48 ≤ c.toNat) && decide (c.toNat ≤ 57)
/-- What isDigits says. -/
def digitsB (s : ByteArray) : Bool := s.data.toList.all isDig && decide (s.size ≠ 0)
theorem isDig_of {s : ByteArray} (h : s.data.toList.all isDig = true) : DG s.data.toList := by
 intro c hc
 have := List.all_eq_true.1 h c hc
 simpa [isDig] using this
theorem all_take_succ {s : ByteArray} {i : Nat} (h : i < s.size) : (s.data.toList.take (i + 1)).all isDig = ((s.data.toList.take i).all isDig && isDig (s[i]'h)) := by
 have hl : i < s.data.toList.length := by simpa using h
 rw [List.take_succ_eq_append_getElem hl, List.all_append]
 simp
 rfl
theorem all_false {s : ByteArray} {i : Nat} (h : i < s.size) (hd : isDig (s[i]'h) = false) : digitsB s = false := by
 have hl : i < s.data.toList.length := by simpa using h
 have : s.data.toList.all isDig = false := by
  rw [List.all_eq_false]
  refine ⟨s.data.toList[i], List.getElem_mem hl, ?_⟩
  have e : s.data.toList[i] = s[i]'h := by simp; rfl
  rw [e, hd]; simp
 rw [digitsB, this, Bool.false_and]
theorem isDigits_calls (s : ByteArray) (hs : s.size ≤ 1000000) (w : World) :
 Calls Tryz.prog 165 #[.string s] w fun e w' => e = .returned (.bool (digitsB s)) ∧ Below w.heap.size w w' := by
 go_enter Tryz.func165, Tryz.ntmps165
 go_wp2_with fail
 go_loopw [] (fun W => ∃ i, i ≤ s.size ∧ Aside0 ((s.data.toList.take i).all isDig = true) ∧ W = w.iter s i) (fun W => s.size - W.iterPos w.heap.size)
 case atStart => exact ⟨0, Nat.zero_le _, ⟨by simp⟩, rfl⟩
 case round =>
  obtain ⟨i, hi, hall, rfl⟩ := hrel
  have hbi : ∀ k, Below w.heap.size w (w.iter s k) := fun k => below_alloc (Below.refl _ _) _
  have HBI := Aside0.mk hbi
  clear hbi
  by_cases hlt : i < s.size
  ·obtain ⟨c, hc⟩ : ∃ c : Nat, (s[i]'hlt).toNat = c := ⟨_, rfl⟩
   have HC : Aside0 ((s[i]'hlt).toNat = c) := ⟨hc⟩
   by_cases ha : c < 128
   ·have hnx := run_next_ascii (P := Tryz.prog) w s i 0 hlt (by rw [hc]; exact ha)
    rw [hc] at hnx
    clear hc
    by_cases hd1 : c < 48
    ·have hdi : decide ((c : Int) < 48) = true := decide_eq_true (by omega)
     go_wp2
     go_ret
     exact ⟨ret_b (all_false hlt (by simp [isDig, HC.out]; omega)).symm, HBI.out _⟩
    ·have hdi : decide ((c : Int) < 48) = false := decide_eq_false (by omega)
     by_cases hd2 : 57 < c
     ·have hdj : decide ((57 : Int) < (c : Int)) = true := decide_eq_true (by omega)
      go_wp2
      go_ret
      exact ⟨ret_b (all_false hlt (by simp [isDig, HC.out]; omega)).symm, HBI.out _⟩
     ·have hdj : decide ((57 : Int) < (c : Int)) = false := decide_eq_false (by omega)
      go_wp2
      go_roundw
      case rel => exact ⟨i + 1, hlt, ⟨by rw [all_take_succ hlt, hall.out]; simp [isDig, HC.out]; omega⟩, rfl⟩
      case measure => simp; omega
   ·have hh := decode_high s i hlt (by omega)
    have hl := decode_le s i
    have hnx := run_next_any (P := Tryz.prog) w s i 0 hlt
    obtain ⟨d, hd⟩ : ∃ d, (Utf8.decode s i).1 = d := ⟨_, rfl⟩
    rw [hd] at hnx hh hl
    have hdi : decide ((d : Int) < 48) = false := decide_eq_false (by omega)
    have hdj : decide ((57 : Int) < (d : Int)) = true := decide_eq_true (by omega)
    have hne : ¬ c < 128 := ha
    clear hc hd
    go_wp2
    go_ret
    exact ⟨ret_b (all_false hlt (by simp [isDig, HC.out]; omega)).symm, HBI.out _⟩
  ·have hnx := run_next_end (P := Tryz.prog) w s i 0 hlt
   obtain rfl : i = s.size := by omega
   go_wp2
   go_ret
   refine ⟨ret_b ?_, HBI.out _⟩
   have ha := hall.out
   rw [List.take_of_length_le (by simp)] at ha
   rw [digitsB, ha, Bool.true_and]
   rw [Lib.toList_data, Bool.eq_iff_iff]
   simp [List.isEmpty_iff]
   constructor
   ·intro h e; rw [e] at h; exact h rfl
   ·intro h e; exact h (ByteArray.ext e)
/-- The digits of a decimal string, and whether it has a minus. -/
def bodyB (s : ByteArray) : ByteArray := ⟨(Lib.trimPrefix s.data.toList [45]).toArray⟩
def minusB (s : ByteArray) : Bool := Lib.hasPrefix s.data.toList [45]
/-- What Check says. -/
def checkI (s : ByteArray) : Int :=
 if digitsB (bodyB s) = false then 1 else if (bodyB s).data.toList.head? = some 48 ∧ (minusB s = true ∨ 1 < (bodyB s).size) then 1 else if 120 < (bodyB s).size then 4 else 0
theorem cut_calls (s : ByteArray) (w : World) : Calls Tryz.prog 90 #[.string s, .string ⟨#[45]⟩] w fun e w' => e = .returned (.tuple #[.string (bodyB s), .bool (minusB s)]) ∧ w' = w :=
 Tryz.strings_CutPrefix s ⟨#[45]⟩ w
theorem bodyB_size (s : ByteArray) : (bodyB s).size ≤ s.size := by
 show (Lib.trimPrefix s.data.toList [45]).toArray.size ≤ s.data.size
 unfold Lib.trimPrefix
 split <;> simp
theorem head_of {b : ByteArray} (h : 0 < b.size) : b.data.toList.head? = some (b[0]'h) := by
 have hl : 0 < b.data.toList.length := by simpa using h
 rw [List.head?_eq_getElem?, List.getElem?_eq_getElem hl]
 simp; rfl
theorem digits_pos {b : ByteArray} (h : digitsB b = true) : 0 < b.size := by
 unfold digitsB at h
 simp only [Bool.and_eq_true, decide_eq_true_eq] at h
 omega
theorem check_calls (s : ByteArray) (hs : s.size ≤ 1000000) (w : World) :
 Calls Tryz.prog 123 #[.string s] w fun e w' => e = .returned (.int .i64 (checkI s)) ∧ Below w.heap.size w w' := by
 have hbs := bodyB_size s
 have HCUT : Aside0 (∀ w : World, Calls Tryz.prog 90 #[.string s, .string ⟨#[45]⟩] w fun e w' => e = .returned (.tuple #[.string (bodyB s), .bool (minusB s)]) ∧ w' = w) := ⟨cut_calls s⟩
 have HR := Aside0.mk (show checkI s = checkI s from rfl)
 unfold checkI at HR
 obtain ⟨R, hR⟩ : ∃ R, checkI s = R := ⟨_, rfl⟩
 unfold checkI at hR
 generalize hb : bodyB s = b at *
 generalize hm : minusB s = m at *
 have hgoal : checkI s = R := by unfold checkI; rw [hb, hm]; exact hR
 rw [hgoal]
 clear hgoal HR hb hm
 have hbl : b.size ≤ 1000000 := by omega
 by_cases hd : digitsB b = true
 ·have h0 := digits_pos hd
  rw [if_neg (by rw [hd]; simp), head_of h0] at hR
  obtain ⟨c, hc⟩ : ∃ c, b[0]'h0 = c := ⟨_, rfl⟩
  rw [hc] at hR
  have HD : Aside0 (digitsB b = true) := ⟨hd⟩
  have HI : Aside0 (∀ w : World, Calls Tryz.prog 165 #[.string b] w fun e w' => e = .returned (.bool true) ∧ Below w.heap.size w w') := ⟨fun w => by rw [← hd]; exact isDigits_calls b hbl w⟩
  clear hd
  have hlen : ∀ k : Nat, (k : Int) < (b.size : Int) ↔ k < b.size := fun k => by omega
  by_cases hc8 : c = 48
  ·subst hc8
   cases m
   ·by_cases hl1 : 1 < b.size
    ·have hd1 : decide ((1 : Int) < (b.size : Int)) = true := decide_eq_true (by omega)
     rw [if_pos ⟨rfl, .inr hl1⟩] at hR
     subst hR
     (go_enter Tryz.func123, Tryz.ntmps123; go_wp2_with (first | (go_at_call 90; (with_reducible refine (HCUT.out _).mono ?_); rintro e w' ⟨rfl, rfl⟩) | (go_at_call 165; (with_reducible refine (HI.out _).mono ?_); rintro e w1 ⟨rfl, hb1⟩) | (go_at_call 125; (with_reducible refine (when_calls _ _ _).mono ?_); rintro e w' ⟨rfl, rfl⟩)); go_ret; exact ⟨by first | rfl | simp, hb1⟩)
    ·have hd1 : decide ((1 : Int) < (b.size : Int)) = false := decide_eq_false (by omega)
     have hd2 : decide ((120 : Int) < (b.size : Int)) = false := decide_eq_false (by omega)
     rw [if_neg (by simp; omega), if_neg (by omega)] at hR
     subst hR
     (go_enter Tryz.func123, Tryz.ntmps123; go_wp2_with (first | (go_at_call 90; (with_reducible refine (HCUT.out _).mono ?_); rintro e w' ⟨rfl, rfl⟩) | (go_at_call 165; (with_reducible refine (HI.out _).mono ?_); rintro e w1 ⟨rfl, hb1⟩) | (go_at_call 125; (with_reducible refine (when_calls _ _ _).mono ?_); rintro e w' ⟨rfl, rfl⟩)); go_ret; exact ⟨by first | rfl | simp, hb1⟩)
   ·rw [if_pos ⟨rfl, .inl rfl⟩] at hR
    subst hR
    ·(go_enter Tryz.func123, Tryz.ntmps123; go_wp2_with (first | (go_at_call 90; (with_reducible refine (HCUT.out _).mono ?_); rintro e w' ⟨rfl, rfl⟩) | (go_at_call 165; (with_reducible refine (HI.out _).mono ?_); rintro e w1 ⟨rfl, hb1⟩) | (go_at_call 125; (with_reducible refine (when_calls _ _ _).mono ?_); rintro e w' ⟨rfl, rfl⟩)); go_ret; exact ⟨by first | rfl | simp, hb1⟩)
  ·have hcn : ¬ c.toNat = 48 := fun e => hc8 (by apply UInt8.toNat_inj.1; rw [e]; rfl)
   have hci : ((c.toNat : Int) == 48) = false := by simp; omega
   have hcd : decide ((c.toNat : Int) = 48) = false := decide_eq_false (by omega)
   rw [if_neg (by simp [hc8])] at hR
   by_cases hl1 : 120 < b.size
   ·have hd1 : decide ((120 : Int) < (b.size : Int)) = true := decide_eq_true (by omega)
    rw [if_pos hl1] at hR
    subst hR
    ·(go_enter Tryz.func123, Tryz.ntmps123; go_wp2_with (first | (go_at_call 90; (with_reducible refine (HCUT.out _).mono ?_); rintro e w' ⟨rfl, rfl⟩) | (go_at_call 165; (with_reducible refine (HI.out _).mono ?_); rintro e w1 ⟨rfl, hb1⟩) | (go_at_call 125; (with_reducible refine (when_calls _ _ _).mono ?_); rintro e w' ⟨rfl, rfl⟩)); go_ret; exact ⟨by first | rfl | simp, hb1⟩)
   ·have hd1 : decide ((120 : Int) < (b.size : Int)) = false := decide_eq_false (by omega)
    rw [if_neg hl1] at hR
    subst hR
    ·(go_enter Tryz.func123, Tryz.ntmps123; go_wp2_with (first | (go_at_call 90; (with_reducible refine (HCUT.out _).mono ?_); rintro e w' ⟨rfl, rfl⟩) | (go_at_call 165; (with_reducible refine (HI.out _).mono ?_); rintro e w1 ⟨rfl, hb1⟩) | (go_at_call 125; (with_reducible refine (when_calls _ _ _).mono ?_); rintro e w' ⟨rfl, rfl⟩)); go_ret; exact ⟨by first | rfl | simp, hb1⟩)
 ·have hd' : digitsB b = false := by simpa using hd
  have HI : Aside0 (∀ w : World, Calls Tryz.prog 165 #[.string b] w fun e w' => e = .returned (.bool false) ∧ Below w.heap.size w w') := ⟨fun w => by rw [← hd']; exact isDigits_calls b hbl w⟩
  rw [if_pos hd'] at hR
  subst hR
  clear hd hd'
  ·(go_enter Tryz.func123, Tryz.ntmps123; go_wp2_with (first | (go_at_call 90; (with_reducible refine (HCUT.out _).mono ?_); rintro e w' ⟨rfl, rfl⟩) | (go_at_call 165; (with_reducible refine (HI.out _).mono ?_); rintro e w1 ⟨rfl, hb1⟩) | (go_at_call 125; (with_reducible refine (when_calls _ _ _).mono ?_); rintro e w' ⟨rfl, rfl⟩)); go_ret; exact ⟨by first | rfl | simp, hb1⟩)
end
section
open Go.Proofs.YtnjbinpbkjdjpaaGreatDoor.Rf Go.Proofs.YtnjbinpbkjdjpaaGreatDoorW.PrintLast Go.Proofs.YtnjbinpbkjdjpaaGreatDoorW.PrintMore Go.Proofs.YtnjbinpbkjdjpaaGreatDoorW.PrintWords Go.RowKit Go.Shelf
attribute [local go_sem] Oper.semAt_some
theorem chunks_calls (s : ByteArray) (w : World) :
 Calls Tryz.prog 179 #[.string s] w fun e w' => e = .returned (.func (.func 212) #[] #[.pointer (some ⟨w.heap.size, 0, none⟩)]) ∧ w.alloc (.cells #[.string s] 9) = w' := by
 go_enter Tryz.func179, Tryz.ntmps179
 go_wp2
 go_ret
 exact ⟨rfl, rfl⟩
/-- A range over an iterator with one variable. -/
theorem wpIn_one {α : Type} {n : Nat} {P : Program} {g : Operand} {p i id1 : Nat} {t1 : TypeId} {s1 : String} {body : Code} {Q : Exit → Act → World → Prop} {a : Act} {w : World}
 (h1 : 1 ≤ n) {gf : Nat} {lb : Array Value} (hg : a.eval g = .func (.func gf) #[] lb) (eg : ∀ args w, (callFunc gf args).run P w = .ok (.enter gf args) w)
 (enc : α → Value) {S Sp : List α → Prop} {Nx : List α → α → Prop} {n₀ : Nat} {own0 : List Nat} (hseq : Seq Fence.wide (n - 1) P gf lb (fun x => #[enc x]) S Sp Nx n₀ own0 w) (hn₀ : n₀ ≤ w.heap.size)
 (hown0 : ∀ r, r ∈ own0 → n₀ ≤ r ∧ r < w.heap.size)
 (I : List α → List Nat → World → Prop) (Ix : Code → List α → List Nat → World → Prop)
 (hI : ∀ pre own A B, I pre own A → Turn n₀ own A B → I pre own B) (hIa : ∀ pre own A r, I pre own A → A.heap.size ≤ r → I pre (r :: own) A)
 (hIx : ∀ c pre own A B, Ix c pre own A → Turn n₀ own A B → Ix c pre own B)
 (h0 : I [] own0 w) (hsz : p < a.tmps.size)
 (hbody : ∀ (l : Nat) (pre : List α) (own : List Nat) (x : α) (W : World), (∀ r, r ∈ own → n₀ ≤ r ∧ r < W.heap.size) → w.heap.size ≤ W.heap.size → I pre own W → Nx pre x →
   body.wpIn (Fence.wide.inRound l) (n - 1 - 1) P (bodyEnds n₀ w.heap.size own I Ix (pre ++ [x]) W) { tmps := (a.tmps.setIfInBounds p (enc x)).setIfInBounds i (enc x), defers := [] } W)
 (hdone : ∀ (D : Nat) (xs : List α) (own : List Nat) (W : World), w.heap.size ≤ D → S xs → I xs own W → W.heap[D]? = some (.deferred (some [])) → Q .normal { a with defers := { target := .collected D, args := #[] } :: a.defers } W)
 (hstop : ∀ (D : Nat) (c : Code) (pre : List α) (own : List Nat) (W : World), w.heap.size ≤ D → Sp pre → Ix c pre own W → W.heap[D]? = some (.deferred (some [])) → c.wpIn Fence.wide n P Q { a with defers := { target := .collected D, args := #[] } :: a.defers } W) :
 (Code.rangeFunc g #[p] (Code.region id1 #[{ dst := some i, op := Op.assign (Operand.tmp p), type := t1, pos := s1, after := #[], guard := none }] false) body).wpIn Fence.wide n P Q a w := by
 refine wpIn_range rfl h1 hg trivial eg hseq hn₀ (fun _ => rfl) hown0 I Ix hI hIa hIx h0 (fun pre own x a' W => a' = { tmps := (a.tmps.setIfInBounds p (enc x)).setIfInBounds i (enc x), defers := [] }) (fun _ _ _ _ _ _ h _ => h) ?_ ?_ hdone hstop
 ·intro l pre own x W K ho hz hI hK
  have e1 : ((#[p] : Array Nat).zip #[enc x]).foldl (fun t (p, v) => t.setIfInBounds p v) a.tmps = a.tmps.setIfInBounds p (enc x) := by simp [← Array.foldl_toList, Array.toList_zip]
  rw [e1]
  refine wpIn_set ?_
  refine hK _ _ (KeepsFrom.refl _ _) (Rf.Kept.refl _ _ _) hI ?_
  have v1 : (a.tmps.setIfInBounds p (enc x))[p]?.getD undef = enc x := by
   simp [Array.getElem?_setIfInBounds, hsz]
  show Act.mk _ _ = _
  simp only [v1]
 ·rintro l pre own x a' W ho hz hI rfl hx
  exact hbody l pre own x W ho hz hI hx
theorem ownsRow_turn {n₀ : Nat} {own : List Nat} {A B : World} {base : Nat} {e : TypeId} {size : Nat} {v : Value} {n : Nat} {xs : List Value} (h : A.ownsRow base e size v n xs) (ht : Turn n₀ own A B) (hno : ∀ g, v.ownBlock = some g → g ∉ own) : B.ownsRow base e size v n xs := by
 refine ⟨h.1, ?_⟩
 rcases h.2 with hn | ⟨g, cap, cur, rfl, hb, hgg, rest⟩
 ·exact .inl hn
 ·exact .inr ⟨g, cap, cur, rfl, hb, ht.cells g _ hgg rfl (hno g rfl), rest⟩
theorem pieces_len : ∀ m n : Nat, (pieces m).length = (pieces n).length → ∀ pre q : List (Nat × Nat), pre ++ pieces m = q → pre ++ pieces n = q → m = n := by
 intro m n hl pre q h1 h2
 have h := List.append_cancel_left (h1.trans h2.symm)
 rcases Nat.eq_zero_or_pos m with rfl | hm
 ·rcases Nat.eq_zero_or_pos n with rfl | hn
  ·rfl
  ·rw [pieces_zero, pieces_pos hn] at h; cases h
 ·rcases Nat.eq_zero_or_pos n with rfl | hn
  ·rw [pieces_zero, pieces_pos hm] at h; cases h
  ·rw [pieces_pos hm, pieces_pos hn] at h
   injection h with h _
   injection h
theorem pieces_inj {m n : Nat} {pre q : List (Nat × Nat)} (hp : pre ++ pieces m = q) (hq : pre ++ pieces n = q) : n = m :=
 (pieces_len m n (by rw [List.append_cancel_left (hp.trans hq.symm)]) pre q hp hq).symm
theorem not_own {W : World} {base n k size : Nat} {e t : TypeId} {v : Value} {xs : List Value} {cs : Array Value} {fr : Nat × Nat} (h : W.ownsRow base e size v n xs) (hx : W.heap[k]? = some (.cells cs t fr)) (hte : t ≠ e) : v.ownBlock ≠ some k := by
 intro hk
 rcases h.2 with ⟨rfl, _⟩ | ⟨g, cap, cur, rfl, _, hgg, _⟩
 ·simp [Value.ownBlock] at hk
 ·have : g = k := by simpa [Value.ownBlock] using hk
  subst this
  rw [hgg] at hx
  cases hx
  exact hte rfl
theorem keepsFrom_below' {B : Nat} {W X : World} (h : Below W.heap.size W X) : KeepsFrom B W X :=
 ⟨h.size, fun i o _ hi _ => (h.block i (Array.getElem?_eq_some_iff.1 hi).1).trans hi⟩
theorem lst_own {W : World} {base n : Nat} {v : Value} {xs : List Nat} (ho : W.ownsRow base 22 1 v n (xs.map fun d : Nat => Value.int .u32 (d : Int))) (hn : xs.length = n) : ∃ A c, v = .slice A n c ∧ n ≤ c ∧ Lst W W.heap.size A n xs := by
 obtain ⟨A, c, rfl⟩ := own_slice ho
 refine ⟨A, c, rfl, ?_, hn, fun h0 => ?_⟩
 ·rcases ho.2 with ⟨_, h0⟩ | ⟨g, cap, cur, hv, _, _, hnc, _⟩
  ·omega
  ·injection hv with _ _ hcc
   omega
 ·obtain ⟨g, cap, hv, h1, h2⟩ := ho.form h0
  injection hv with hA
  subst hA
  refine ⟨g, rfl, h2, fun j hj => ?_⟩
  have := ho.cells (g := g) rfl j (.int .u32 (xs.getD j 0 : Nat)) (by rw [List.getElem?_map, List.getElem?_eq_getElem (by omega), getD_lt (by omega)]; rfl)
  have hadd : (⟨g, 0, none⟩ : Addr).add j = ⟨g, j, none⟩ := by unfold Addr.add; split <;> simp_all
  rwa [hadd] at this
theorem out_block {W : World} {b : Nat} (h : W.heap[b]? = some (.cells #[.slice none 0 0, .bool false] 111 (0, 0))) : Out W b :=
 ⟨by simp [World.cell?, h], by simp [World.cell?, h], by simp [World.frozen?, h], by simp [World.frozen?, h]⟩
/-- What parse hands back when its mark has been taken. -/
theorem parse_end (w W3 : World) (D : Nat) (tmps : Array Value) (x y : Value) (R : Ending → World → Prop) (h2 : tmps[2]?.getD undef = .pointer (some ⟨w.heap.size, 0, none⟩)) (hD : w.heap.size + 2 < D) (hK : W3.heap[D]? = some (.deferred (some [])))
 (c2 : W3.cell? ⟨w.heap.size, 0, none⟩ = some x) (c3 : W3.cell? ⟨w.heap.size, 1, none⟩ = some y) (hR : R (.returned (.agg #[x, y])) (W3.putObj D (.deferred none))) : bodyPostM Fence.wide 6 Tryz.prog Tryz.f124 R Exit.ret { tmps, defers := [{ target := .collected D, args := #[] }] } W3 := by
 refine ⟨by simp, .inl ⟨_, _, rfl, run_takeDeferred hK, ?_⟩⟩
 refine ⟨_, ?_, hR⟩
 have k2 : (W3.putObj D (.deferred none)).cell? ⟨w.heap.size, 0, none⟩ = some x := (World.cell?_of_block (World.putObj_heap_other (by simp; omega))).trans c2
 have k3 : (W3.putObj D (.deferred none)).cell? ⟨w.heap.size, 1, none⟩ = some y := (World.cell?_of_block (World.putObj_heap_other (by simp; omega))).trans c3
 simp [results, Tryz.results124, go_sem, h2, k2, k3]
/-- What lies in memory between two rounds of parse. -/
structure PI (w : World) (s : ByteArray) (pre : List (Nat × Nat)) (own : List Nat) (W : World) : Prop where
 r : W.heap[w.heap.size]? = some (.cells #[.slice none 0 0, .bool false] 111 (0, 0))
 st : ∃ v xs m, Boxed W (w.heap.size + 1) 99 v ∧ W.ownsRow w.heap.size 22 1 v xs.length (xs.map fun d : Nat => Value.int .u32 (d : Int)) ∧ (∀ g, v.ownBlock = some g → g ∉ own) ∧
  (∀ d ∈ xs, d < BB) ∧ m ≤ s.size ∧ pre ++ pieces m = pieces s.size ∧ (0 < m → s.size - m = 9 * xs.length) ∧ xs.length ≤ s.size ∧ val BB xs + BB ^ xs.length * dv (s.data.toList.take m) = dv s.data.toList
 no : ∀ k, k < 2 → w.heap.size + k ∉ own
 bl : Below w.heap.size w W
theorem PI.turn {w : World} {s : ByteArray} {pre : List (Nat × Nat)} {own : List Nat} {A B : World} (h : PI w s pre own A) (ht : Turn w.heap.size own A B) : PI w s pre own B := by
 obtain ⟨r, ⟨v, xs, m, a1, a2, a3, a4⟩, no, bl⟩ := h
 exact ⟨ht.cells _ _ r rfl (no 0 (by omega)), ⟨v, xs, m, boxed_turn a1 ht (no 1 (by omega)), ownsRow_turn a2 ht a3, a3, a4⟩, no, below_turn bl ht⟩
theorem PI.adopt {w : World} {s : ByteArray} {pre : List (Nat × Nat)} {own : List Nat} {A : World} {r : Nat} (h : PI w s pre own A) (hr : A.heap.size ≤ r) : PI w s pre (r :: own) A := by
 obtain ⟨r', ⟨v, xs, m, a1, a2, a3, a4⟩, no, bl⟩ := h
 refine ⟨r', ⟨v, xs, m, a1, a2, fun g hg => ?_, a4⟩, fun k hk => ?_, bl⟩
 ·have := (a2.lt g hg).2
  simp only [List.mem_cons, not_or]
  exact ⟨by omega, a3 g hg⟩
 ·have := a1.lt
  simp only [List.mem_cons, not_or]
  exact ⟨by omega, no k hk⟩
theorem parse_calls (s : ByteArray) (hs : s.size ≤ 90000) (hd : digitsB (bodyB s) = true) (w : World) :
 Calls Tryz.prog 124 #[.string s] w fun e w' => ∃ A k, e = .returned (.agg #[.slice A k k, .bool (minusB s && decide (dv (bodyB s).data.toList ≠ 0))]) ∧ Mag w' w'.heap.size A k (dv (bodyB s).data.toList) ∧ Below w.heap.size w w' := by
 have hbs := bodyB_size s
 have HCUT : Aside0 (∀ w : World, Calls Tryz.prog 90 #[.string s, .string ⟨#[45]⟩] w fun e w' => e = .returned (.tuple #[.string (bodyB s), .bool (minusB s)]) ∧ w' = w) := ⟨cut_calls s⟩
 generalize hb : bodyB s = b at *
 generalize hm : minusB s = m at *
 have hbl : b.size ≤ 90000 := by omega
 have HDG : Aside0 (DG b.data.toList) := ⟨isDig_of (by unfold digitsB at hd; simp only [Bool.and_eq_true] at hd; exact hd.1)⟩
 clear hb hm hd hbs
 refine (callsIn_wide (n := 6)).1 ?_
 refine callsIn_of_wp_marks Tryz.func124 rfl trivial ?_ rfl
 simp only [Tryz.ntmps124, List.size_toArray, List.length_cons, List.length_nil, Nat.reduceAdd, Nat.reduceSub, Array.replicate_succ, Array.replicate_zero, List.push_toArray, List.append_toArray, List.nil_append, List.cons_append]
 refine wpIn_wide.2 ?_
 go_wp2_with (first
  | (go_at_call 90; (with_reducible refine (HCUT.out _).mono ?_); rintro e w' ⟨rfl, rfl⟩)
  | (go_at_call 179; (with_reducible refine (chunks_calls _ _).mono ?_); rintro e w' ⟨rfl, rfl⟩))
 obtain ⟨W0, hW0⟩ : ∃ W0, W0 = (((w.alloc (.cells #[.slice none 0 0, .bool false] 111)).alloc (.cells #[.slice none 0 0] 99)).alloc (.cells #[.string b] 9)) := ⟨_, rfl⟩
 have hb0 : Below w.heap.size w W0 := by subst hW0; repeat (first | exact Below.refl _ _ | apply below_alloc)
 have hcs : Boxed W0 (w.heap.size + 1 + 1) 9 (.string b) := by subst hW0; exact boxed_at ((w.alloc _).alloc _) _ _ _ (by simp)
 have I0 : PI w b [] [w.heap.size + 1 + 1] W0 := by
  refine ⟨?_, ⟨.slice none 0 0, [], b.size, ?_, World.ownsRow_nil _ _ _ _, fun g hg => by simp [Value.ownBlock] at hg, by simp, Nat.le_refl _, rfl, by simp, by simp, ?_⟩, fun k hk => by simp; omega, hb0⟩
  ·subst hW0
   have h1 := heap_alloc_new w (.cells #[.slice none 0 0, .bool false] 111)
   have h2 : Below (w.alloc (.cells #[.slice none 0 0, .bool false] 111)).heap.size (w.alloc (.cells #[.slice none 0 0, .bool false] 111)) (((w.alloc (.cells #[.slice none 0 0, .bool false] 111)).alloc (.cells #[.slice none 0 0] 99)).alloc (.cells #[.string b] 9)) := by repeat (first | exact Below.refl _ _ | apply below_alloc)
   exact (h2.block w.heap.size (by simp)).trans h1
  ·subst hW0
   exact (boxed_at (w.alloc _) _ _ _ (by simp)).alloc _
  ·rw [List.take_of_length_le (by simp)]; simp [val]
 have hz0 : W0.heap.size = w.heap.size + 3 := by rw [hW0]; simp
 rw [← hW0]
 clear hW0
 refine (wpIn_wide (n := 6)).1 ?_
 refine wpIn_one (α := Nat × Nat) (own0 := [w.heap.size + 1 + 1]) (n₀ := w.heap.size) (by omega) (gf := 212) (lb := #[.pointer (some ⟨w.heap.size + 1 + 1, 0, none⟩)]) rfl Tryz.call212 (fun x => .string (b.extract x.1 x.2)) (chunks_seq 5 (by omega) b (by omega) hcs (by omega)) (by omega) (fun r hr => by simp only [List.mem_singleton] at hr; omega)
  (PI w b) (fun c pre own W => False) (fun pre own A B h ht => h.turn ht) (fun pre own A r h hr => h.adopt hr) (fun c pre own A B h ht => h) I0 (by simp) ?body ?done ?stop
 case stop =>
  rintro D c pre own W hD hSp h hK
  exact h.elim
 case body =>
  rintro l pre own x W ho hz hI ⟨m, hm0, hm, hp, rfl⟩
  obtain ⟨r, ⟨v, xs, m', a1, a2, a3, a4, a5, a6, a7, a8, a9⟩, no, bl⟩ := hI
  obtain rfl : m' = m := pieces_inj (hp := hp) (hq := a6)
  obtain ⟨f, hf⟩ : ∃ f, m' - 9 = f := ⟨_, rfl⟩
  obtain ⟨c, hc⟩ : ∃ c, b.extract f m' = c := ⟨_, rfl⟩
  have hcs : c.size = m' - f := by rw [← hc, ByteArray.size_extract]; omega
  have hct : c.data.toList = (b.data.toList.drop f).take (m' - f) := by rw [← hc, ByteArray.data_extract, Array.toList_extract]
  have hcd : DG c.data.toList := fun d hd => HDG.out d (by rw [hct] at hd; exact List.mem_of_mem_drop (List.mem_of_mem_take hd))
  have htk : b.data.toList.take m' = b.data.toList.take f ++ c.data.toList := by
   rw [hct, ← List.take_add]; congr 1; omega
  have HS : Aside0 (c.size ≤ 9 ∧ DG c.data.toList ∧ b.data.toList.take m' = b.data.toList.take f ++ c.data.toList ∧ c.data.toList.length = m' - f) := ⟨by omega, hcd, htk, by rw [← hcs]; simp⟩
  have HI := Aside0.mk (show W.heap[w.heap.size]? = some (.cells #[.slice none 0 0, .bool false] 111 (0, 0)) ∧ Boxed W (w.heap.size + 1) 99 v ∧ W.ownsRow w.heap.size 22 1 v xs.length (xs.map fun d : Nat => Value.int .u32 (d : Int)) ∧ (∀ g, v.ownBlock = some g → g ∉ own) ∧ (∀ d ∈ xs, d < BB) ∧ pre ++ pieces m' = pieces b.size ∧ (0 < m' → b.size - m' = 9 * xs.length) ∧ xs.length ≤ b.size ∧ val BB xs + BB ^ xs.length * dv (b.data.toList.take m') = dv b.data.toList ∧ Below w.heap.size w W from ⟨r, a1, a2, a3, a4, a6, a7, a8, a9, bl⟩)
  simp only [hf]
  rw [hc]
  clear r a1 a2 a3 a4 a6 a7 a8 a9 bl hct hcd htk hc
  gi_wp2
  gi_loopw [7] (fun v7 Y => ∃ i, i ≤ c.size ∧ v7 = .int .u32 (dv (c.data.toList.take i) : Nat) ∧ Y = W.iter c i) (fun _ Y => c.size - Y.iterPos W.heap.size)
  case atStart => exact ⟨0, Nat.zero_le _, by simp [dv], rfl⟩
  case round =>
   obtain ⟨i, hi, rfl, rfl⟩ := hrel
   by_cases hlt : i < c.size
   ·obtain ⟨u, hu⟩ : ∃ u : Nat, (c[i]'hlt).toNat = u := ⟨_, rfl⟩
    have hli : i < c.data.toList.length := by simpa using hlt
    have hci : c.data.toList[i] = c[i]'hlt := by simp; rfl
    have hud : 48 ≤ u ∧ u ≤ 57 := by
     have := HS.out.2.1 _ (List.getElem_mem hli)
     rw [hci, hu] at this
     exact this
    obtain ⟨N, hN⟩ : ∃ N, dv (c.data.toList.take i) = N := ⟨_, rfl⟩
    have hstep : dv (c.data.toList.take (i + 1)) = 10 * N + (u - 48) := by
     rw [List.take_succ_eq_append_getElem hli, dv_snoc, hN, hci, hu]
    have hNb : N < 100000000 := by
     have h1 := dv_lt (c.data.toList.take i) (fun d hd => HS.out.2.1 d (List.mem_of_mem_take hd))
     rw [hN] at h1
     have h2 : (c.data.toList.take i).length ≤ 8 := by have := HS.out.1; rw [List.length_take]; omega
     exact Nat.lt_of_lt_of_le h1 (Nat.pow_le_pow_right (by omega) h2)
    have hnx := run_next_ascii (P := Tryz.prog) W c i 0 hlt (by omega)
    rw [hu] at hnx
    have e1 : IntKind.u32.wrap (10 * (N : Int)) = 10 * (N : Int) := IntWalk.u32_in _ (by omega)
    have e2 : IntKind.i32.wrap ((u : Int) - 48) = (u : Int) - 48 := IntWalk.i32_in _ (by omega)
    have e3 : IntKind.u32.wrap ((u : Int) - 48) = (u : Int) - 48 := IntWalk.u32_in _ (by omega)
    have e4 : IntKind.u32.wrap (10 * (N : Int) + ((u : Int) - 48)) = ((10 * N + (u - 48) : Nat) : Int) := by rw [IntWalk.u32_in _ (by omega)]; omega
    have HST := Aside0.mk hstep
    rw [hN]
    clear hN hu hci hli hstep
    gi_wp2
    go_roundw
    case rel => exact ⟨i + 1, hlt, by rw [HST.out]; exact congrArg (Value.int .u32) (by omega), rfl⟩
    case measure => simp; omega
   ·have hnx := run_next_end (P := Tryz.prog) W c i 0 hlt
    obtain rfl : i = c.size := by omega
    obtain ⟨N, hN⟩ : ∃ N, dv c.data.toList = N := ⟨_, rfl⟩
    rw [List.take_of_length_le (by simp), hN]
    have hNb : N < BB := by
     have h1 := dv_lt c.data.toList HS.out.2.1
     rw [hN] at h1
     exact Nat.lt_of_lt_of_le h1 (Nat.pow_le_pow_right (n := 10) (by omega) (show c.data.toList.length ≤ 9 by have := HS.out.1; simpa using this))
    have HNN := Aside0.mk hN
    have hbY : Below W.heap.size W (W.iter c c.size) := below_alloc (Below.refl _ _) _
    have hown : (W.iter c c.size).ownsRow w.heap.size 22 1 v xs.length (xs.map fun d : Nat => Value.int .u32 (d : Int)) := HI.out.2.2.1.alloc _
    obtain ⟨Y, hY⟩ : ∃ Y, W.iter c c.size = Y := ⟨_, rfl⟩
    rw [hY] at hbY hown hnx
    rw [hY]
    have xB := boxed_below HI.out.2.1 hbY
    have cB := xB.cell
    have fB := xB.frozen
    have ltB := xB.lt
    have HY := Aside0.mk hbY
    have HOW := Aside0.mk hown
    have hxl := HI.out.2.2.2.2.2.2.2.1
    obtain ⟨i0, hi0, hz1, hz2, hz3⟩ := info_parts info_u32
    clear hY hN hbY hown xB
    gi_wp2_with (first | (gi_at_builtin; (refine wpListIn_append_own_at _ rfl _ _ 99 rfl w.heap.size 22 i0 (.int .u32 0) 1 4 Tryz.underlying99 hi0 hz1 hz2 hz3 rfl (by decide) _ _ _ rfl (HOW.out.alloc _) ⟨Y.heap.size, 0, none⟩ 1 1 [.int .u32 N] rfl rfl ?c1 ?c2 ?c3 ?c4 ?c5 ?c6; (case c1 => exact World.news_of_block (World.alloc_heap_new Y _)); (case c2 => simp [Value.oneCell']); (case c3 => simp only [maxLen]; omega); (case c4 => omega); (case c5 => have := HI.out.2.2.2.2.2.2.2.2.2.size; have := HY.out.size; simp; omega); intro v' w1 hown' hgrow hnil hat; obtain ⟨g', cap', rfl⟩ := ownsRow_succ hown'; obtain ⟨hv1, hv2, hr2, hk2, hb2⟩ := (boxed_below HI.out.2.1 HY.out).appended (by decide) HOW.out (Nat.le_trans HI.out.2.2.2.2.2.2.2.2.2.size HY.out.size) (by omega) hown' hgrow; have hc1 := hv1.cell; have hf1 := hv1.frozen)))
    have I1 := HI.out
    obtain ⟨r, a1, a2, a3, a4, a6, a7, a8, a9, bl⟩ := I1
    have hbl1 := bl.size
    have hyz := HY.out.size
    have hno1 := no 1 (by omega)
    have hnv : v.ownBlock ≠ some w.heap.size := not_own a2 r (by decide)
    have hfm : f ≤ m' := by omega
    refine ⟨(keepsFrom_below' HY.out).trans (hk2.from _), ⟨(HY.out.mono (by omega)).trans hb2, fun q hq hl => ?_⟩, ⟨?_, ⟨_, xs ++ [N], f, hv2, by rw [List.length_append, List.map_append]; exact hr2, ?_, ?_, by omega, ?_, ?_, ?_, ?_⟩, no, (bl.trans (HY.out.mono (by omega))).trans hb2⟩⟩
    ·refine (Below.heap_setCell _ _ _ _ (fun e => hno1 (by rw [show w.heap.size + 1 = q from e.symm]; exact hq))).trans ((hgrow.block q (by simp; omega) (fun e => a3 q e.symm hq)).trans ((Below.heap_alloc _ _ _ (by omega)).trans (HY.out.block q hl)))
    ·refine (Below.heap_setCell _ _ _ _ (by simp)).trans ((hgrow.block w.heap.size (by simp; omega) (fun e => hnv e.symm)).trans ((Below.heap_alloc _ _ _ (by omega)).trans ((HY.out.block w.heap.size (by omega)).trans r)))
    ·intro g hg hm
     rcases hat with hat | hat
     ·exact a3 g (hat ▸ hg) hm
     ·rw [hat] at hg
      cases hg
      have := (ho _ hm).2
      simp at this
      omega
    ·intro d hd
     rcases List.mem_append.1 hd with hd | hd
     ·exact a4 d hd
     ·rw [List.mem_singleton.1 hd]; exact hNb
    ·rw [← a6, pieces_pos hm0, hf]; simp
    ·intro h
     have := a7 hm0
     simp; omega
    ·have := a7 hm0
     simp; omega
    ·rw [HS.out.2.2.1, ← HNN.out] at *
     rcases Nat.eq_zero_or_pos f with h0 | h0
     ·rw [h0, List.take_zero] at a9 ⊢
      rw [show dv ([] : List UInt8) = 0 from rfl, Nat.mul_zero, Nat.add_zero]
      rw [List.nil_append] at a9
      exact parse_last a9
     ·exact parse_step a9 (by have := HS.out.2.2.2; rw [this, show m' - f = 9 by omega]; rfl)
 case done =>
  rintro D ys own W hD rfl hI hK
  obtain ⟨r, ⟨v, xs, m', a1, a2, a3, a4, a5, a6, a7, a8, a9⟩, no, bl⟩ := hI
  obtain rfl : m' = 0 := (pieces_inj (m := m') (n := 0) a6 (by rw [pieces_zero, List.append_nil])).symm
  have hval : val BB xs = dv b.data.toList := by
   rw [← a9, List.take_zero, show dv ([] : List UInt8) = 0 from rfl, Nat.mul_zero, Nat.add_zero]
  obtain ⟨A, cc, rfl, hcc, hl⟩ := lst_own a2 rfl
  have HL : Aside0 (Lst W W.heap.size A xs.length xs ∧ (∀ d ∈ xs, d < BB) ∧ val BB xs = dv b.data.toList) := ⟨hl, a4, hval⟩
  obtain ⟨rr, hrr⟩ : ∃ rr, (m && decide (dv b.data.toList ≠ 0)) = rr := ⟨_, rfl⟩
  have HRR := Aside0.mk hrr
  have HB := Aside0.mk bl
  have HO := Aside0.mk (out_block r)
  have HDK : Aside0 (W.heap[D]? = some (.deferred (some [])) ∧ w.heap.size + 3 ≤ D) := ⟨hK, by omega⟩
  have c5 := a1.cell
  have hxl : xs.length ≤ 100000 := by omega
  clear r a1 a2 a3 a4 a5 a6 a7 a9 no bl hl hval hrr hK I0 hcs
  go_wp2_with (first
   | (go_at_call 180; (with_reducible refine (strip_calls HL.out.1 HL.out.2.1 hcc hxl (Nat.le_refl _)).mono ?_); rintro e w1 ⟨k1, rfl, hm1, hb1⟩; rw [HL.out.2.2] at hm1; have HM1 := Aside0.mk (hm1.more hb1.size); have HB1 := Aside0.mk hb1; clear hm1 hb1)
   | (go_at_call 139; (with_reducible refine (signed_any HM1.out (Nat.le_refl _) HRR.out).mono ?_); rintro e w2 ⟨rfl, hm2, hb2⟩; have HM2 := Aside0.mk (hm2.more hb2.size); have HB2 := Aside0.mk (bJoin hb2 HB1.out); have HO2 := Aside0.mk (HO.out.keep HB2.out); obtain ⟨q1, q2, q3, q4⟩ := HO2.out))
  have hDw := (HB2.out.block D (Array.getElem?_eq_some_iff.1 HDK.out.1).1).trans HDK.out.1
  have hDX : ((w2.setCell ⟨w.heap.size, 0, none⟩ (.slice A k1 k1)).setCell ⟨w.heap.size, 1, none⟩ (.bool rr)).heap[D]? = some (.deferred (some [])) := ((KeepsOthers.setCell _ _ _).trans (KeepsOthers.setCell _ _ _)).same D _ hDw rfl
  have hD3 := HDK.out.2
  refine parse_end w _ D _ (.slice A k1 k1) (.bool rr) _ rfl (by omega) hDX ?_ ?_ ⟨A, k1, by rw [HRR.out], ?_, ?_⟩
  ·exact (World.cell?_setCell_other _ _ _ _ (by simp)).trans (World.cell?_setCell_same' _ _ _ (by rw [q1]; rfl))
  ·exact World.cell?_setCell_same' _ _ _ (by rw [World.cell?_setCell_other _ _ _ _ (by simp), q2]; rfl)
  ·exact Mag.more (Mag.putD (HO2.out.mag HM2.out _ _) hDX _) (by simp)
  ·exact (((HB.out.trans (HB2.out.mono (HB.out.size))).setCell (by simp) _).setCell (by simp) _).trans (belowK_b (w := w) (Nat.le_refl _) _ D _ _ (by omega) hDX rfl rfl)
end
section
open Go.Proofs.YtnjbinpbkjdjpaaGreatDoorW.PrintLast Go.Proofs.YtnjbinpbkjdjpaaGreatDoorW.PrintMore Go.Proofs.YtnjbinpbkjdjpaaGreatDoorW.PrintWords Go.RowKit
/-- The first of some errors. -/
def firstI : List Int → Int
 | [] => 0
 | e :: es => if e = 0 then firstI es else e
theorem firstI_skip : ∀ (es : List Int) (i : Nat), (∀ e ∈ es.take i, e = 0) → firstI es = firstI (es.drop i)
 | es, 0, _ => rfl
 | [], i + 1, _ => by simp
 | e :: es, i + 1, h => by
   have h0 : e = 0 := h e (by simp)
   rw [firstI, if_pos h0, List.drop_succ_cons]
   exact firstI_skip es i (fun d hd => h d (by simp [hd]))
theorem first_calls {w : World} {g n : Nat} (es : List Int) (hn : es.length = n) (hl : n ≤ 1000) (hc : ∀ j, j < n → w.cell? ⟨g, j, none⟩ = some (.int .i64 (es.getD j 0))) :
 Calls Tryz.prog 72 #[.slice (some ⟨g, 0, none⟩) n n] w fun e w' => e = .returned (.int .i64 (firstI es)) ∧ w' = w := by
 have HC := Aside0.mk hc
 clear hc
 go_enter Tryz.func72, Tryz.ntmps72
 go_wp2_with fail
 go_loopw [7] (fun v7 W => ∃ i : Nat, v7 = .int .i64 (i : Int) ∧ i ≤ n ∧ W = w ∧ Aside0 (∀ e ∈ es.take i, e = 0)) (fun v7 _ => n - (intOf v7).toNat)
 case atStart => exact ⟨0, rfl, Nat.zero_le _, rfl, ⟨by simp⟩⟩
 case round =>
  obtain ⟨i, rfl, hi, rfl, hz⟩ := hrel
  by_cases hlt : i < n
  ·have hci := HC.out i hlt
   have hli : i < es.length := by omega
   obtain ⟨d, hd⟩ : ∃ d, es.getD i 0 = d := ⟨_, rfl⟩
   rw [hd] at hci
   have hdi : es[i] = d := by rw [← hd]; simp [List.getD_eq_getElem?_getD, hli]
   have hlt' : (i : Int) < (n : Int) := by omega
   have e1 : IntKind.i64.wrap ((i : Int) + 1) = ((i + 1 : Nat) : Int) := by rw [IntWalk.i64_in _ (by omega)]; omega
   have HD := Aside0.mk hdi
   clear hd hdi
   by_cases h0 : d = 0
   ·subst h0
    go_wp2
    go_roundw
    case rel =>
     refine ⟨i + 1, by first | rfl | go_num, hlt, by first | rfl | trivial, ⟨fun e he => ?_⟩⟩
     rw [List.take_succ_eq_append_getElem hli] at he
     rcases List.mem_append.1 he with he | he
     ·exact hz.out e he
     ·rw [List.mem_singleton.1 he]; exact HD.out
    case measure => simp [intOf]; omega
   ·have hb : (d != 0) = true := by simp [h0]
    go_wp2
    go_ret
    refine ⟨?_, rfl⟩
    rw [firstI_skip es i hz.out, List.drop_eq_getElem_cons hli, firstI, HD.out, if_neg h0]
    rfl
  ·obtain rfl : i = n := by omega
   go_wp2
   go_ret
   refine ⟨?_, rfl⟩
   rw [firstI_skip es i hz.out, List.drop_of_length_le (by omega)]
   rfl
/-- The integer of a decimal string. -/
def intI (s : ByteArray) : Int := if minusB s = true then -(dv (bodyB s).data.toList : Int) else (dv (bodyB s).data.toList : Int)
theorem intI_abs (s : ByteArray) : (intI s).natAbs = dv (bodyB s).data.toList := by unfold intI; split <;> omega
theorem intI_neg (s : ByteArray) : (minusB s && decide (dv (bodyB s).data.toList ≠ 0)) = decide (intI s < 0) := by
 unfold intI
 cases minusB s
 ·simp
 ·rw [Bool.eq_iff_iff]; simp; omega
theorem check_ok {s : ByteArray} (h : checkI s = 0) : digitsB (bodyB s) = true ∧ (bodyB s).size ≤ 120 := by
 unfold checkI at h
 by_cases h1 : digitsB (bodyB s) = false
 ·rw [if_pos h1] at h; omega
 ·rw [if_neg h1] at h
  split at h
  ·omega
  ·split at h
   ·omega
   ·exact ⟨by simpa using h1, by omega⟩
theorem parseI_calls (s : ByteArray) (hs : s.size ≤ 90000) (hc : checkI s = 0) (w : World) :
 Calls Tryz.prog 124 #[.string s] w fun e w' => ∃ A k, e = .returned (.agg #[.slice A k k, .bool (decide (intI s < 0))]) ∧ Mag w' w'.heap.size A k (intI s).natAbs ∧ Below w.heap.size w w' := by
 rw [intI_abs, ← intI_neg]
 exact parse_calls s hs (check_ok hc).1 w
theorem first2_calls (x y : Int) (w : World) (b : Nat) (hb : b = w.heap.size) (t : TypeId) : Calls Tryz.prog 72 #[.slice (some ⟨b, 0, none⟩) 2 2] (w.alloc (.cells #[.int .i64 x, .int .i64 y] t)) fun e w' => e = .returned (.int .i64 (firstI [x, y])) ∧ w' = w.alloc (.cells #[.int .i64 x, .int .i64 y] t) := by
 subst hb
 refine first_calls [x, y] rfl (by omega) (fun j hj => ?_)
 match j, hj with
 | 0, _ => simp
 | 1, _ => simp
end
section
open Go.Lib Go.Proofs.YtnjbinpbkjdjpaaGreatDoorW.PrintLast Go.Proofs.YtnjbinpbkjdjpaaGreatDoorW.PrintMore Go.Proofs.YtnjbinpbkjdjpaaGreatDoorW.PrintWords Go.RowKit Go.Shelf
/-- How many digits an integer has. -/
def lenI (x : Int) : Nat := (Lib.decDigits x.natAbs).length
/-- What written says. -/
def wrS (x : Int) : ByteArray := if 120 < lenI x then ⟨#[]⟩ else strI x
def wrE (x : Int) : Int := if 120 < lenI x then 4 else 0
theorem itoa_abs (x : Int) : Lib.itoa x = (if x < 0 then [45] else []) ++ Lib.decDigits x.natAbs := by
 unfold Lib.itoa
 by_cases h : x < 0
 ·rw [if_pos h, if_pos h]; rfl
 ·rw [if_neg h, if_neg h, show x.toNat = x.natAbs by omega]; rfl
theorem trim_itoa (x : Int) : Lib.trimPrefix (Lib.itoa x) [45] = Lib.decDigits x.natAbs := by
 rw [itoa_abs]
 by_cases h : x < 0
 ·rw [if_pos h]
  unfold Lib.trimPrefix
  rw [if_pos (by simp [Lib.hasPrefix])]; simp
 ·rw [if_neg h, List.nil_append]
  unfold Lib.trimPrefix
  rw [if_neg]
  have hd := dec_digits x.natAbs
  cases hl : Lib.decDigits x.natAbs with
  | nil => simp [Lib.hasPrefix]
  | cons c cs =>
    have h1 := hd c (by rw [hl]; simp)
    simp [Lib.hasPrefix]
    intro e
    subst e
    revert h1
    decide
theorem trim_str (x : Int) (w : World) : Calls Tryz.prog 147 #[.string (strI x), .string ⟨#[45]⟩] w fun e w' => e = .returned (.string ⟨(Lib.decDigits x.natAbs).toArray⟩) ∧ w' = w := by
 have h := Tryz.strings_TrimPrefix (strI x) ⟨#[45]⟩ w
 have e : (strI x).data.toList = Lib.itoa x := rfl
 rw [e, show (⟨#[45]⟩ : ByteArray).data.toList = [45] from rfl, trim_itoa] at h
 exact h
theorem written_calls {w : World} {B : Nat} {A : Option Addr} {L : Nat} {x : Int} (h1 : Mag w B A L x.natAbs) (hB : B ≤ w.heap.size) (htab : Tens w) :
 Calls Tryz.prog 190 #[iV A L x] w fun e w' => e = .returned (.tuple #[.string (wrS x), .int .i64 (wrE x)]) ∧ Below w.heap.size w w' := by
 have HT : ∀ W, Below w.heap.size w W → Calls Tryz.prog 219 #[iV A L x] W fun e w' => e = .returned (.string (strI x)) ∧ Below W.heap.size W w' := fun W hb => text_calls (h1.keep hB hb) (Nat.le_trans hB hb.size) (htab.below hb)
 have HP := Aside0.mk (trim_str x)
 have hl : (⟨(Lib.decDigits x.natAbs).toArray⟩ : ByteArray).size = lenI x := rfl
 generalize (⟨(Lib.decDigits x.natAbs).toArray⟩ : ByteArray) = D at *
 have HB := Aside0.mk (Below.refl w.heap.size w)
 unfold wrS wrE
 have hlx : lenI x ≤ 2000000 := by
  have h2 := dg_lt_pow BB1 x.natAbs
  rw [h1.1] at h2
  have h3 : (Lib.decDigits x.natAbs).length ≤ 9 * L + 1 := dec_len (9 * L + 1) _ (by omega) (Nat.lt_of_lt_of_le h2 (by show (10 ^ 9) ^ L ≤ _; rw [← Nat.pow_mul]; exact Nat.pow_le_pow_right (by decide) (by omega)))
  have := h1.2.1
  show (Lib.decDigits x.natAbs).length ≤ _
  omega
 generalize lenI x = n at *
 generalize strI x = S at *
 unfold iV at *
 generalize decide (x < 0) = f at *
 have HT := Aside0.mk HT
 clear h1 htab
 by_cases hn : 120 < n
 ·rw [if_pos hn, if_pos hn]
  have hd : decide ((120 : Int) < (D.size : Int)) = true := decide_eq_true (by omega)
  clear hl
  go_enter Tryz.func190, Tryz.ntmps190
  go_wp2_with (first | (go_at_call 219; ((with_reducible refine (HT.out _ bl).mono ?_); rintro e w1 ⟨rfl, hb1⟩; obtain ⟨hc1, hf1⟩ := bcell hb1; have z1_0 : (w.heap.size) < w1.heap.size := zb hb1; have nB1 : Aside0 (Below w.heap.size w w1) := sb hb1; clear HB; have HB := nB1; clear nB1)) | (go_at_call 147; (with_reducible refine (HP.out _).mono ?_); rintro e w' ⟨rfl, rfl⟩))
  go_ret2
  exact ⟨rfl, bl⟩
 ·rw [if_neg hn, if_neg hn]
  have hd : decide ((120 : Int) < (D.size : Int)) = false := decide_eq_false (by omega)
  clear hl
  go_enter Tryz.func190, Tryz.ntmps190
  go_wp2_with (first | (go_at_call 219; ((with_reducible refine (HT.out _ bl).mono ?_); rintro e w1 ⟨rfl, hb1⟩; obtain ⟨hc1, hf1⟩ := bcell hb1; have z1_0 : (w.heap.size) < w1.heap.size := zb hb1; have nB1 : Aside0 (Below w.heap.size w w1) := sb hb1; clear HB; have HB := nB1; clear nB1)) | (go_at_call 147; (with_reducible refine (HP.out _).mono ?_); rintro e w' ⟨rfl, rfl⟩))
  go_ret2
  exact ⟨rfl, bl⟩
/-- What a function of two integers does. -/
def Op2 (F : FuncId) (x y z : Int) : Prop :=
 ∀ (W : World) (A1 A2 : Option Addr) (L1 L2 : Nat), Mag W W.heap.size A1 L1 x.natAbs → Mag W W.heap.size A2 L2 y.natAbs →
  Calls Tryz.prog F #[iV A1 L1 x, iV A2 L2 y] W fun e w' => ∃ A k, e = .returned (iV A k z) ∧ Mag w' w'.heap.size A k z.natAbs ∧ Below W.heap.size W w'
end
section
open Go.Proofs.YtnjbinpbkjdjpaaGreatDoor.Rf Go.Proofs.YtnjbinpbkjdjpaaGreatDoorW.PrintLast Go.Proofs.YtnjbinpbkjdjpaaGreatDoorW.PrintMore Go.Proofs.YtnjbinpbkjdjpaaGreatDoorW.PrintWords Go.RowKit Go.Shelf
attribute [local go_sem] Oper.semAt_some
/-- The literal []uint32{d}, as a row of one's own. -/
theorem own_lit (W : World) (d : Nat) : (W.alloc (.cells #[.int .u32 d] 22)).ownsRow W.heap.size 22 1 (.slice (some ⟨W.heap.size, 0, none⟩) 1 1) 1 [.int .u32 (d : Int)] :=
 ⟨rfl, .inr ⟨W.heap.size, 1, _, rfl, Nat.le_refl _, heap_alloc_new W _, Nat.le_refl _, by unfold maxLen; omega, by simp, by simp⟩⟩
/-- append([]uint32{d}, rest...): the limb d below the limbs of R. -/
theorem append_rest {W : World} {B k R : Nat} {A : Option Addr} (d : Nat) (hm : Mag W B A k R) (hB : B ≤ W.heap.size) :
 ∃ g c W', (Builtin.append_ #[99, 99] 99 #[.slice (some ⟨W.heap.size, 0, none⟩) 1 1, .slice A k k]).run Tryz.prog (W.alloc (.cells #[.int .u32 (d : Int)] 22)) = .ok (.slice (some ⟨g, 0, none⟩) (k + 1) c) W' ∧
  k + 1 ≤ c ∧ W.heap.size ≤ g ∧ Lst W' W'.heap.size (some ⟨g, 0, none⟩) (k + 1) (d :: dg BB R) ∧ Below W.heap.size W W' := by
 obtain ⟨i0, hi0, hz0, hz1, hz2⟩ := info_parts info_u32
 have hown := own_lit W d
 have hb1 : Below W.heap.size W (W.alloc (.cells #[.int .u32 (d : Int)] 22)) := below_alloc (Below.refl _ _) _
 have hm1 := hm.keep hB hb1
 obtain ⟨m1, m2, m3⟩ := hm1
 rcases Nat.eq_zero_or_pos k with h0 | h0
 ·subst h0
  have e0 : dg BB R = [] := List.eq_nil_of_length_eq_zero m1
  refine ⟨W.heap.size, 1, _, run_append_nothing (P := Tryz.prog) _ 99 99 99 22 i0 Tryz.underlying99 hi0 _ 1 1 (Nat.le_refl _) _ ?_, Nat.le_refl _, Nat.le_refl _, ?_, hb1⟩
  ·cases A with
   | none => exact Src.ofNil _ Tryz.underlying99 0
   | some a => exact Src.ofSlice _ Tryz.underlying99 a 0 0 [] (by simp) (fun j u h => by simp at h) (by simp)
  ·rw [e0]
   have := lst_one W d 22
   simpa using this
 ·obtain ⟨b, rfl, hb, hc⟩ := m3 h0
  obtain ⟨v', W', hr, hown', hg, _, hat⟩ := run_append_own_at (P := Tryz.prog) _ W.heap.size 99 99 22 i0 _ 1 4 Tryz.underlying99 hi0 hz0 hz1 hz2 rfl (by omega) _ 1 _ hown ⟨b, 0, none⟩ k k ((dg BB R).map fun d : Nat => Value.int .u32 (d : Int)) (by rw [List.length_map, m1, Nat.mul_one])
   (fun j u hj => by
     have hjl : j < k := by
      have := (List.getElem?_eq_some_iff.1 hj).1
      rw [List.length_map, m1] at this; exact this
     have hadd : (⟨b, 0, none⟩ : Addr).add j = ⟨b, j, none⟩ := by unfold Addr.add; split <;> simp_all
     rw [hadd, hc j hjl, ← hj, List.getElem?_map, List.getElem?_eq_getElem (by omega), getD_lt (by omega)]; rfl)
   (by simp [Value.oneCell']) (by unfold maxLen; omega) (by omega) (by simp)
  obtain ⟨A', c, rfl⟩ := own_slice hown'
  obtain ⟨g, cap, hv, h1, h2⟩ := hown'.form (by omega)
  injection hv with hA
  subst hA
  have hc1 : 1 + k ≤ c := by
   rcases hown'.2 with ⟨_, h0⟩ | ⟨g, cap, cur, hv, _, _, hnc, _⟩
   ·omega
   ·injection hv with _ _ hcc
    omega
  refine ⟨g, c, W', by rw [Nat.add_comm k 1]; exact hr, by omega, own_base hown' rfl, ⟨by simp [m1], fun _ => ⟨g, rfl, h2, fun j hj => ?_⟩⟩, ?_⟩
  ·have := hown'.cells (g := g) rfl j (.int .u32 ((d :: dg BB R).getD j 0 : Nat)) (by
    rw [show [Value.int .u32 (d : Int)] ++ (dg BB R).map (fun d : Nat => Value.int .u32 (d : Int)) = (d :: dg BB R).map (fun d : Nat => Value.int .u32 (d : Int)) from rfl, List.getElem?_map, List.getElem?_eq_getElem (by simp [m1]; omega), getD_lt (by simp [m1]; omega)]; rfl)
   have hadd : (⟨g, 0, none⟩ : Addr).add j = ⟨g, j, none⟩ := by unfold Addr.add; split <;> simp_all
   rwa [hadd] at this
  ·exact hb1.grown hg (by simp) (fun k hk => by have := own_base hown hk; omega)
/-- A region's end as a word about its values and its world. -/
theorem wp_mid {P : Program} {id : Nat} {ops : Array Oper} {b : Bool} {Q : Exit → Act → World → Prop} {a : Act} {w : World} (M : Array Value → Array Value → World → Prop)
 (h : (Code.region id ops b).wp P (fun e a' w' => match e with | .normal => a'.defers = a.defers ∧ M a.tmps a'.tmps w' | _ => False) a w) (hk : ∀ T w', M a.tmps T w' → Q .normal { tmps := T, defers := a.defers } w') : (Code.region id ops b).wp P Q a w :=
 Code.wp_mono (fun e a' w' h => by
  cases e <;> first | exact h.elim | skip
  obtain ⟨h1, h2⟩ := h
  have := hk _ _ h2
  rw [← h1] at this
  exact this) h
theorem wpIn_mid {P : Program} {F : Fence} {n id : Nat} {ops : Array Oper} {b : Bool} {Q : Exit → Act → World → Prop} {a : Act} {w : World} (M : Array Value → Array Value → World → Prop)
 (h : (Code.region id ops b).wpIn F n P (fun e a' w' => match e with | .normal => a'.defers = a.defers ∧ M a.tmps a'.tmps w' | _ => False) a w) (hk : ∀ T w', M a.tmps T w' → Q .normal { tmps := T, defers := a.defers } w') : (Code.region id ops b).wpIn F n P Q a w :=
 wpIn_mono h (fun e a' w' h => by
  cases e <;> first | exact h.elim | skip
  obtain ⟨h1, h2⟩ := h
  have := hk _ _ h2
  rw [← h1] at this
  exact this)
theorem Mag.up {W W2 : World} {A : Option Addr} {L n : Nat} (h : Mag W W.heap.size A L n) (hb : Below W.heap.size W W2) : Mag W2 W2.heap.size A L n := (h.keep (Nat.le_refl _) hb).more hb.size
theorem Mag.upA {W : World} {A : Option Addr} {L n : Nat} (h : Mag W W.heap.size A L n) (o : Obj) : Mag (W.alloc o) (W.alloc o).heap.size A L n := h.up (below_alloc (Below.refl _ _) o)
theorem box_new {b : Nat} {W cur : World} (h : Below b W cur) (t : TypeId) (v : Value) : Boxed (cur.alloc (.cells #[v] t)) cur.heap.size t v := Boxed.new cur t v
theorem Mag.upS {W : World} {A : Option Addr} {L n : Nat} (h : Mag W W.heap.size A L n) {b : Nat} {t : TypeId} {v : Value} (hb : Boxed W b t v) (hv : ∀ d : Int, v ≠ .int .u32 d) (o : Nat) (u : Value) : Mag (W.setCell ⟨b, o, none⟩ u) (W.setCell ⟨b, o, none⟩ u).heap.size A L n := by
 have := h.setA (h.apart hb.cell hv) o u
 simpa using this
theorem mag_one {W : World} {b s : Nat} (hc : W.cell? ⟨b, 0, none⟩ = some (.int .u32 (s : Int))) (h0 : 0 < s) (h1 : s < BB) : Mag W W.heap.size (some ⟨b, 0, none⟩) 1 s := by
 refine ⟨by rw [dg_one BB1 h0 h1]; rfl, by omega, fun _ => ⟨b, rfl, World.block_lt_of_cell? W ⟨b, 0, none⟩ hc, fun j hj => ?_⟩⟩
 obtain rfl : j = 0 := by omega
 rw [dg_one BB1 h0 h1, hc]; rfl
theorem turn_mono {n₀ n₁ : Nat} {own : List Nat} {A B : World} (h : Turn n₀ own A B) (hle : n₁ ≤ n₀) : Turn n₁ own A B := ⟨h.os, h.tape, h.output, h.size, fun k hk => h.low k (by omega), h.cells⟩
theorem mag_turn {n₀ : Nat} {own : List Nat} {A B : World} {b L n : Nat} {Ar : Option Addr} (h : Mag A b Ar L n) (ht : Turn n₀ own A B) (hno : ∀ c, 0 < L → Ar = some ⟨c, 0, none⟩ → c ∉ own) : Mag B b Ar L n := by
 obtain ⟨h1, h2, h3⟩ := h
 refine ⟨h1, h2, fun hL => ?_⟩
 obtain ⟨c, rfl, hlt, hc⟩ := h3 hL
 have hb : B.heap[c]? = A.heap[c]? := by
  have h0 := hc 0 hL
  unfold World.cell? at h0
  rcases hx : A.heap[c]? with _ | o
  ·rw [hx] at h0; simp at h0
  ·cases o <;> first | exact ht.cells c _ hx rfl (hno c hL rfl) | (rw [hx] at h0; simp at h0)
 exact ⟨c, rfl, hlt, fun j hj => (World.cell?_of_block hb).trans (hc j hj)⟩
theorem tops_beyond {b n l i : Nat} (h : n < b ^ i) (hb : 1 < b) : tops b n l i = List.replicate l 0 := by
 apply List.ext_getElem
 ·simp [tops]
 ·intro j h1 h2
  simp only [tops, List.getElem_map, List.getElem_range, List.getElem_replicate]
  split
  ·rfl
  ·rw [Nat.div_eq_of_lt (Nat.lt_of_lt_of_le h (Nat.pow_le_pow_right (by omega) (by omega))), Nat.zero_mod]
/-- What lies in memory between two rounds of div. -/
structure DI (w : World) (zz Bb c9 C10 C11 cq pb kb N M top next s LQ ka : Nat) (pre : List (Nat × Nat)) (own : List Nat) (W : World) : Prop where
 r2 : Boxed W (w.heap.size + 1 + 1) 109 (.slice none 0 0)
 r3 : Boxed W (w.heap.size + 1 + 1 + 1) 109 (.slice none 0 0)
 sc : Boxed W (zz + 1) 109 (.slice (some ⟨zz, 0, none⟩) 1 1)
 sl : Boxed W zz 22 (.int .u32 (s : Int))
 b8 : Boxed W Bb 109 (.slice (some ⟨pb, 0, none⟩) kb kb)
 b9 : Boxed W c9 3 (.int .i64 (kb : Int))
 b10 : Boxed W C10 53 (.int .u64 (top : Int))
 b11 : Boxed W C11 53 (.int .u64 (next : Int))
 b12 : Boxed W (cq + 1) 99 (.slice (some ⟨cq, 0, none⟩) LQ LQ)
 mb : Mag W cq (some ⟨pb, 0, none⟩) kb N
 st : ∃ k Ar kr, k ≤ ka ∧ pre = backs (dg BB M) k ∧ Boxed W (cq + 1 + 1) 109 (.slice Ar kr kr) ∧ Mag W W.heap.size Ar kr (M / BB ^ (ka - k) % N) ∧ (∀ c, 0 < kr → Ar = some ⟨c, 0, none⟩ → cq + 3 ≤ c ∧ c ∉ own) ∧ Row W cq (tops BB (M / N) LQ (ka - k))
 lo : ∀ r, r ∈ own → cq + 3 ≤ r
 hc : w.heap.size + 3 < cq ∧ zz + 1 < cq ∧ Bb < cq ∧ c9 < cq ∧ C10 < cq ∧ C11 < cq
 bl : Below w.heap.size w W
theorem DI.turn {w : World} {zz Bb c9 C10 C11 cq pb kb N M top next s LQ ka : Nat} {pre : List (Nat × Nat)} {own : List Nat} {A B : World} (h : DI w zz Bb c9 C10 C11 cq pb kb N M top next s LQ ka pre own A) (ht : Turn w.heap.size own A B) : DI w zz Bb c9 C10 C11 cq pb kb N M top next s LQ ka pre own B := by
 obtain ⟨r2, r3, sc, sl, b8, b9, b10, b11, b12, mb, ⟨k, Ar, kr, k1, k2, k3, k4, k5, k6⟩, lo, hc, bl⟩ := h
 have no : ∀ x, x < cq + 3 → x ∉ own := fun x hx hm => by have := lo x hm; omega
 refine ⟨boxed_turn r2 ht (no _ (by omega)), boxed_turn r3 ht (no _ (by omega)), boxed_turn sc ht (no _ (by omega)), boxed_turn sl ht (no _ (by omega)), boxed_turn b8 ht (no _ (by omega)), boxed_turn b9 ht (no _ (by omega)), boxed_turn b10 ht (no _ (by omega)), boxed_turn b11 ht (no _ (by omega)), boxed_turn b12 ht (no _ (by omega)), mag_turn mb ht (fun c hL e => ?_), ⟨k, Ar, kr, k1, k2, boxed_turn k3 ht (no _ (by omega)), (mag_turn k4 ht (fun c hL e => (k5 c hL e).2)).more ht.size, k5, row_turn k6 ht (no _ (by omega))⟩, lo, hc, below_turn bl ht⟩
 obtain ⟨d, he, hd, _⟩ := mb.2.2 hL
 rw [he] at e
 injection e with e
 injection e with e
 subst e
 exact no _ (by omega)
theorem DI.adopt {w : World} {zz Bb c9 C10 C11 cq pb kb N M top next s LQ ka : Nat} {pre : List (Nat × Nat)} {own : List Nat} {A : World} {r : Nat} (h : DI w zz Bb c9 C10 C11 cq pb kb N M top next s LQ ka pre own A) (hr : A.heap.size ≤ r) : DI w zz Bb c9 C10 C11 cq pb kb N M top next s LQ ka pre (r :: own) A := by
 obtain ⟨r2, r3, sc, sl, b8, b9, b10, b11, b12, mb, ⟨k, Ar, kr, k1, k2, k3, k4, k5, k6⟩, lo, hc, bl⟩ := h
 refine ⟨r2, r3, sc, sl, b8, b9, b10, b11, b12, mb, ⟨k, Ar, kr, k1, k2, k3, k4, fun c hL e => ⟨(k5 c hL e).1, ?_⟩, k6⟩, fun x hx => ?_, hc, bl⟩
 ·simp only [List.mem_cons, not_or]
  refine ⟨fun e' => ?_, (k5 c hL e).2⟩
  obtain ⟨d, he, hd, _⟩ := k4.2.2 hL
  rw [he] at e
  injection e with e
  injection e with e
  omega
 ·have := k3.lt
  rcases List.mem_cons.1 hx with rfl | hx
  ·omega
  ·exact lo x hx
/-- What lies in memory within a round of div. -/
structure DJ (w : World) (zz Bb c9 C10 C11 cq pb kb N top next s LQ R : Nat) (Ar : Option Addr) (kr : Nat) (qs : List Nat) (X : World) : Prop where
 r2 : Boxed X (w.heap.size + 1 + 1) 109 (.slice none 0 0)
 r3 : Boxed X (w.heap.size + 1 + 1 + 1) 109 (.slice none 0 0)
 sc : Boxed X (zz + 1) 109 (.slice (some ⟨zz, 0, none⟩) 1 1)
 sl : Boxed X zz 22 (.int .u32 (s : Int))
 b8 : Boxed X Bb 109 (.slice (some ⟨pb, 0, none⟩) kb kb)
 b9 : Boxed X c9 3 (.int .i64 (kb : Int))
 b10 : Boxed X C10 53 (.int .u64 (top : Int))
 b11 : Boxed X C11 53 (.int .u64 (next : Int))
 b12 : Boxed X (cq + 1) 99 (.slice (some ⟨cq, 0, none⟩) LQ LQ)
 mb : Mag X cq (some ⟨pb, 0, none⟩) kb N
 b13 : Boxed X (cq + 1 + 1) 109 (.slice Ar kr kr)
 mr : Mag X X.heap.size Ar kr R
 row : Row X cq qs
 hc : w.heap.size + 3 < cq ∧ zz + 1 < cq ∧ Bb < cq ∧ c9 < cq ∧ C10 < cq ∧ C11 < cq
 bl : Below w.heap.size w X
theorem DJ.below {w : World} {zz Bb c9 C10 C11 cq pb kb N top next s LQ R : Nat} {Ar : Option Addr} {kr : Nat} {qs : List Nat} {X Y : World} (h : DJ w zz Bb c9 C10 C11 cq pb kb N top next s LQ R Ar kr qs X) (hb : Below X.heap.size X Y) : DJ w zz Bb c9 C10 C11 cq pb kb N top next s LQ R Ar kr qs Y :=
 ⟨boxed_below h.r2 hb, boxed_below h.r3 hb, boxed_below h.sc hb, boxed_below h.sl hb, boxed_below h.b8 hb, boxed_below h.b9 hb, boxed_below h.b10 hb, boxed_below h.b11 hb, boxed_below h.b12 hb, h.mb.keep (by have := h.row.lt; omega) hb, boxed_below h.b13 hb, h.mr.up hb, h.row.keep hb, h.hc, h.bl.trans (hb.mono h.bl.size)⟩
/-- The rest is another one. -/
theorem DJ.rest {w : World} {zz Bb c9 C10 C11 cq pb kb N top next s LQ R : Nat} {Ar : Option Addr} {kr : Nat} {qs : List Nat} {X : World} (h : DJ w zz Bb c9 C10 C11 cq pb kb N top next s LQ R Ar kr qs X) {Ar' : Option Addr} {kr' R' : Nat} (hm : Mag X X.heap.size Ar' kr' R') :
 DJ w zz Bb c9 C10 C11 cq pb kb N top next s LQ R' Ar' kr' qs (X.setCell ⟨cq + 1 + 1, 0, none⟩ (.slice Ar' kr' kr')) := by
 have hc := h.hc
 refine ⟨h.r2.other (by omega) _, h.r3.other (by omega) _, h.sc.other (by omega) _, h.sl.other (by omega) _, h.b8.other (by omega) _, h.b9.other (by omega) _, h.b10.other (by omega) _, h.b11.other (by omega) _, h.b12.other (by omega) _, h.mb.setA (h.mb.apart h.b13.cell (fun d => by simp)) _ _, h.b13.set _, hm.upS h.b13 (fun d => by simp) _ _, h.row.other (by omega) _ _, h.hc, h.bl.setCell (by simp; omega) _⟩
/-- A digit of the quotient more. -/
theorem DJ.digit {w : World} {zz Bb c9 C10 C11 cq pb kb N top next s LQ R : Nat} {Ar : Option Addr} {kr : Nat} {qs : List Nat} {X : World} (h : DJ w zz Bb c9 C10 C11 cq pb kb N top next s LQ R Ar kr qs X) (hAr : ∀ c, 0 < kr → Ar = some ⟨c, 0, none⟩ → c ≠ cq) (i d : Nat) :
 DJ w zz Bb c9 C10 C11 cq pb kb N top next s LQ R Ar kr (qs.set i d) (X.setCell ⟨cq, i, none⟩ (.int .u32 (d : Int))) := by
 have hc := h.hc
 refine ⟨Boxed.otherO h.r2 (by omega) _ _, Boxed.otherO h.r3 (by omega) _ _, Boxed.otherO h.sc (by omega) _ _, Boxed.otherO h.sl (by omega) _ _, Boxed.otherO h.b8 (by omega) _ _, Boxed.otherO h.b9 (by omega) _ _, Boxed.otherO h.b10 (by omega) _ _, Boxed.otherO h.b11 (by omega) _ _, Boxed.otherO h.b12 (by omega) _ _, h.mb.setA (fun c hL e => ?_) _ _, Boxed.otherO h.b13 (by omega) _ _, ?_, h.row.set _ _, h.hc, h.bl.setCell (by simp; omega) _⟩
 ·obtain ⟨x, he, hx, _⟩ := h.mb.2.2 hL
  rw [he] at e
  injection e with e
  injection e with e
  omega
 ·have := h.mr.setA hAr i (.int .u32 (d : Int))
  simpa using this
theorem keepsFrom_below {B : Nat} {W X : World} (h : Below W.heap.size W X) : KeepsFrom B W X :=
 ⟨h.size, fun i o _ hi _ => (h.block i (Array.getElem?_eq_some_iff.1 hi).1).trans hi⟩
theorem kept_below {n : Nat} {own : List Nat} {W X : World} (h : Below W.heap.size W X) (hn : n ≤ W.heap.size) : Rf.Kept n own W X := ⟨h.mono hn, fun r _ hl => h.block r hl⟩
theorem kept_set {n b o : Nat} {own : List Nat} {W : World} (v : Value) (hn : n ≤ b) (hno : b ∉ own) : Rf.Kept n own W (W.setCell ⟨b, o, none⟩ v) :=
 ⟨(Below.refl _ _).setCell (p := ⟨b, o, none⟩) hn v, fun r hr hl => Below.heap_setCell _ _ _ _ (fun e => hno (by rw [show b = r from e.symm]; exact hr))⟩
/-- What a round keeps of the world it began in. -/
structure DK (B n : Nat) (own : List Nat) (W X : World) : Prop where
 kf : KeepsFrom B W X
 kp : Rf.Kept n own W X
theorem DK.below {B n : Nat} {own : List Nat} {W X Y : World} (h : DK B n own W X) (hb : Below X.heap.size X Y) (hn : n ≤ X.heap.size) : DK B n own W Y := ⟨h.kf.trans (keepsFrom_below hb), h.kp.trans (kept_below hb hn)⟩
theorem DK.set {B n b o : Nat} {own : List Nat} {W X : World} (h : DK B n own W X) (v : Value) (hn : n ≤ b) (hno : b ∉ own) : DK B n own W (X.setCell ⟨b, o, none⟩ v) := ⟨h.kf.trans ((KeepsOthers.setCell _ _ _).from _), h.kp.trans (kept_set v hn hno)⟩
theorem DK.refl (B n : Nat) (own : List Nat) (W : World) : DK B n own W W := ⟨KeepsFrom.refl _ _, Rf.Kept.refl _ _ _⟩
end
section
open Go.Proofs.YtnjbinpbkjdjpaaGreatDoor.Rf Go.Proofs.YtnjbinpbkjdjpaaGreatDoorW.PrintLast Go.Proofs.YtnjbinpbkjdjpaaGreatDoorW.PrintMore Go.Proofs.YtnjbinpbkjdjpaaGreatDoorW.PrintWords Go.RowKit Go.Shelf
theorem short_any {w W : World} {B : Nat} {A : Option Addr} {L m d : Nat} (h1 : Mag w B A L m) (hB : B ≤ w.heap.size) (hd0 : 0 < d) (hd1 : d < BB) (hb : Below w.heap.size w W) :
 Calls Tryz.prog 215 #[.agg #[.slice A L L], .int .u32 (d : Int)] W fun e w' => ∃ A1 k1 A2 k2, e = .returned (.tuple #[.agg #[.slice A1 k1 k1], .agg #[.slice A2 k2 k2]]) ∧ Mag w' w'.heap.size A1 k1 (m / d) ∧ Mag w' w'.heap.size A2 k2 (m % d) ∧ Below W.heap.size W w' :=
 short_calls (h1.keep hB hb) (Nat.le_trans hB hb.size) hd0 hd1
/-- What div says. -/
def DivPost (w : World) (m n : Nat) (e : Ending) (w' : World) : Prop := ∃ A1 k1 A2 k2, e = .returned (.tuple #[.agg #[.slice A1 k1 k1], .agg #[.slice A2 k2 k2]]) ∧ Mag w' w'.heap.size A1 k1 (m / n) ∧ Mag w' w'.heap.size A2 k2 (m % n) ∧ Below w.heap.size w w'
theorem divPost_of {w : World} {m n q r : Nat} {e : Ending} {w' : World} (hq : q = m / n) (hr : r = m % n) {A1 A2 : Option Addr} {k1 k2 : Nat} (he : e = .returned (.tuple #[.agg #[.slice A1 k1 k1], .agg #[.slice A2 k2 k2]])) (h1 : Mag w' w'.heap.size A1 k1 q) (h2 : Mag w' w'.heap.size A2 k2 r) (hb : Below w.heap.size w w') : DivPost w m n e w' := by
 subst hq hr
 exact ⟨A1, k1, A2, k2, he, h1, h2, hb⟩
theorem div_small {w : World} {B : Nat} {A1 A2 : Option Addr} {L1 L2 m n : Nat} (h1 : Mag w B A1 L1 m) (h2 : Mag w B A2 L2 n) (hB : B ≤ w.heap.size) (hlt : m < n) :
 Calls Tryz.prog 181 #[.agg #[.slice A1 L1 L1], .agg #[.slice A2 L2 L2]] w (DivPost w m n) := by
 have H1 : Aside0 (Mag w B A1 L1 m) := ⟨h1⟩
 have H2 : Aside0 (Mag w B A2 L2 n) := ⟨h2⟩
 have HV : Aside0 (cmpI (m : Int) n = -1 ∧ 0 = m / n ∧ m = m % n) := ⟨by unfold cmpI; rw [if_pos (by omega)], (Nat.div_eq_of_lt hlt).symm, (Nat.mod_eq_of_lt hlt).symm⟩
 clear h1 h2 hlt
 go_enter Tryz.func181, Tryz.ntmps181
 go_wp2_with (go_at_call 182; (with_reducible refine (order_any H1.out H2.out hB (by repeat (first | exact Below.refl _ _ | apply below_alloc)) HV.out.1).mono ?_); rintro e wr ⟨rfl, hbr⟩)
 obtain ⟨f0, f1⟩ := bcell hbr
 have HX : Aside0 (wr.cell? ⟨w.heap.size, 0, none⟩ = some (.slice A1 L1 L1) ∧ wr.cell? ⟨w.heap.size + 1, 0, none⟩ = some (.slice A2 L2 L2)) := ⟨(f0 _ _ (by first | (simp; done) | (simp; omega))).trans (by simp [go_sem]), (f0 _ _ (by first | (simp; done) | (simp; omega))).trans (by simp [go_sem])⟩
 have g2 : wr.cell? ⟨w.heap.size + 1 + 1, 0, none⟩ = some (.slice none 0 0) := (f0 _ _ (by first | (simp; done) | (simp; omega))).trans (by simp [go_sem])
 have gf2 : wr.frozen? ⟨w.heap.size + 1 + 1, 0, none⟩ = false := (f1 _ _ (by first | (simp; done) | (simp; omega))).trans (by simp [go_sem])
 have g3 : wr.cell? ⟨w.heap.size + 1 + 1 + 1, 0, none⟩ = some (.slice none 0 0) := (f0 _ _ (by first | (simp; done) | (simp; omega))).trans (by simp [go_sem])
 have gf3 : wr.frozen? ⟨w.heap.size + 1 + 1 + 1, 0, none⟩ = false := (f1 _ _ (by first | (simp; done) | (simp; omega))).trans (by simp [go_sem])
 have HA : Aside0 (Below w.heap.size w wr ∧ w.heap.size + 4 ≤ wr.heap.size) := ⟨below_step (by repeat (first | exact Below.refl _ _ | apply below_alloc)) hbr, by have := hbr.size; simp at this; omega⟩
 clear f0 f1 hbr
 rename_i K1 hK1 K hK
 have c0 := HX.out.1
 refine wp_region_held_drew (S := (fun V => V.cell? ⟨w.heap.size, 0, none⟩ = some (.slice A1 L1 L1))) (by kernel_rfl) ?_ (fun hHeld => ?_)
 ·exact c0
 refine tp 0 ?_
 try simp only [PU]
 refine tp 1 ?_
 try simp only [PU]
 refine tc 2 fun K hK => ?_
 go_simp
 (skip)
 refine hK.out _ _ ?_ fun hHeld => ?_
 ·exact (World.cell?_setCell_other _ _ _ _ (by simp)).trans hHeld
 clear hK K; try simp only [PU]
 refine tc 3 fun K hK => ?_
 go_simp
 refine hK.out _ _ ?_ fun hHeld => ?_
 ·exact (World.cell?_setCell_other _ _ _ _ (by simp)).trans hHeld
 clear hK K; try simp only [PU]
 refine wpAnyH_done (by kernel_rfl) ?_ _
 refine hK _ _ ?_
 go_wp2
 have hb : Below w.heap.size w ((wr.setCell ⟨w.heap.size + 1 + 1, 0, none⟩ (.slice none 0 0)).setCell ⟨w.heap.size + 1 + 1 + 1, 0, none⟩ (.slice A1 L1 L1)).drew := ((HA.out.1.setCell (by simp; omega) _).setCell (by simp; omega) _).drew
 refine bodyPost_ret (v := .tuple #[.agg #[.slice none 0 0], .agg #[.slice A1 L1 L1]]) (by simp [results, Tryz.results181, go_sem, g2, g3]) rfl (divPost_of HV.out.2.1 HV.out.2.2 rfl (Mag.zero _ _ _) ((H1.out.keep hB hb).more (Nat.le_trans hB hb.size)) hb)
theorem div_one {w : World} {B : Nat} {A1 A2 : Option Addr} {L1 m n : Nat} (h1 : Mag w B A1 L1 m) (h2 : Mag w B A2 1 n) (hB : B ≤ w.heap.size) (hle : n ≤ m) :
 Calls Tryz.prog 181 #[.agg #[.slice A1 L1 L1], .agg #[.slice A2 1 1]] w (DivPost w m n) := by
 have H1 : Aside0 (Mag w B A1 L1 m) := ⟨h1⟩
 have H2 : Aside0 (Mag w B A2 1 n) := ⟨h2⟩
 have h0 : 0 < n := Nat.pos_of_ne_zero fun e => by have := h2.len_zero.2 e; omega
 have h1b : n < BB := by have := dg_lt_pow BB1 n; rw [h2.1, Nat.pow_one] at this; exact this
 obtain ⟨b, hA, hb, hc⟩ := h2.2.2 (by omega)
 have hc0 := hc 0 (by omega)
 rw [dg_len_one h2.1] at hc0
 subst hA
 obtain ⟨c, hcc⟩ : ∃ c, cmpI (m : Int) n = c := ⟨_, rfl⟩
 have hcd : decide (c < 0) = false := decide_eq_false (by rw [← hcc]; unfold cmpI; rw [if_neg (by omega)]; split <;> omega)
 have HV : Aside0 (cmpI (m : Int) n = c ∧ 0 < n ∧ n < BB) := ⟨hcc, h0, h1b⟩
 have HC : Aside0 (w.cell? ⟨b, 0, none⟩ = some (.int .u32 (n : Int))) := ⟨hc0⟩
 clear h1 h2 hle hcc h0 h1b hc hb hc0
 go_enter Tryz.func181, Tryz.ntmps181
 go_wp2_with (go_at_call 182; (with_reducible refine (order_any H1.out H2.out hB (by repeat (first | exact Below.refl _ _ | apply below_alloc)) HV.out.1).mono ?_); rintro e wr ⟨rfl, hbr⟩; have t1 : wr.cell? ⟨w.heap.size + 1, 0, none⟩ = some (.slice (some ⟨b, 0, none⟩) 1 1) := (hbr.cell (p := ⟨w.heap.size + 1, 0, none⟩) (by first | (simp; done) | (simp; omega))).trans (by simp [go_sem]))
 have tb : wr.cell? ⟨b, 0, none⟩ = some (.int .u32 (n : Int)) := (hbr.cell (p := ⟨b, 0, none⟩) (Nat.lt_of_lt_of_le (World.block_lt_of_cell? w _ HC.out) (by simp; omega))).trans ((Below.cell (p := ⟨b, 0, none⟩) (show Below w.heap.size w _ from by repeat (first | exact Below.refl _ _ | apply below_alloc)) (World.block_lt_of_cell? w _ HC.out)).trans HC.out)
 obtain ⟨f0, f1⟩ := bcell hbr
 have HX : Aside0 (wr.cell? ⟨w.heap.size, 0, none⟩ = some (.slice A1 L1 L1) ∧ wr.cell? ⟨w.heap.size + 1, 0, none⟩ = some (.slice (some ⟨b, 0, none⟩) 1 1)) := ⟨(f0 _ _ (by first | (simp; done) | (simp; omega))).trans (by simp [go_sem]), (f0 _ _ (by first | (simp; done) | (simp; omega))).trans (by simp [go_sem])⟩
 have g2 : wr.cell? ⟨w.heap.size + 1 + 1, 0, none⟩ = some (.slice none 0 0) := (f0 _ _ (by first | (simp; done) | (simp; omega))).trans (by simp [go_sem])
 have gf2 : wr.frozen? ⟨w.heap.size + 1 + 1, 0, none⟩ = false := (f1 _ _ (by first | (simp; done) | (simp; omega))).trans (by simp [go_sem])
 have g3 : wr.cell? ⟨w.heap.size + 1 + 1 + 1, 0, none⟩ = some (.slice none 0 0) := (f0 _ _ (by first | (simp; done) | (simp; omega))).trans (by simp [go_sem])
 have gf3 : wr.frozen? ⟨w.heap.size + 1 + 1 + 1, 0, none⟩ = false := (f1 _ _ (by first | (simp; done) | (simp; omega))).trans (by simp [go_sem])
 have HA : Aside0 (Below w.heap.size w wr ∧ w.heap.size + 4 ≤ wr.heap.size) := ⟨below_step (by repeat (first | exact Below.refl _ _ | apply below_alloc)) hbr, by have := hbr.size; simp at this; omega⟩
 clear f0 f1 hbr
 rename_i K1 hK1 K hK
 have c0 := HX.out.1
 have hbw : b < w.heap.size := World.block_lt_of_cell? w ⟨b, 0, none⟩ HC.out
 refine wp_region_held_drew (S := (fun V => V.cell? ⟨w.heap.size, 0, none⟩ = some (.slice A1 L1 L1) ∧ V.cell? ⟨w.heap.size + 1, 0, none⟩ = some (.slice (some ⟨b, 0, none⟩) 1 1) ∧ V.cell? ⟨b, 0, none⟩ = some (.int .u32 (n : Int)))) (by kernel_rfl) ?_ (fun hHeld => ?_)
 ·exact ⟨c0, t1, tb⟩
 refine tp 0 ?_
 try simp only [PU]
 refine tp 1 ?_
 try simp only [PU]
 refine tp 2 ?_
 try simp only [PU]
 refine tp 3 ?_
 try simp only [PU]
 refine tp 4 ?_
 try simp only [PU]
 refine tc 5 fun K hK => ?_
 go_simp
 (go_at_call 215; (with_reducible refine (short_any H1.out hB HV.out.2.1 HV.out.2.2 (HA.out.1.trans ((below_drew1 (Below.refl wr.heap.size wr)).mono (by have := HA.out.2; omega)))).mono ?_); rintro e wq ⟨A3, k3, A4, k4, rfl, hm3, hm4, hbq⟩; have s2 := keepAt hbq g2; have s3 := keepAt hbq g3; have sf2 := keepF hbq g2 gf2; have sf3 := keepF hbq g3 gf3)
 refine hK.out _ _ ?_ fun hHeld => ?_
 ·(first | exact ⟨keepAt hbq hHeld.1, keepAt hbq hHeld.2.1, keepAt hbq hHeld.2.2⟩ | exact ⟨(World.cell?_setCell_other _ _ _ _ (by simp)).trans hHeld.1, (World.cell?_setCell_other _ _ _ _ (by simp)).trans hHeld.2.1, (World.cell?_setCell_other _ _ _ _ (by first | (simp; done) | (simp; omega))).trans hHeld.2.2⟩)
 clear hK K; try simp only [PU]
 refine tp 6 ?_
 try simp only [PU]
 refine tp 7 ?_
 try simp only [PU]
 refine tc 8 fun K hK => ?_
 go_simp
 refine hK.out _ _ ?_ fun hHeld => ?_
 ·(first | exact ⟨keepAt hbq hHeld.1, keepAt hbq hHeld.2.1, keepAt hbq hHeld.2.2⟩ | exact ⟨(World.cell?_setCell_other _ _ _ _ (by simp)).trans hHeld.1, (World.cell?_setCell_other _ _ _ _ (by simp)).trans hHeld.2.1, (World.cell?_setCell_other _ _ _ _ (by first | (simp; done) | (simp; omega))).trans hHeld.2.2⟩)
 clear hK K; try simp only [PU]
 refine tc 9 fun K hK => ?_
 go_simp
 refine hK.out _ _ ?_ fun hHeld => ?_
 ·(first | exact ⟨keepAt hbq hHeld.1, keepAt hbq hHeld.2.1, keepAt hbq hHeld.2.2⟩ | exact ⟨(World.cell?_setCell_other _ _ _ _ (by simp)).trans hHeld.1, (World.cell?_setCell_other _ _ _ _ (by simp)).trans hHeld.2.1, (World.cell?_setCell_other _ _ _ _ (by first | (simp; done) | (simp; omega))).trans hHeld.2.2⟩)
 clear hK K; try simp only [PU]
 refine wpAnyH_done (by kernel_rfl) ?_ _
 refine hK _ _ ?_
 go_wp2
 refine bodyPost_ret (v := .tuple #[.agg #[.slice A3 k3 k3], .agg #[.slice A4 k4 k4]]) (by simp [results, Tryz.results181, go_sem, s2, s3]) rfl (divPost_of rfl rfl rfl ?_ ?_ ?_)
 ·exact (Mag.setA (Mag.setA hm3 (hm3.apart s2 (fun d => by simp)) _ _) (hm3.apart s3 (fun d => by simp)) _ _).more (by simp)
 ·exact (Mag.setA (Mag.setA hm4 (hm4.apart s2 (fun d => by simp)) _ _) (hm4.apart s3 (fun d => by simp)) _ _).more (by simp)
 ·exact ((HA.out.1.trans ((bJoin hbq (below_drew1 (Below.refl wr.heap.size wr))).mono (by have := HA.out.2; omega))).setCell (by simp; omega) _).setCell (by simp; omega) _
end
end Go.Proofs.YtnjbinpbkjdjpaaGreatDoor.Nm
