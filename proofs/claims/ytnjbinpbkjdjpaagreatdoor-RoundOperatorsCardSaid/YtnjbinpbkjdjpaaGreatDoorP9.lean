import Derived.Test.YtnjbinpbkjdjpaaGreatDoorP8
import Derived.Laws.IdiomStrings
import Derived.MapKept
import Derived.WalkMore
import Derived.Carry
import Ieee.Arith
import Derived.Test.YtnjbinpbkjdjpaaGreatDoorP3
import Derived.Laws.FloatArith
/- Own text: contracts and laws on which the card rests (FnK NfA FnL FnM FnN FnO FaA FaC FaD). -/
set_option linter.unusedVariables false
set_option linter.unusedSimpArgs false
set_option maxRecDepth 1000000
set_option maxHeartbeats 16000000
namespace Go.Proofs.YtnjbinpbkjdjpaaGreatDoor.Nm
section
open Go.Proofs.YtnjbinpbkjdjpaaGreatDoor.Rf Go.Proofs.YtnjbinpbkjdjpaaGreatDoorW.PrintLast Go.Proofs.YtnjbinpbkjdjpaaGreatDoorW.PrintMore Go.Proofs.YtnjbinpbkjdjpaaGreatDoorW.PrintWords Go.RowKit Go.Shelf
attribute [local go_sem] Oper.semAt_some
theorem digits_calls {w : World} {A : Option Addr} {L c : Nat} :
 Calls Tryz.prog 194 #[.slice A L c] w fun e w' => e = .returned (.func (.func 221) #[] #[.pointer (some ⟨w.heap.size, 0, none⟩)]) ∧ w.alloc (.cells #[.slice A L c] 100) = w' := by
 go_enter Tryz.func194, Tryz.ntmps194
 go_wp2
 go_ret
 exact ⟨rfl, rfl⟩
theorem Sz.dg10 {k n : Nat} (h : Sz k n) : (dg 10 n).length ≤ k := dg_length (by decide) k n (Nat.lt_of_lt_of_le h.lt (Nat.pow_le_pow_left (by decide) k))
/-- A byte of a digit. -/
def chV (d : Nat) : Value := .int .u8 (48 + (d : Int))
/-- What lies in memory between two rounds of String. -/
structure SJ (w : World) (pre : List Nat) (own : List Nat) (W : World) : Prop where
 st : ∃ v, Boxed W w.heap.size 232 v ∧ W.ownsRow w.heap.size 5 1 v pre.length (pre.map chV) ∧ (∀ g, v.ownBlock = some g → g ∉ own)
 no : w.heap.size ∉ own
 bl : Below w.heap.size w W
theorem SJ.turn {w : World} {pre own : List Nat} {A B : World} (h : SJ w pre own A) (ht : Turn w.heap.size own A B) : SJ w pre own B := by
 obtain ⟨⟨v, a1, a2, a3⟩, no, bl⟩ := h
 exact ⟨⟨v, boxed_turn a1 ht no, ownsRow_turn a2 ht a3, a3⟩, no, below_turn bl ht⟩
theorem SJ.adopt {w : World} {pre own : List Nat} {A : World} {r : Nat} (h : SJ w pre own A) (hr : A.heap.size ≤ r) : SJ w pre (r :: own) A := by
 obtain ⟨⟨v, a1, a2, a3⟩, no, bl⟩ := h
 have h1 := a1.lt
 refine ⟨⟨v, a1, a2, fun g hg => ?_⟩, ?_, bl⟩
 ·have := (a2.lt g hg).2
  simp only [List.mem_cons, not_or]
  exact ⟨by omega, a3 g hg⟩
 ·simp only [List.mem_cons, not_or]
  exact ⟨by omega, no⟩
/-- Bytes in memory. -/
structure R8 (W : World) (g : Nat) (l : List Nat) : Prop where
 cell : ∀ j, j < l.length → W.cell? ⟨g, j, none⟩ = some (chV (l.getD j 0))
 fr : ∀ j, W.frozen? ⟨g, j, none⟩ = false
 lt : g < W.heap.size
theorem R8.set {W : World} {g : Nat} {l : List Nat} (h : R8 W g l) {i d : Nat} (hi : i < l.length) : R8 (W.setCell ⟨g, i, none⟩ (chV d)) g (l.set i d) :=
 ⟨fun j hj => by
  rw [List.length_set] at hj
  by_cases e : i = j
  ·subst e
   rw [World.cell?_setCell_same' _ _ _ (by rw [h.cell i hi]; rfl)]
   simp [List.getD_eq_getElem?_getD, hi]
  ·rw [World.cell?_setCell_other _ _ _ _ (by intro e2; injection e2 with _ e2 _; exact e e2), h.cell j hj, getD_set_ne e], fun j => by rw [World.frozen?_setCell]; exact h.fr j, by simpa using h.lt⟩
/-- The list after i exchanges from both ends. -/
def rvl (l : List Nat) (i : Nat) : List Nat := (List.range l.length).map fun j => if j < i ∨ l.length ≤ j + i then l.getD (l.length - 1 - j) 0 else l.getD j 0
theorem rvl_len (l : List Nat) (i : Nat) : (rvl l i).length = l.length := by simp [rvl]
theorem rvl_get (l : List Nat) (i : Nat) {j : Nat} (h : j < l.length) : (rvl l i).getD j 0 = if j < i ∨ l.length ≤ j + i then l.getD (l.length - 1 - j) 0 else l.getD j 0 := by
 simp [rvl, List.getD_eq_getElem?_getD, h]
theorem rvl_zero (l : List Nat) : rvl l 0 = l := by
 apply List.ext_getElem
 ·simp [rvl]
 ·intro j h1 h2
  rw [← getD_lt h1, ← getD_lt h2, rvl_get l 0 h2, if_neg (by omega)]
theorem rvl_step (l : List Nat) (i : Nat) (h : i < l.length / 2) : ((rvl l i).set i (l.getD (l.length - 1 - i) 0)).set (l.length - 1 - i) (l.getD i 0) = rvl l (i + 1) := by
 apply List.ext_getElem
 ·simp [rvl]
 ·intro j h1 h2
  have hj : j < l.length := by simpa [rvl] using h2
  rw [← getD_lt h1, ← getD_lt h2, rvl_get l (i + 1) hj]
  by_cases e1 : l.length - 1 - i = j
  ·subst e1
   rw [List.getD_eq_getElem?_getD, List.getElem?_set_self (by simp [rvl]; omega), if_pos (by omega)]
   show l.getD i 0 = _
   congr 1
   omega
  ·rw [getD_set_ne e1]
   by_cases e2 : i = j
   ·subst e2
    rw [List.getD_eq_getElem?_getD, List.getElem?_set_self (by simp [rvl]; omega), if_pos (by omega)]
    rfl
   ·rw [getD_set_ne e2, rvl_get l i hj]
    by_cases c : j < i ∨ l.length ≤ j + i
    ·rw [if_pos c, if_pos (by omega)]
    ·rw [if_neg c, if_neg (by omega)]
theorem rvl_full (l : List Nat) : rvl l (l.length / 2) = l.reverse := by
 apply List.ext_getElem
 ·simp [rvl]
 ·intro j h1 h2
  have hj : j < l.length := by simpa using h2
  rw [← getD_lt h1, rvl_get l _ hj, List.getElem_reverse]
  have hr : l.getD (l.length - 1 - j) 0 = l[l.length - 1 - j] := getD_lt (by omega)
  split
  ·exact hr
  ·rw [← hr]
   congr 1
   omega
/-- The digits reversed are the decimal string. -/
theorem dg_dec {n : Nat} (h : 0 < n) : (dg 10 n).reverse.map (fun d => UInt8.ofNat (48 + d)) = Lib.decDigits n := by
 induction n using Nat.strongRecOn with
 | _ n ih =>
   by_cases h10 : n < 10
   ·rw [dg_one (by decide) h h10, dec_small h10]; rfl
   ·rw [dg_pos (by decide) h, List.reverse_cons, List.map_append, ih (n / 10) (by omega) (by omega), dec_big h10]; rfl
theorem dec_cell {n : Nat} (h : 0 < n) (j : Nat) (hj : j < (Lib.decDigits n).length) : (((Lib.decDigits n)[j]'hj).toNat : Int) = 48 + (((dg 10 n).reverse.getD j 0 : Nat) : Int) := by
 have hm := dg_dec h
 have hl := congrArg List.length hm
 rw [List.length_map] at hl
 have hj2 : j < (dg 10 n).reverse.length := by omega
 have e : (Lib.decDigits n)[j]? = some (UInt8.ofNat (48 + (dg 10 n).reverse[j])) := by rw [← hm, List.getElem?_map, List.getElem?_eq_getElem hj2]; rfl
 rw [List.getElem?_eq_getElem hj] at e
 injection e with e
 have hd : (dg 10 n).reverse[j] < 10 := dg_lt (by decide) n _ (List.mem_reverse.1 (List.getElem_mem _))
 rw [e, getD_lt hj2, dig_nat hd]
 omega
theorem dec_length {n : Nat} (h : 0 < n) : (Lib.decDigits n).length = (dg 10 n).length := by
 have := congrArg List.length (dg_dec h)
 rw [List.length_map, List.length_reverse] at this
 exact this.symm
theorem natStr_end (W3 : World) (D : Nat) (tmps : Array Value) (S : ByteArray) (R : Ending → World → Prop) (h2 : tmps[2]?.getD undef = .string S) (hK : W3.heap[D]? = some (.deferred (some [])))
 (hR : R (.returned (.string S)) (W3.putObj D (.deferred none))) : bodyPostM Fence.wide 6 Tryz.prog Tryz.f143 R Exit.ret { tmps, defers := [{ target := .collected D, args := #[] }] } W3 := by
 refine ⟨by simp, .inl ⟨_, _, rfl, run_takeDeferred hK, ?_⟩⟩
 refine ⟨_, ?_, hR⟩
 simp [results, Tryz.results143, go_sem, h2]
/-- A piece of code that ends by leaving a block, and does not panic. -/
theorem wp_midX {P : Program} {c : Code} {Q : Exit → Act → World → Prop} {a : Act} {w : World} (id : Nat) (M : Array Value → World → Prop)
 (h : c.wp P (fun e a' w' => match e with | .exit i => i = id ∧ a'.defers = a.defers ∧ M a'.tmps w' | _ => False) a w) (hk : ∀ T w', M T w' → Q (.exit id) { tmps := T, defers := a.defers } w') : c.wp P Q a w :=
 Code.wp_mono (fun e a' w' h => by
  cases e <;> first | exact h.elim | skip
  obtain ⟨rfl, h1, h2⟩ := h
  have := hk _ _ h2
  rw [← h1] at this
  exact this) h
theorem natString_calls {w : World} {A : Option Addr} {L c n : Nat} (h : NN w A L c n) (hz : Sz 200000 n) :
 Calls Tryz.prog 143 #[.slice A L c] w fun e w' => e = .returned (.string ⟨(Lib.decDigits n).toArray⟩) ∧ Below w.heap.size w w' := by
 have hAlt : ∀ b, A = some ⟨b, 0, none⟩ → 0 < L → b < w.heap.size := fun b hA h0 => by
  obtain ⟨b2, hA2, hlt, _⟩ := h.addr h0
  rw [hA] at hA2
  injection hA2 with e
  injection e with e
  omega
 refine (callsIn_wide (n := 6)).1 ?_
 refine callsIn_of_wp_marks Tryz.func143 rfl trivial ?_ rfl
 simp only [Tryz.ntmps143, List.size_toArray, List.length_cons, List.length_nil, Nat.reduceAdd, Nat.reduceSub, Array.replicate_succ, Array.replicate_zero, List.push_toArray, List.append_toArray, List.nil_append, List.cons_append]
 refine wpIn_wide.2 ?_
 go_wp2_with (first
  | (go_at_call 194; (with_reducible refine (digits_calls).mono ?_); rintro e w' ⟨rfl, rfl⟩))
 obtain ⟨W0, hW0⟩ : ∃ W0, W0 = ((w.alloc (.cells #[.slice none 0 0] 232)).alloc (.cells #[.slice A L c] 100)) := ⟨_, rfl⟩
 have hb0 : Below w.heap.size w W0 := by subst hW0; repeat (first | exact Below.refl _ _ | apply below_alloc)
 have hcs : Boxed W0 (w.heap.size + 1) 100 (.slice A L c) := by subst hW0; exact boxed_at (w.alloc _) _ _ _ (by simp)
 have I0 : SJ w [] [w.heap.size + 1] W0 := by
  refine ⟨⟨.slice none 0 0, ?_, World.ownsRow_nil _ _ _ _, fun g hg => by simp [Value.ownBlock] at hg⟩, by simp, hb0⟩
  subst hW0
  exact (boxed_at w _ _ _ rfl).alloc _
 have hz0 : W0.heap.size = w.heap.size + 2 := by rw [hW0]; simp
 rw [← hW0]
 clear hW0
 have HSQ := Aside0.mk (digits_seq 5 (by omega) hz hcs (h.below hb0) hAlt (by omega) (n₀ := w.heap.size))
 have HLN := Aside0.mk hz.dg10
 clear h hz hAlt
 refine (wpIn_wide (n := 6)).1 ?_
 refine wpIn_one (α := Nat) (own0 := [w.heap.size + 1]) (n₀ := w.heap.size) (by omega) (gf := 221) (lb := #[.pointer (some ⟨w.heap.size + 1, 0, none⟩)]) rfl Tryz.call221 chV HSQ.out (by omega) (fun r hr => by simp only [List.mem_singleton] at hr; omega)
  (SJ w) (fun c pre own W => False) (fun pre own A B h ht => h.turn ht) (fun pre own A r h hr => h.adopt hr) (fun c pre own A B h ht => h) I0 (by simp) ?body ?done ?stop
 case stop =>
  rintro D c pre own W hD hSp h hK
  exact h.elim
 case body =>
  rintro l pre own x W ho hzz hI ⟨m, hm0, hp, rfl⟩
  obtain ⟨⟨v, a1, a2, a3⟩, no, bl⟩ := hI
  have HI := Aside0.mk (And.intro a1 (And.intro a2 (And.intro a3 (And.intro no bl))))
  have cB := a1.cell
  have fB := a1.frozen
  have hpl : pre.length ≤ 200000 := by have := congrArg List.length hp; rw [List.length_append] at this; have := HLN.out; omega
  obtain ⟨i0, hi0, hz1, hz2, hz3⟩ := info_parts rinfo8
  have hbl1 := bl.size
  clear a1 a2 a3 bl
  unfold chV
  gi_wp2_with (first | (gi_at_builtin; (refine wpListIn_append_own_at _ rfl _ _ 232 rfl w.heap.size 5 i0 (.int .u8 0) 1 1 Tryz.underlying232 hi0 hz1 hz2 hz3 rfl (by decide) _ _ _ rfl (HI.out.2.1.alloc _) ⟨W.heap.size, 0, none⟩ 1 1 [.int .u8 (48 + ((m % 10 : Nat) : Int))] rfl rfl ?c1 ?c2 ?c3 ?c4 ?c5 ?c6; (case c1 => exact World.news_of_block (World.alloc_heap_new W _)); (case c2 => simp [Value.oneCell']); (case c3 => simp only [maxLen]; omega); (case c4 => omega); (case c5 => simp; omega); intro v' w1 hown' hgrow hnil hat; obtain ⟨g', cap', rfl⟩ := ownsRow_succ hown'; obtain ⟨hv1, hv2, hr2, hk2, hb2⟩ := (HI.out.1).appended (by decide) HI.out.2.1 hbl1 (Nat.le_refl _) hown' hgrow; have hc1 := hv1.cell; have hf1 := hv1.frozen)))
  have hnv : v.ownBlock ≠ some (w.heap.size + 1) ∨ True := .inr trivial
  have he : (48 + (m : Int) % 10) = 48 + ((m % 10 : Nat) : Int) := by omega
  have hno := HI.out.2.2.2.1
  refine ⟨hk2.from _, ⟨hb2, fun q hq hl => ?_⟩, ⟨⟨_, hv2, ?_, ?_⟩, hno, HI.out.2.2.2.2.trans hb2⟩⟩
  ·exact (Below.heap_setCell _ _ _ _ (fun e => hno (by rw [show w.heap.size = q from e.symm]; exact hq))).trans ((hgrow.block q (by simp; omega) (fun e => HI.out.2.2.1 q e.symm hq)).trans (Below.heap_alloc _ _ _ hl))
  ·rw [List.length_append, List.map_append]
   exact hr2
  ·intro g hg hm
   rcases hat with hat | hat
   ·exact HI.out.2.2.1 g (hat ▸ hg) hm
   ·rw [hat] at hg
    cases hg
    have := (ho _ hm).2
    simp at this
    omega
 case done =>
  rintro D xs own W hD rfl hI hK
  obtain ⟨⟨v, a1, a2, a3⟩, no, bl⟩ := hI
  have HB := Aside0.mk bl
  have cB := a1.cell
  have HDK : Aside0 (W.heap[D]? = some (.deferred (some [])) ∧ w.heap.size + 2 ≤ D) := ⟨hK, by omega⟩
  obtain ⟨A', c', rfl⟩ := own_slice a2
  rcases Nat.eq_zero_or_pos n with h0 | h0
  ·subst h0
   have e0 : ((dg 10 0).length : Int) = 0 := by rw [dg_zero]; rfl
   have HS : Aside0 (Lib.decDigits 0 = [48]) := ⟨dec_small (by omega)⟩
   clear a1 a2 a3 no bl hK I0 hcs
   rw [dg_zero] at cB
   go_wp2_with fail
   exact natStr_end _ D _ _ _ rfl HDK.out.1 ⟨by rw [HS.out], HB.out.trans (belowK_b (w := w) (Nat.le_refl _) _ D _ _ (by have := HDK.out.2; omega) HDK.out.1 rfl rfl)⟩
  ·obtain ⟨l, hl⟩ : ∃ l, dg 10 n = l := ⟨_, rfl⟩
   have HD := Aside0.mk (And.intro (dec_cell h0) (dec_length h0))
   have hlt : 0 < l.length := by
    rw [← hl, dg10 h0]; simp
   rw [hl] at HD a1 a2 cB
   have hL := HLN.out
   rw [hl] at hL
   obtain ⟨g, cap, hv, hgc, hglt⟩ := a2.form hlt
   injection hv with hA hB hC
   subst hA hC
   obtain ⟨_, hrest⟩ := id a2
   have hgD : W.heap[g]? = some (.cells (match W.heap[g]? with
    | some (.cells cur _ _) => cur
    | _ => #[]) 5 (0, 0)) := by
    rcases hrest with ⟨hn, _⟩ | ⟨g2, cap2, cur, hv, _, hgg, _⟩
    ·cases hn
    ·injection hv with hA _ _
     injection hA with hA
     injection hA with hA
     subst hA
     rw [hgg]
   have hR0 : R8 W g l := ⟨fun j hj => by
    have := a2.cells (g := g) rfl j (chV (l.getD j 0)) (by rw [List.getElem?_map, List.getElem?_eq_getElem hj, getD_lt hj]; rfl)
    have hadd : (⟨g, 0, none⟩ : Addr).add j = ⟨g, j, none⟩ := by unfold Addr.add; split <;> simp_all
    rwa [hadd] at this, fun j => Lib.frozen_of_heap hgD j, hglt⟩
   have hne1 : g ≠ w.heap.size := fun e => by
    have hb := a1
    unfold Boxed at hb
    rw [← e, hgD] at hb
    injection hb with hb
    injection hb with _ hb _
    exact absurd hb (by decide)
   have hne2 : g ≠ D := fun e => by
    rw [← e, hgD] at hK
    cases hK
   have HNE := Aside0.mk (And.intro hne1 hne2)
   have HGW : Aside0 (w.heap.size ≤ g) := ⟨hgc⟩
   have hR1 : R8 W g (rvl l 0) := by rw [rvl_zero]; exact hR0
   have HR1 := Aside0.mk hR1
   have e1 : ((l.length : Int)).tdiv 2 = ((l.length / 2 : Nat) : Int) := by rw [Int.tdiv_eq_ediv_of_nonneg (by omega)]; omega
   have n0 : ((l.length : Int) == 0) = false := by rw [beq_eq_false_iff_ne]; omega
   have HA1 := Aside0.mk a1
   clear a1 a2 a3 no bl hK I0 hcs hrest hgD hR0 hR1 hne1 hne2 hgc hglt hl
   obtain ⟨N, hN⟩ : ∃ N, l.length = N := ⟨_, rfl⟩
   rw [hN] at e1 n0 cB hL hlt
   have HN := Aside0.mk hN
   clear hN
   go_wp2_with fail
   refine wp_midX 2 (fun T X => ∃ u5 u19 u20 u21 u22 u23 u24 u25 u26 u27 u28 u29 u30 u31 u32 u33 u34 u35 u36 u37 u38 u39 u40 u41 u42 u43 u44 : Value, T = #[Value.slice A L c, undef, Value.string { data := #[] }, Value.pointer (some ⟨w.heap.size, 0, none⟩), undef, u5, Value.slice A L c, Value.func (Fn.func 221) #[] #[Value.pointer (some ⟨w.heap.size + 1, 0, none⟩)], undef, undef, undef, undef, undef, Value.slice (some ⟨g, 0, none⟩) N c', Value.int .i64 (N : Int), Value.bool false, Value.slice (some ⟨g, 0, none⟩) N c', Value.int .i64 (N : Int), Value.int .i64 ((N : Int) / 2), u19, u20, u21, u22, u23, u24, u25, u26, u27, u28, u29, u30, u31, u32, u33, u34, u35, u36, u37, u38, u39, u40, u41, u42, u43, u44, undef, undef] ∧ Aside0 (R8 X g l.reverse ∧ Below w.heap.size w X ∧ X.heap[D]? = some (.deferred (some [])) ∧ Boxed X w.heap.size 232 (.slice (some ⟨g, 0, none⟩) N c'))) ?_ ?_
   rotate_left
   ·rintro T X ⟨u5, u19, u20, u21, u22, u23, u24, u25, u26, u27, u28, u29, u30, u31, u32, u33, u34, u35, u36, u37, u38, u39, u40, u41, u42, u43, u44, rfl, HF⟩
    have cX := HF.out.2.2.2.cell
    have hcv : (convert 232 9 (.slice (some ⟨g, 0, none⟩) N c')).run Tryz.prog X = .ok (.string ⟨(Lib.decDigits n).toArray⟩) X := by
     have h := run_convert_bytes_back (P := Tryz.prog) X 232 9 5 ⟨g, 0, none⟩ c' (Lib.decDigits n) Tryz.underlying232 Tryz.underlying5 Tryz.underlying9 (fun j hj => by
      have hadd : (⟨g, 0, none⟩ : Addr).add j = ⟨g, j, none⟩ := by unfold Addr.add; split <;> simp_all
      have hjl : j < l.length := by have := HD.out.2; omega
      rw [hadd, HF.out.1.cell j (by rw [List.length_reverse]; exact hjl), HD.out.1 j hj]
      rfl)
     rw [HD.out.2, HN.out] at h
     exact h
    clear HR1 HA1 HN HD e1 n0
    go_wp2_with fail
    exact natStr_end _ D _ _ _ rfl HF.out.2.2.1 ⟨rfl, HF.out.2.1.trans (belowK_b (w := w) (Nat.le_refl _) _ D _ _ (by have := HDK.out.2; omega) HF.out.2.2.1 rfl rfl)⟩
   go_loopw [19] (fun v19 X => ∃ i : Nat, v19 = .int .i64 (i : Int) ∧ i ≤ N / 2 ∧ Aside0 (R8 X g (rvl l i)) ∧ Aside0 (Below w.heap.size w X ∧ X.heap[D]? = some (.deferred (some [])) ∧ Boxed X w.heap.size 232 (.slice (some ⟨g, 0, none⟩) N c'))) (fun v19 _ => N / 2 - (intOf v19).toNat)
   case atStart => exact ⟨0, rfl, by omega, HR1, ⟨HB.out, HDK.out.1, by rw [← HN.out]; exact HA1.out⟩⟩
   case round =>
    obtain ⟨i, rfl, hi, HR, HX⟩ := hrel
    clear cB
    have cB := HX.out.2.2.cell
    by_cases hlt2 : i < N / 2
    ·obtain ⟨q, hq⟩ : ∃ q, N - 1 - i = q := ⟨_, rfl⟩
     have e2 : (N : Int) - 1 - (i : Int) = (q : Int) := by omega
     have w1 : IntKind.i64.wrap ((N : Int) - 1) = (N : Int) - 1 := IntWalk.i64_in _ (by omega)
     have w2 : IntKind.i64.wrap (q : Int) = (q : Int) := IntWalk.i64_in _ (by omega)
     have hqN : (q : Int) < (N : Int) := by omega
     have hiN : (i : Int) < (N : Int) := by omega
     have hne : ¬ i = q := by omega
     have hne' : ¬ q = i := by omega
     have hlt3 : (i : Int) < ((N / 2 : Nat) : Int) := by omega
     have x1 : wr.cell? ⟨g, i, none⟩ = some (chV (l.getD i 0)) := by
      rw [HR.out.cell i (by rw [rvl_len, HN.out]; omega), rvl_get l i (by rw [HN.out]; omega), if_neg (by rw [HN.out]; omega)]
     have x2 : wr.cell? ⟨g, q, none⟩ = some (chV (l.getD q 0)) := by
      rw [HR.out.cell q (by rw [rvl_len, HN.out]; omega), rvl_get l i (by rw [HN.out]; omega), if_neg (by rw [HN.out]; omega)]
     have x3 := HR.out.fr i
     have x4 := HR.out.fr q
     have HST := Aside0.mk (rvl_step l i (by rw [HN.out]; exact hlt2))
     rw [HN.out, hq] at HST
     have HQ := Aside0.mk (And.intro hq hlt2)
     unfold chV at x1 x2
     obtain ⟨di, hdi⟩ : ∃ di, l.getD i 0 = di := ⟨_, rfl⟩
     obtain ⟨dq, hdq⟩ : ∃ dq, l.getD q 0 = dq := ⟨_, rfl⟩
     rw [hdi] at x1 HST
     rw [hdq] at x2 HST
     clear hq hdi hdq
     go_wp2_with fail
     refine wp_region_held_drew (S := (fun V => V.cell? ⟨w.heap.size, 0, none⟩ = some (.slice (some ⟨g, 0, none⟩) N c'))) (by kernel_rfl) ?_ (fun hHeld => ?_)
     ·exact cB
     (obtain ⟨Z, hZ⟩ : ∃ Z, wr.drew = Z := ⟨_, rfl⟩; rw [hZ] at hHeld; have y1 : Z.cell? ⟨g, i, none⟩ = some (.int .u8 (48 + (di : Int))) := (by subst hZ; exact x1); have y2 : Z.cell? ⟨g, q, none⟩ = some (.int .u8 (48 + (dq : Int))) := (by subst hZ; exact x2); have y3 : Z.frozen? ⟨g, i, none⟩ = false := (by subst hZ; exact x3); have y4 : Z.frozen? ⟨g, q, none⟩ = false := (by subst hZ; exact x4); have HZ : Aside0 (R8 Z g (rvl l i) ∧ Below w.heap.size w Z ∧ Z.heap[D]? = some (.deferred (some [])) ∧ Boxed Z w.heap.size 232 (.slice (some ⟨g, 0, none⟩) N c')) := ⟨by subst hZ; exact ⟨⟨HR.out.cell, HR.out.fr, HR.out.lt⟩, below_drew1 HX.out.1, HX.out.2.1, HX.out.2.2⟩⟩; rw [hZ]; clear hZ x1 x2 x3 x4 HR HX cB)
     refine tp 0 ?_
     try simp only [PU]
     refine tp 1 ?_
     try simp only [PU]
     refine tp 2 ?_
     try simp only [PU]
     refine tp 3 ?_
     try simp only [PU]
     refine tp 4 ?_
     try simp only [PU]
     refine tp 5 ?_
     try simp only [PU]
     refine tp 6 ?_
     try simp only [PU]
     refine tp 7 ?_
     try simp only [PU]
     refine tp 8 ?_
     try simp only [PU]
     refine tp 9 ?_
     try simp only [PU]
     refine tp 10 ?_
     try simp only [PU]
     refine tp 11 ?_
     try simp only [PU]
     refine tp 12 ?_
     try simp only [PU]
     refine tp 13 ?_
     try simp only [PU]
     refine tp 14 ?_
     try simp only [PU]
     refine tp 16 ?_
     try simp only [PU]
     refine tp 17 ?_
     try simp only [PU]
     refine tp 18 ?_
     try simp only [PU]
     refine wpAnyH_ready (rs := [15, 19]) (by kernel_rfl) (by simp) ?_
     refine AllReadyH.cons rfl (fun K hK => ?_) (AllReadyH.cons rfl (fun K hK => ?_) (AllReadyH.nil))
     ·go_simp
      refine hK.out _ _ ?_ fun hHeld => ?_
      ·(first | exact hHeld | exact (World.cell?_setCell_other _ _ _ _ (by intro e; injection e with e _ _; exact HNE.out.1 e)).trans hHeld)
      clear hK K; try simp only [PU]
      refine tc 19 fun K hK => ?_
      go_simp
      refine hK.out _ _ ?_ fun hHeld => ?_
      ·(first | exact hHeld | exact (World.cell?_setCell_other _ _ _ _ (by intro e; injection e with e _ _; exact HNE.out.1 e)).trans hHeld)
      clear hK K; try simp only [PU]
      refine tp 20 ?_
      try simp only [PU]
      refine tc 21 fun K hK => ?_
      go_simp
      refine hK.out _ _ ?_ fun hHeld => ?_
      ·(first | exact hHeld | exact (World.cell?_setCell_other _ _ _ _ (by intro e; injection e with e _ _; exact HNE.out.1 e)).trans hHeld)
      clear hK K; try simp only [PU]
      refine tp 22 ?_
      try simp only [PU]
      refine tc 23 fun K hK => ?_
      go_simp
      refine hK.out _ _ ?_ fun hHeld => ?_
      ·(first | exact hHeld | exact (World.cell?_setCell_other _ _ _ _ (by intro e; injection e with e _ _; exact HNE.out.1 e)).trans hHeld)
      clear hK K; try simp only [PU]
      refine wpAnyH_done (by kernel_rfl) ?_ _
      go_wp2
      have hq2 := HQ.out
      have hN2 := HN.out
      refine ⟨⟨i + 1, by go_num, by omega, ⟨?_⟩, ⟨?_, ?_, ?_⟩⟩, by simp only [intOf]; omega⟩
      ·rw [← HST.out]
       exact (HZ.out.1.set (by rw [rvl_len]; omega)).set (by rw [List.length_set, rvl_len]; omega)
      ·exact (HZ.out.2.1.setCell (p := ⟨g, i, none⟩) HGW.out _).setCell (p := ⟨g, q, none⟩) HGW.out _
      ·exact (Below.heap_setCell _ _ _ _ (fun e => HNE.out.2 e.symm)).trans ((Below.heap_setCell _ _ _ _ (fun e => HNE.out.2 e.symm)).trans HZ.out.2.2.1)
      ·exact (Below.heap_setCell _ _ _ _ (fun e => HNE.out.1 e.symm)).trans ((Below.heap_setCell _ _ _ _ (fun e => HNE.out.1 e.symm)).trans HZ.out.2.2.2)
     ·go_simp
      refine hK.out _ _ ?_ fun hHeld => ?_
      ·(first | exact hHeld | exact (World.cell?_setCell_other _ _ _ _ (by intro e; injection e with e _ _; exact HNE.out.1 e)).trans hHeld)
      clear hK K; try simp only [PU]
      refine tc 15 fun K hK => ?_
      go_simp
      refine hK.out _ _ ?_ fun hHeld => ?_
      ·(first | exact hHeld | exact (World.cell?_setCell_other _ _ _ _ (by intro e; injection e with e _ _; exact HNE.out.1 e)).trans hHeld)
      clear hK K; try simp only [PU]
      refine tp 20 ?_
      try simp only [PU]
      refine tc 21 fun K hK => ?_
      go_simp
      refine hK.out _ _ ?_ fun hHeld => ?_
      ·(first | exact hHeld | exact (World.cell?_setCell_other _ _ _ _ (by intro e; injection e with e _ _; exact HNE.out.1 e)).trans hHeld)
      clear hK K; try simp only [PU]
      refine tp 22 ?_
      try simp only [PU]
      refine tc 23 fun K hK => ?_
      go_simp
      refine hK.out _ _ ?_ fun hHeld => ?_
      ·(first | exact hHeld | exact (World.cell?_setCell_other _ _ _ _ (by intro e; injection e with e _ _; exact HNE.out.1 e)).trans hHeld)
      clear hK K; try simp only [PU]
      refine wpAnyH_done (by kernel_rfl) ?_ _
      go_wp2
      have hq2 := HQ.out
      have hN2 := HN.out
      refine ⟨⟨i + 1, by go_num, by omega, ⟨?_⟩, ⟨?_, ?_, ?_⟩⟩, by simp only [intOf]; omega⟩
      ·rw [← HST.out]
       exact (HZ.out.1.set (by rw [rvl_len]; omega)).set (by rw [List.length_set, rvl_len]; omega)
      ·exact (HZ.out.2.1.setCell (p := ⟨g, i, none⟩) HGW.out _).setCell (p := ⟨g, q, none⟩) HGW.out _
      ·exact (Below.heap_setCell _ _ _ _ (fun e => HNE.out.2 e.symm)).trans ((Below.heap_setCell _ _ _ _ (fun e => HNE.out.2 e.symm)).trans HZ.out.2.2.1)
      ·exact (Below.heap_setCell _ _ _ _ (fun e => HNE.out.1 e.symm)).trans ((Below.heap_setCell _ _ _ _ (fun e => HNE.out.1 e.symm)).trans HZ.out.2.2.2)
    ·obtain rfl : i = N / 2 := by omega
     have hlt3 : ¬ ((N / 2 : Nat) : Int) < ((N / 2 : Nat) : Int) := by omega
     have HR2 : Aside0 (R8 wr g l.reverse) := ⟨by
      have h1 := rvl_full l
      rw [HN.out] at h1
      rw [← h1]
      exact HR.out⟩
     clear hlt2 hi
     go_wp2_with fail
     exact ⟨HR2.out, HX.out⟩
end
section
open Go.Lib Go.Proofs.YtnjbinpbkjdjpaaGreatDoorW.PrintLast Go.Proofs.YtnjbinpbkjdjpaaGreatDoorW.PrintMore Go.Proofs.YtnjbinpbkjdjpaaGreatDoorW.PrintWords Go.RowKit Go.Shelf
theorem index_end {c : UInt8} : ∀ (l r : List UInt8), c ∉ l → Lib.index (l ++ c :: r) [c] = (l.length : Int)
 | [], r, _ => by simp [Lib.index, List.isPrefixOf]
 | d :: l, r, h => by
   have h1 : c ≠ d := fun e => h (by simp [e])
   have h2 : c ∉ l := fun e => h (by simp [e])
   have ih := index_end l r h2
   show Lib.index (d :: (l ++ c :: r)) [c] = _
   unfold Lib.index
   have hp : List.isPrefixOf [c] (d :: (l ++ c :: r)) = false := by simp [List.isPrefixOf, h1]
   rw [hp, ih]
   have hn : (((l.length : Nat) : Int) == -1) = false := by rw [beq_eq_false_iff_ne]; omega
   simp [hn]
theorem byte_none {c : UInt8} : ∀ (l : List UInt8), c ∉ l → Lib.indexByte l c = -1
 | [], _ => rfl
 | d :: l, h => by
   have h1 : d ≠ c := fun e => h (by simp [e])
   have h2 : c ∉ l := fun e => h (by simp [e])
   unfold Lib.indexByte
   rw [byte_none l h2]
   simp [h1]
theorem cut_append {c : UInt8} (l r : List UInt8) (h : c ∉ l) : Lib.cut (l ++ c :: r) [c] = (l, r, true) := by
 unfold Lib.cut
 rw [index_end l r h, if_pos (by omega)]
 simp
theorem cut_join {c : UInt8} {s : List UInt8} (h : (Lib.cut s [c]).2.2 = true) : s = (Lib.cut s [c]).1 ++ c :: (Lib.cut s [c]).2.1 := by
 unfold Lib.cut at *
 rcases Lib.index_spec s [c] with ⟨h1, _⟩ | ⟨i, h1, h2, h3, _⟩
 ·rw [h1] at h
  exact absurd h (by simp)
 ·rw [h1, if_pos (by omega)]
  show s = s.take i ++ c :: s.drop (i + 1)
  unfold Lib.occAt at h3
  cases hd : s.drop i with
  | nil => rw [hd] at h3; simp [List.isPrefixOf] at h3
  | cons d t =>
    rw [hd] at h3
    have hc : c = d := by simpa [List.isPrefixOf] using h3
    subst hc
    have ht : s.drop (i + 1) = t := by rw [← List.drop_drop, hd]; rfl
    rw [ht, ← hd, List.take_append_drop]
def frS (p q : Int) : ByteArray := strI p ++ ⟨#[47]⟩ ++ strI q
theorem frS_list (p q : Int) : (frS p q).data.toList = (strI p).data.toList ++ 47 :: (strI q).data.toList := by
 unfold frS
 simp
theorem no47 (x : Int) : (47 : UInt8) ∉ (strI x).data.toList := by
 rw [show (strI x).data.toList = Lib.itoa x from rfl, itoa_abs]
 intro h
 rcases List.mem_append.1 h with h | h
 ·split at h <;> simp at h
 ·have := dec_digits x.natAbs 47 h
  revert this
  decide
theorem fr_cut (p q : Int) : cutA 47 (frS p q) = strI p ∧ cutB 47 (frS p q) = strI q ∧ cutF 47 (frS p q) = true := by
 unfold cutA cutB cutF
 rw [frS_list, cut_append _ _ (no47 p)]
 exact ⟨rfl, rfl, rfl⟩
theorem fr_check {p q : Int} (hp : Dig 120 p) (hq : Dig 120 q) (h0 : 0 < q) (hg : Int.gcd p q = 1) : checkR (frS p q) = 0 ∧ numR (frS p q) = p ∧ denR (frS p q) = q := by
 obtain ⟨h1, h2, h3⟩ := fr_cut p q
 have hn : numR (frS p q) = p := by unfold numR; rw [h1, (strI_check hp).2]
 have hd : denR (frS p q) = q := by unfold denR; rw [h2, (strI_check hq).2]
 refine ⟨?_, hn, hd⟩
 have hb : hasB 47 (strI q) = false := by unfold hasB; rw [byte_none _ (no47 q)]; rfl
 unfold checkR
 rw [hn, hd, h1, h2, h3, hb, (strI_check hp).1, (strI_check hq).1, if_neg (by simp), if_neg (show ¬ firstI [0, 0] ≠ 0 by decide), if_neg (by omega)]
theorem fr_of {s : ByteArray} (h : checkR s = 0) : s = frS (numR s) (denR s) := by
 obtain ⟨h1, h2, h3, h4⟩ := checkR_ok h
 have hf : cutF 47 s = true := by
  unfold checkR at h
  split at h
  ·omega
  ·rename_i h5
   cases hc : cutF 47 s
   ·exact absurd (.inl hc) h5
   ·rfl
 have hj := cut_join (s := s.data.toList) (c := 47) hf
 have e1 : strI (numR s) = cutA 47 s := strI_intI h1
 have e2 : strI (denR s) = cutB 47 s := strI_intI h2
 have e : s.data.toList = (frS (numR s) (denR s)).data.toList := by
  rw [frS_list, e1, e2]
  exact hj
 apply ByteArray.ext
 exact Array.toList_inj.1 e
theorem low_facts {y z : Int} (hz : z ≠ 0) : ∃ P Q : Int, y / lowD y z = P ∧ z / lowD y z = Q ∧ P * lowD y z = y ∧ Q * lowD y z = z ∧ 0 < Q ∧ Int.gcd P Q = 1 := by
 have hd := lowD_ne (p := y) hz
 have ha := lowD_abs y z
 have d1 : lowD y z ∣ y := Int.natAbs_dvd_natAbs.1 (by rw [ha]; exact Nat.gcd_dvd_left _ _)
 have d2 : lowD y z ∣ z := Int.natAbs_dvd_natAbs.1 (by rw [ha]; exact Nat.gcd_dvd_right _ _)
 have k1 : y / lowD y z * lowD y z = y := Int.ediv_mul_cancel d1
 have k2 : z / lowD y z * lowD y z = z := Int.ediv_mul_cancel d2
 have hs := lowD_neg (p := y) hz
 refine ⟨_, _, rfl, rfl, k1, k2, ?_, ?_⟩
 ·generalize z / lowD y z = Q at *
  generalize lowD y z = d at *
  rcases Int.lt_trichotomy Q 0 with h | h | h
  ·exfalso
   rcases Int.lt_or_lt_of_ne hd with h2 | h2
   ·have h3 : z < 0 := by simpa [h2] using hs
    have := Int.mul_pos_of_neg_of_neg h h2
    omega
   ·have h3 : ¬ z < 0 := by simpa [show ¬ d < 0 by omega] using hs
    have := Int.mul_neg_of_neg_of_pos h h2
    omega
  ·subst h; simp at k2; omega
  ·exact h
 ·have g1 : y.natAbs = (y / lowD y z).natAbs * Nat.gcd y.natAbs z.natAbs := by rw [← ha, ← Int.natAbs_mul, k1]
  have g2 : z.natAbs = (z / lowD y z).natAbs * Nat.gcd y.natAbs z.natAbs := by rw [← ha, ← Int.natAbs_mul, k2]
  have hg : 0 < Nat.gcd y.natAbs z.natAbs := Nat.gcd_pos_of_pos_right _ (by omega)
  show Nat.gcd (y / lowD y z).natAbs (z / lowD y z).natAbs = 1
  generalize hG : Nat.gcd y.natAbs z.natAbs = G at *
  rw [g1, g2, Nat.gcd_mul_right] at hG
  exact Nat.eq_of_mul_eq_mul_right hg (by rw [hG, Nat.one_mul])
theorem low_unique {p q r s : Int} (hq : 0 < q) (hs : 0 < s) (h1 : Int.gcd p q = 1) (h2 : Int.gcd r s = 1) (h : p * s = r * q) : p = r ∧ q = s := by
 have e : p.natAbs * s.natAbs = r.natAbs * q.natAbs := by rw [← Int.natAbs_mul, h, Int.natAbs_mul]
 have c1 : Nat.Coprime q.natAbs p.natAbs := (Nat.Coprime.symm h1)
 have c2 : Nat.Coprime s.natAbs r.natAbs := (Nat.Coprime.symm h2)
 have d1 : q.natAbs ∣ s.natAbs := c1.dvd_of_dvd_mul_left (by rw [e]; exact Nat.dvd_mul_left _ _)
 have d2 : s.natAbs ∣ q.natAbs := c2.dvd_of_dvd_mul_left (by rw [← e]; exact Nat.dvd_mul_left _ _)
 have e2 : q = s := by have := Nat.dvd_antisymm d1 d2; omega
 subst e2
 exact ⟨Int.eq_of_mul_eq_mul_right (by omega) h, rfl⟩
theorem low_same {y z y' z' : Int} (hz : z ≠ 0) (hz' : z' ≠ 0) (h : y * z' = y' * z) : y / lowD y z = y' / lowD y' z' ∧ z / lowD y z = z' / lowD y' z' := by
 obtain ⟨P, Q, a1, a2, a3, a4, a5, a6⟩ := low_facts (y := y) hz
 obtain ⟨P', Q', b1, b2, b3, b4, b5, b6⟩ := low_facts (y := y') hz'
 rw [a1, a2, b1, b2]
 have hd := lowD_ne (p := y) hz
 have hd' := lowD_ne (p := y') hz'
 refine low_unique a5 b5 a6 b6 ?_
 generalize lowD y z = d at *
 generalize lowD y' z' = d' at *
 refine Int.eq_of_mul_eq_mul_right (a := d * d') (Int.mul_ne_zero hd hd') ?_
 calc P * Q' * (d * d') = (P * d) * (Q' * d') := by ac_rfl
  _ = (P' * d') * (Q * d) := by rw [a3, b4, b3, a4]; exact h
  _ = P' * Q * (d * d') := by ac_rfl
theorem rs_same {y z y' z' : Int} (hz : z ≠ 0) (hz' : z' ≠ 0) (h : y * z' = y' * z) : rsS y z = rsS y' z' ∧ rsE y z = rsE y' z' := by
 obtain ⟨h1, h2⟩ := low_same hz hz' h
 unfold rsS rsE
 rw [h1, h2]
 exact ⟨rfl, rfl⟩
theorem Dig.of_mul {k : Nat} {P d y : Int} (hy : Dig k y) (hd : d ≠ 0) (h : P * d = y) : Dig k P := by
 unfold Dig at *
 refine Nat.lt_of_le_of_lt ?_ hy
 rw [← h, Int.natAbs_mul]
 exact Nat.le_mul_of_pos_right _ (by omega)
theorem mul_swap {P Q d y z : Int} (a3 : P * d = y) (a4 : Q * d = z) : P * z = y * Q := by
 subst a3 a4
 ac_rfl
theorem rs_ok {y z : Int} (hy : Dig 120 y) (hz : Dig 120 z) (h0 : z ≠ 0) : ∃ P Q : Int, rsS y z = frS P Q ∧ rsE y z = 0 ∧ P * z = y * Q ∧ 0 < Q ∧ Int.gcd P Q = 1 ∧ Dig 120 P ∧ Dig 120 Q := by
 obtain ⟨P, Q, a1, a2, a3, a4, a5, a6⟩ := low_facts (y := y) h0
 have hd := lowD_ne (p := y) h0
 have dP := hy.of_mul hd a3
 have dQ := hz.of_mul hd a4
 refine ⟨P, Q, ?_, ?_, ?_, a5, a6, dP, dQ⟩
 ·unfold rsS ftS ftE
  rw [a1, a2, (wr_dig dP).1, (wr_dig dP).2, (wr_dig dQ).1, (wr_dig dQ).2, if_pos (by decide)]
  rfl
 ·unfold rsE ftE
  rw [a1, a2, (wr_dig dP).1, (wr_dig dQ).1]
  decide
 ·exact mul_swap a3 a4
end
section
open Go.Proofs.YtnjbinpbkjdjpaaGreatDoorW.PrintLast Go.Proofs.YtnjbinpbkjdjpaaGreatDoorW.PrintMore Go.Proofs.YtnjbinpbkjdjpaaGreatDoorW.PrintWords Go.RowKit Go.Shelf
theorem nil_app (x : ByteArray) : (⟨#[]⟩ : ByteArray) ++ x = x := by apply ByteArray.ext; simp
/-- A number with its sign. -/
def sgI (s : Bool) (p : Nat) : Int := if s then -(p : Int) else p
theorem sgI_abs (s : Bool) (p : Nat) : (sgI s p).natAbs = p := by unfold sgI; cases s <;> simp
theorem frS_sg (s : Bool) (p q : Nat) : frS (sgI s p) q = (if s = true ∧ 0 < p then ⟨#[45]⟩ else ⟨#[]⟩) ++ (⟨(Lib.decDigits p).toArray⟩ ++ ⟨#[47]⟩ ++ ⟨(Lib.decDigits q).toArray⟩) := by
 apply ByteArray.ext
 apply Array.toList_inj.1
 have hq : (strI (q : Int)).data.toList = Lib.decDigits q := by
  rw [show (strI (q : Int)).data.toList = Lib.itoa (q : Int) from rfl, itoa_abs, if_neg (by omega)]; simp
 have hp : (strI (sgI s p)).data.toList = (if s = true ∧ 0 < p then [45] else []) ++ Lib.decDigits p := by
  rw [show (strI (sgI s p)).data.toList = Lib.itoa (sgI s p) from rfl, itoa_abs, sgI_abs]
  congr 1
  unfold sgI
  cases s
  ·rw [if_neg (by simp), if_neg (by simp)]
  ·by_cases h : 0 < p
   ·rw [if_pos (by simp; omega), if_pos ⟨rfl, h⟩]
   ·rw [if_neg (by simp; omega), if_neg (by simp [h])]
 rw [frS_list, hp, hq]
 split <;> simp
theorem Sz.dec {k n : Nat} (h : Sz k n) : (⟨(Lib.decDigits n).toArray⟩ : ByteArray).size ≤ k + 1 := by
 show (Lib.decDigits n).toArray.size ≤ _
 rw [List.size_toArray]
 rcases Nat.eq_zero_or_pos n with h0 | h0
 ·subst h0; rw [dec_small (by omega)]; simp
 ·rw [dec_length h0]; have := h.dg10; omega
theorem qString_calls {w : World} {s : Bool} {A1 A2 : Option Addr} {L1 c1 L2 c2 p q : Nat} (h : N2 w A1 L1 c1 p A2 L2 c2 q) (hp : Sz 200000 p) (hq : Sz 200000 q) (h0 : 0 < q) :
 Calls Tryz.prog 76 #[qV s A1 L1 c1 A2 L2 c2] w fun e w' => e = .returned (.string (frS (sgI s (p / Nat.gcd p q)) (q / Nat.gcd p q : Nat))) ∧ Below w.heap.size w w' := by
 have hg0 : 0 < Nat.gcd p q := Nat.gcd_pos_of_pos_right _ h0
 have hgs : Sz 200000 (Nat.gcd p q) := hq.le (Nat.gcd_le_right _ h0)
 have HGC : Aside0 (∀ W, N2 W A1 L1 c1 p A2 L2 c2 q → Calls Tryz.prog 141 #[.slice A1 L1 c1, .slice A2 L2 c2] W fun e w' => RN W (Nat.gcd p q) e w') := ⟨fun W h => natGcd_calls h.m1 h.m2 (Nat.le_trans (h.m1.sz hp) (by omega)) (Nat.le_trans (h.m2.sz hq) (by omega))⟩
 have HD1 : Aside0 (∀ W A L c, NN W A1 L1 c1 p → NN W A L c (Nat.gcd p q) → Calls Tryz.prog 142 #[.slice A1 L1 c1, .slice A L c] W fun e w' => DivN W (p / Nat.gcd p q) (p % Nat.gcd p q) e w') := ⟨fun W A L c h h' => natDiv_calls h h' (Nat.le_trans (h.sz hp) (by omega)) (Nat.le_trans (h'.sz hgs) (by omega)) hg0⟩
 have HD2 : Aside0 (∀ W A L c, NN W A2 L2 c2 q → NN W A L c (Nat.gcd p q) → Calls Tryz.prog 142 #[.slice A2 L2 c2, .slice A L c] W fun e w' => DivN W (q / Nat.gcd p q) (q % Nat.gcd p q) e w') := ⟨fun W A L c h h' => natDiv_calls h h' (Nat.le_trans (h.sz hq) (by omega)) (Nat.le_trans (h'.sz hgs) (by omega)) hg0⟩
 have hs1 := hp.le (Nat.div_le_self p (Nat.gcd p q))
 have hs2 := hq.le (Nat.div_le_self q (Nat.gcd p q))
 have HS1 : Aside0 (∀ W A L c, NN W A L c (p / Nat.gcd p q) → Calls Tryz.prog 143 #[.slice A L c] W fun e w' => e = .returned (.string ⟨(Lib.decDigits (p / Nat.gcd p q)).toArray⟩) ∧ Below W.heap.size W w') := ⟨fun W A L c h => natString_calls h hs1⟩
 have HS2 : Aside0 (∀ W A L c, NN W A L c (q / Nat.gcd p q) → Calls Tryz.prog 143 #[.slice A L c] W fun e w' => e = .returned (.string ⟨(Lib.decDigits (q / Nat.gcd p q)).toArray⟩) ∧ Below W.heap.size W w') := ⟨fun W A L c h => natString_calls h hs2⟩
 have z1 := hs1.dec
 have z2 := hs2.dec
 have HO := Aside0.mk (QF.new w _ rfl s A1 L1 c1 A2 L2 c2)
 have HB := Aside0.mk (below_alloc (Below.refl w.heap.size w) (.cells #[.bool s, .slice A1 L1 c1, .slice A2 L2 c2] 102))
 have HM := Aside0.mk (h.below (below_alloc (Below.refl _ _) (.cells #[.bool s, .slice A1 L1 c1, .slice A2 L2 c2] 102)))
 rw [frS_sg]
 clear h hp hq h0 hg0 hgs hs1 hs2
 unfold RN DivN at *
 unfold qV
 generalize p / Nat.gcd p q = P at *
 generalize q / Nat.gcd p q = Q at *
 generalize p % Nat.gcd p q = P2 at *
 generalize q % Nat.gcd p q = Q2 at *
 generalize Nat.gcd p q = G at *
 generalize (⟨(Lib.decDigits P).toArray⟩ : ByteArray) = a at *
 generalize (⟨(Lib.decDigits Q).toArray⟩ : ByteArray) = b at *
 have q0 := HO.out.cell0
 have q1 := HO.out.cell1
 have q2 := HO.out.cell2
 cases s
 ·rw [if_neg (by simp)]
  go_enter Tryz.func76, Tryz.ntmps76
  go_wp2_with (first | (go_at_call 141; (with_reducible refine (HGC.out _ HM.out).mono ?_); rintro e W1 ⟨A3, k3, d3, rfl, hm, hbx⟩; have HO2 := Aside0.mk (HO.out.below hbx); have HB2 := Aside0.mk (HB.out.trans (hbx.mono HB.out.size)); have HM2 := Aside0.mk (HM.out.below hbx); clear HO HB HM; have HO := HO2; have HB := HB2; have HM := HM2; clear HO2 HB2 HM2 q0 q1 q2; have q0 := HO.out.cell0; have q1 := HO.out.cell1; have q2 := HO.out.cell2; have HG := Aside0.mk hm; clear hm hbx) | (go_at_call 142; (with_reducible refine (HD1.out _ _ _ _ HM.out.m1 HG.out).mono ?_); rintro e W2 ⟨A4, k4, d4, A5, k5, d5, rfl, hm, _, hbx, _⟩; have HO2 := Aside0.mk (HO.out.below hbx); have HB2 := Aside0.mk (HB.out.trans (hbx.mono HB.out.size)); have HM2 := Aside0.mk (HM.out.below hbx); clear HO HB HM; have HO := HO2; have HB := HB2; have HM := HM2; clear HO2 HB2 HM2 q0 q1 q2; have q0 := HO.out.cell0; have q1 := HO.out.cell1; have q2 := HO.out.cell2; have HG2 := Aside0.mk (HG.out.below hbx); clear HG; have HG := HG2; clear HG2; have HP := Aside0.mk hm; clear hm hbx) | (go_at_call 142; (with_reducible refine (HD2.out _ _ _ _ HM.out.m2 HG.out).mono ?_); rintro e W3 ⟨A6, k6, d6, A7, k7, d7, rfl, hm, _, hbx, _⟩; have HO2 := Aside0.mk (HO.out.below hbx); have HB2 := Aside0.mk (HB.out.trans (hbx.mono HB.out.size)); have HM2 := Aside0.mk (HM.out.below hbx); clear HO HB HM; have HO := HO2; have HB := HB2; have HM := HM2; clear HO2 HB2 HM2 q0 q1 q2; have q0 := HO.out.cell0; have q1 := HO.out.cell1; have q2 := HO.out.cell2; have HP2 := Aside0.mk (HP.out.below hbx); clear HP; have HP := HP2; clear HP2; have HQ := Aside0.mk hm; have hz4 := HP.out.len_zero; clear hm hbx) | (go_at_call 143; (with_reducible refine (HS1.out _ _ _ _ HP.out).mono ?_); rintro e W4 ⟨rfl, hbx⟩; have HO2 := Aside0.mk (HO.out.below hbx); have HB2 := Aside0.mk (HB.out.trans (hbx.mono HB.out.size)); have HM2 := Aside0.mk (HM.out.below hbx); clear HO HB HM; have HO := HO2; have HB := HB2; have HM := HM2; clear HO2 HB2 HM2 q0 q1 q2; have q0 := HO.out.cell0; have q1 := HO.out.cell1; have q2 := HO.out.cell2; have HQ2 := Aside0.mk (HQ.out.below hbx); clear HQ; have HQ := HQ2; clear HQ2 hbx) | (go_at_call 143; (with_reducible refine (HS2.out _ _ _ _ HQ.out).mono ?_); rintro e W5 ⟨rfl, hbx⟩; have HO2 := Aside0.mk (HO.out.below hbx); have HB2 := Aside0.mk (HB.out.trans (hbx.mono HB.out.size)); have HM2 := Aside0.mk (HM.out.below hbx); clear HO HB HM; have HO := HO2; have HB := HB2; have HM := HM2; clear HO2 HB2 HM2 q0 q1 q2; have q0 := HO.out.cell0; have q1 := HO.out.cell1; have q2 := HO.out.cell2; clear hbx))
  go_ret
  exact ⟨by rw [nil_app]; rfl, HB.out⟩
 ·by_cases hP : 0 < P
  ·rw [if_pos ⟨rfl, hP⟩]
   go_enter Tryz.func76, Tryz.ntmps76
   go_wp2_with (first | (go_at_call 141; (with_reducible refine (HGC.out _ HM.out).mono ?_); rintro e W1 ⟨A3, k3, d3, rfl, hm, hbx⟩; have HO2 := Aside0.mk (HO.out.below hbx); have HB2 := Aside0.mk (HB.out.trans (hbx.mono HB.out.size)); have HM2 := Aside0.mk (HM.out.below hbx); clear HO HB HM; have HO := HO2; have HB := HB2; have HM := HM2; clear HO2 HB2 HM2 q0 q1 q2; have q0 := HO.out.cell0; have q1 := HO.out.cell1; have q2 := HO.out.cell2; have HG := Aside0.mk hm; clear hm hbx) | (go_at_call 142; (with_reducible refine (HD1.out _ _ _ _ HM.out.m1 HG.out).mono ?_); rintro e W2 ⟨A4, k4, d4, A5, k5, d5, rfl, hm, _, hbx, _⟩; have HO2 := Aside0.mk (HO.out.below hbx); have HB2 := Aside0.mk (HB.out.trans (hbx.mono HB.out.size)); have HM2 := Aside0.mk (HM.out.below hbx); clear HO HB HM; have HO := HO2; have HB := HB2; have HM := HM2; clear HO2 HB2 HM2 q0 q1 q2; have q0 := HO.out.cell0; have q1 := HO.out.cell1; have q2 := HO.out.cell2; have HG2 := Aside0.mk (HG.out.below hbx); clear HG; have HG := HG2; clear HG2; have HP := Aside0.mk hm; clear hm hbx) | ((go_at_call 142; (with_reducible refine (HD2.out _ _ _ _ HM.out.m2 HG.out).mono ?_); rintro e W3 ⟨A6, k6, d6, A7, k7, d7, rfl, hm, _, hbx, _⟩; have HO2 := Aside0.mk (HO.out.below hbx); have HB2 := Aside0.mk (HB.out.trans (hbx.mono HB.out.size)); have HM2 := Aside0.mk (HM.out.below hbx); clear HO HB HM; have HO := HO2; have HB := HB2; have HM := HM2; clear HO2 HB2 HM2 q0 q1 q2; have q0 := HO.out.cell0; have q1 := HO.out.cell1; have q2 := HO.out.cell2; have HP2 := Aside0.mk (HP.out.below hbx); clear HP; have HP := HP2; clear HP2; have HQ := Aside0.mk hm; have hz4 := HP.out.len_zero; clear hm hbx); have hk4 : (0 : Int) < (k4 : Int) := (by omega)) | (go_at_call 143; (with_reducible refine (HS1.out _ _ _ _ HP.out).mono ?_); rintro e W4 ⟨rfl, hbx⟩; have HO2 := Aside0.mk (HO.out.below hbx); have HB2 := Aside0.mk (HB.out.trans (hbx.mono HB.out.size)); have HM2 := Aside0.mk (HM.out.below hbx); clear HO HB HM; have HO := HO2; have HB := HB2; have HM := HM2; clear HO2 HB2 HM2 q0 q1 q2; have q0 := HO.out.cell0; have q1 := HO.out.cell1; have q2 := HO.out.cell2; have HQ2 := Aside0.mk (HQ.out.below hbx); clear HQ; have HQ := HQ2; clear HQ2 hbx) | (go_at_call 143; (with_reducible refine (HS2.out _ _ _ _ HQ.out).mono ?_); rintro e W5 ⟨rfl, hbx⟩; have HO2 := Aside0.mk (HO.out.below hbx); have HB2 := Aside0.mk (HB.out.trans (hbx.mono HB.out.size)); have HM2 := Aside0.mk (HM.out.below hbx); clear HO HB HM; have HO := HO2; have HB := HB2; have HM := HM2; clear HO2 HB2 HM2 q0 q1 q2; have q0 := HO.out.cell0; have q1 := HO.out.cell1; have q2 := HO.out.cell2; clear hbx))
   go_ret
   exact ⟨by simp, HB.out⟩
  ·rw [if_neg (by simp [hP])]
   go_enter Tryz.func76, Tryz.ntmps76
   go_wp2_with (first | (go_at_call 141; (with_reducible refine (HGC.out _ HM.out).mono ?_); rintro e W1 ⟨A3, k3, d3, rfl, hm, hbx⟩; have HO2 := Aside0.mk (HO.out.below hbx); have HB2 := Aside0.mk (HB.out.trans (hbx.mono HB.out.size)); have HM2 := Aside0.mk (HM.out.below hbx); clear HO HB HM; have HO := HO2; have HB := HB2; have HM := HM2; clear HO2 HB2 HM2 q0 q1 q2; have q0 := HO.out.cell0; have q1 := HO.out.cell1; have q2 := HO.out.cell2; have HG := Aside0.mk hm; clear hm hbx) | (go_at_call 142; (with_reducible refine (HD1.out _ _ _ _ HM.out.m1 HG.out).mono ?_); rintro e W2 ⟨A4, k4, d4, A5, k5, d5, rfl, hm, _, hbx, _⟩; have HO2 := Aside0.mk (HO.out.below hbx); have HB2 := Aside0.mk (HB.out.trans (hbx.mono HB.out.size)); have HM2 := Aside0.mk (HM.out.below hbx); clear HO HB HM; have HO := HO2; have HB := HB2; have HM := HM2; clear HO2 HB2 HM2 q0 q1 q2; have q0 := HO.out.cell0; have q1 := HO.out.cell1; have q2 := HO.out.cell2; have HG2 := Aside0.mk (HG.out.below hbx); clear HG; have HG := HG2; clear HG2; have HP := Aside0.mk hm; clear hm hbx) | ((go_at_call 142; (with_reducible refine (HD2.out _ _ _ _ HM.out.m2 HG.out).mono ?_); rintro e W3 ⟨A6, k6, d6, A7, k7, d7, rfl, hm, _, hbx, _⟩; have HO2 := Aside0.mk (HO.out.below hbx); have HB2 := Aside0.mk (HB.out.trans (hbx.mono HB.out.size)); have HM2 := Aside0.mk (HM.out.below hbx); clear HO HB HM; have HO := HO2; have HB := HB2; have HM := HM2; clear HO2 HB2 HM2 q0 q1 q2; have q0 := HO.out.cell0; have q1 := HO.out.cell1; have q2 := HO.out.cell2; have HP2 := Aside0.mk (HP.out.below hbx); clear HP; have HP := HP2; clear HP2; have HQ := Aside0.mk hm; have hz4 := HP.out.len_zero; clear hm hbx); have hk4 : ¬ (0 : Int) < (k4 : Int) := (by omega)) | (go_at_call 143; (with_reducible refine (HS1.out _ _ _ _ HP.out).mono ?_); rintro e W4 ⟨rfl, hbx⟩; have HO2 := Aside0.mk (HO.out.below hbx); have HB2 := Aside0.mk (HB.out.trans (hbx.mono HB.out.size)); have HM2 := Aside0.mk (HM.out.below hbx); clear HO HB HM; have HO := HO2; have HB := HB2; have HM := HM2; clear HO2 HB2 HM2 q0 q1 q2; have q0 := HO.out.cell0; have q1 := HO.out.cell1; have q2 := HO.out.cell2; have HQ2 := Aside0.mk (HQ.out.below hbx); clear HQ; have HQ := HQ2; clear HQ2 hbx) | (go_at_call 143; (with_reducible refine (HS2.out _ _ _ _ HQ.out).mono ?_); rintro e W5 ⟨rfl, hbx⟩; have HO2 := Aside0.mk (HO.out.below hbx); have HB2 := Aside0.mk (HB.out.trans (hbx.mono HB.out.size)); have HM2 := Aside0.mk (HM.out.below hbx); clear HO HB HM; have HO := HO2; have HB := HB2; have HM := HM2; clear HO2 HB2 HM2 q0 q1 q2; have q0 := HO.out.cell0; have q1 := HO.out.cell1; have q2 := HO.out.cell2; clear hbx))
   go_ret
   exact ⟨by rw [nil_app]; rfl, HB.out⟩
theorem qText_calls {w : World} {s : Bool} {A1 A2 : Option Addr} {L1 c1 L2 c2 p q : Nat} (h : N2 w A1 L1 c1 p A2 L2 c2 q) (hp : Sz 40000 p) (hq : Sz 40000 q) (h0 : 0 < q) (hE : EN w) :
 Calls Tryz.prog 81 #[qV s A1 L1 c1 A2 L2 c2] w fun e w' => e = .returned (.tuple #[.string (ftS (sgI s (p / Nat.gcd p q)) (q / Nat.gcd p q : Nat)), .int .i64 (ftE (sgI s (p / Nat.gcd p q)) (q / Nat.gcd p q : Nat))]) ∧ Below w.heap.size w w' := by
 have hb := below_alloc (Below.refl w.heap.size w) (.cells #[.bool s, .slice A1 L1 c1, .slice A2 L2 c2] 102)
 have HS := Aside0.mk (qString_calls (s := s) (h.below hb) (hp.more (by omega)) (hq.more (by omega)) h0)
 have hs1 := (hp.le (Nat.div_le_self p (Nat.gcd p q))).dec
 have hs2 := (hq.le (Nat.div_le_self q (Nat.gcd p q))).dec
 have hEb := hE.below hb
 have HO := QF.new w _ rfl s A1 L1 c1 A2 L2 c2
 have x0 := HO.cell0
 have x1 := HO.cell1
 have x2 := HO.cell2
 clear h hp hq h0
 unfold qV at *
 generalize p / Nat.gcd p q = P at *
 generalize q / Nat.gcd p q = Q at *
 obtain ⟨X, hX⟩ : ∃ X, sgI s P = X := ⟨_, rfl⟩
 have hXa : X.natAbs = P := by rw [← hX]; exact sgI_abs s P
 rw [hX] at HS
 rw [hX]
 obtain ⟨f1, f2, f3⟩ := fr_cut X (Q : Int)
 obtain ⟨b1, b2, b3⟩ := cut_body (frS X (Q : Int))
 have e1 : cutA 47 (bodyB (frS X (Q : Int))) = ⟨(Lib.decDigits P).toArray⟩ := by
  rw [b1, f1]
  show (⟨(Lib.trimPrefix (Lib.itoa X) [45]).toArray⟩ : ByteArray) = _
  rw [trim_itoa, hXa]
 have e2 : cutB 47 (bodyB (frS X (Q : Int))) = ⟨(Lib.decDigits Q).toArray⟩ := by
  rw [b2, f2]
  show (⟨(Lib.itoa (Q : Int)).toArray⟩ : ByteArray) = _
  rw [itoa_abs, if_neg (by omega)]; simp
 have l1 : lenI X = (⟨(Lib.decDigits P).toArray⟩ : ByteArray).size := by
  unfold lenI; rw [hXa]
  show _ = (Lib.decDigits P).toArray.size
  simp
 have l2 : lenI (Q : Int) = (⟨(Lib.decDigits Q).toArray⟩ : ByteArray).size := by
  unfold lenI
  show _ = (Lib.decDigits Q).toArray.size
  simp
 have HT : Aside0 (∀ W, Calls Tryz.prog 147 #[.string (frS X (Q : Int)), .string ⟨#[45]⟩] W fun e w' => e = .returned (.string (bodyB (frS X (Q : Int)))) ∧ w' = W) := ⟨fun W => Tryz.strings_TrimPrefix (frS X (Q : Int)) ⟨#[45]⟩ W⟩
 have zb := bodyB_size (frS X (Q : Int))
 have zf : (frS X (Q : Int)).size ≤ 90000 := by
  rw [← hX, frS_sg]
  have k : ∀ (x y : ByteArray), (x ++ y).size = x.size + y.size := fun x y => ByteArray.size_append
  rw [k, k, k]
  have : (if s = true ∧ 0 < P then (⟨#[45]⟩ : ByteArray) else ⟨#[]⟩).size ≤ 1 := by split <;> decide
  have : (⟨#[47]⟩ : ByteArray).size = 1 := rfl
  omega
 have HC : Aside0 (∀ W, Below (w.alloc (.cells #[.bool s, .slice A1 L1 c1, .slice A2 L2 c2] 102)).heap.size (w.alloc (.cells #[.bool s, .slice A1 L1 c1, .slice A2 L2 c2] 102)) W → Calls Tryz.prog 121 #[.string (bodyB (frS X (Q : Int))), .string ⟨#[47]⟩] W fun e w' => e = .returned (.tuple #[.string (cutA 47 (bodyB (frS X (Q : Int)))), .string (cutB 47 (bodyB (frS X (Q : Int)))), .bool (cutF 47 (bodyB (frS X (Q : Int))))]) ∧ Below W.heap.size W w') := ⟨fun W hb => cut1_calls 47 (bodyB (frS X (Q : Int))) (by omega) W (hEb.below hb)⟩
 rw [e1, e2] at HC
 have HR : Aside0 (ftS X (Q : Int) = (if 120 < lenI X ∨ 120 < lenI (Q : Int) then ⟨#[]⟩ else frS X (Q : Int)) ∧ ftE X (Q : Int) = (if 120 < lenI X ∨ 120 < lenI (Q : Int) then 4 else 0)) := ⟨by
  unfold ftS ftE wrE wrS
  by_cases c1 : 120 < lenI X <;> by_cases c2 : 120 < lenI (Q : Int) <;> simp [c1, c2, firstI, frS]⟩
 rw [HR.out.1, HR.out.2, l1, l2]
 clear hE hEb HO HR f1 f2 f3 b1 b2 b3 e1 e2 l1 l2 zb zf hX hXa
 generalize frS X (Q : Int) = S at *
 generalize bodyB S = T at *
 generalize cutF 47 T = f at *
 generalize (⟨(Lib.decDigits P).toArray⟩ : ByteArray) = a at *
 generalize (⟨(Lib.decDigits Q).toArray⟩ : ByteArray) = b at *
 have HB := Aside0.mk hb
 clear hb
 by_cases c1 : 120 < a.size
 ·rw [if_pos (.inl c1), if_pos (.inl c1)]
  have c1' : (120 : Int) < (a.size : Int) := by omega
  go_enter Tryz.func81, Tryz.ntmps81
  go_wp2_with (first
   | (go_at_call 76; (with_reducible refine (HS.out).mono ?_); rintro e W1 ⟨rfl, hb1⟩)
   | (go_at_call 147; (with_reducible refine (HT.out _).mono ?_); rintro e W2 ⟨rfl, hww⟩; rw [hww]; clear hww)
   | (go_at_call 121; (with_reducible refine (HC.out _ hb1).mono ?_); rintro e W3 ⟨rfl, hb3⟩))
  go_ret2
  exact ⟨rfl, HB.out.trans ((hb1.trans (hb3.mono hb1.size)).mono HB.out.size)⟩
 ·have c1' : ¬ (120 : Int) < (a.size : Int) := by omega
  by_cases c2 : 120 < b.size
  ·rw [if_pos (.inr c2), if_pos (.inr c2)]
   have c2' : (120 : Int) < (b.size : Int) := by omega
   go_enter Tryz.func81, Tryz.ntmps81
   go_wp2_with (first
    | (go_at_call 76; (with_reducible refine (HS.out).mono ?_); rintro e W1 ⟨rfl, hb1⟩)
    | (go_at_call 147; (with_reducible refine (HT.out _).mono ?_); rintro e W2 ⟨rfl, hww⟩; rw [hww]; clear hww)
    | (go_at_call 121; (with_reducible refine (HC.out _ hb1).mono ?_); rintro e W3 ⟨rfl, hb3⟩))
   go_ret2
   exact ⟨rfl, HB.out.trans ((hb1.trans (hb3.mono hb1.size)).mono HB.out.size)⟩
  ·rw [if_neg (by omega), if_neg (by omega)]
   have c2' : ¬ (120 : Int) < (b.size : Int) := by omega
   go_enter Tryz.func81, Tryz.ntmps81
   go_wp2_with (first
    | (go_at_call 76; (with_reducible refine (HS.out).mono ?_); rintro e W1 ⟨rfl, hb1⟩)
    | (go_at_call 147; (with_reducible refine (HT.out _).mono ?_); rintro e W2 ⟨rfl, hww⟩; rw [hww]; clear hww)
    | (go_at_call 121; (with_reducible refine (HC.out _ hb1).mono ?_); rintro e W3 ⟨rfl, hb3⟩))
   go_ret2
   exact ⟨rfl, HB.out.trans ((hb1.trans (hb3.mono hb1.size)).mono HB.out.size)⟩
end
section
open Go.Proofs.YtnjbinpbkjdjpaaGreatDoor.Rf Go.Proofs.YtnjbinpbkjdjpaaGreatDoorW.PrintLast Go.Proofs.YtnjbinpbkjdjpaaGreatDoorW.PrintMore Go.Proofs.YtnjbinpbkjdjpaaGreatDoorW.PrintWords Go.RowKit Go.Shelf
/-- An entry of the map of powers. -/
def PE (W : World) (e : MapEntry) : Prop := ∃ (k : Nat) (A : Option Addr) (L c : Nat), e.key = .int .i64 (k : Int) ∧ e.val = .slice A L c ∧ NN W A L c (2 ^ k)
/-- The map of powers. -/
def PM (W : World) (b : Nat) : Prop := ∃ es ck, W.heap[b]? = some (.map es ck) ∧ ∀ e ∈ es.toList, PE W e
theorem NN.notMap {W : World} {A : Option Addr} {L c n b : Nat} {es : Array MapEntry} {ck : Nat} (h : NN W A L c n) (hb : W.heap[b]? = some (.map es ck)) : ∀ b2, A = some ⟨b2, 0, none⟩ → 0 < L → b2 ≠ b := fun b2 hA h0 e => by
 obtain ⟨b3, hA3, _, hc⟩ := h.addr h0
 rw [hA] at hA3
 injection hA3 with e3
 injection e3 with e3
 subst e3 e
 have := hc 0 h0
 unfold World.cell? at this
 rw [hb] at this
 cases this
theorem NN.step {W X : World} {A : Option Addr} {L c n b : Nat} {es : Array MapEntry} {ck : Nat} (h : NN W A L c n) (hb : W.heap[b]? = some (.map es ck)) (hs : Step [b] W X) : NN X A L c n := by
 have hne := h.notMap hb
 obtain ⟨h0, h1, h3⟩ := h
 refine ⟨h0, h1, fun hL => ?_⟩
 obtain ⟨b2, rfl, hlt, hc⟩ := h3 hL
 exact ⟨b2, rfl, Nat.lt_of_lt_of_le hlt hs.size, fun j hj => (World.cell?_of_block (w := W) (hs.block b2 hlt (by simp; exact hne b2 rfl hL))).trans (hc j hj)⟩
theorem PM.below {W X : World} {b : Nat} (h : PM W b) (hb : Below W.heap.size W X) : PM X b := by
 obtain ⟨es, ck, h1, h2⟩ := h
 exact ⟨es, ck, (hb.block b (Array.getElem?_eq_some_iff.1 h1).1).trans h1, fun e he => by
  obtain ⟨k, A, L, c, g1, g2, g3⟩ := h2 e he
  exact ⟨k, A, L, c, g1, g2, g3.below hb⟩⟩
theorem find_int {W : World} {n : Nat} : ∀ (l : List MapEntry) (i : Nat), (∀ e ∈ l, PE W e) →
 (∃ j A L c, Instr.findNow (.int .i64) (.int .i64 (n : Int)) l i = some (some (j, .slice A L c)) ∧ NN W A L c (2 ^ n)) ∨ Instr.findNow (.int .i64) (.int .i64 (n : Int)) l i = some none
 | [], i, _ => .inr rfl
 | e :: l, i, h => by
   obtain ⟨k, A, L, c, g1, g2, g3⟩ := h e (by simp)
   have ih := find_int (n := n) l (i + 1) (fun e he => h e (List.mem_cons_of_mem _ he))
   unfold Instr.findNow
   rw [g1, g2]
   by_cases hk : k = n
   ·subst hk
    exact .inl ⟨i, A, L, c, by simp [Instr.sameNow], g3⟩
   ·have hb : ((n : Int) == (k : Int)) = false := by rw [beq_eq_false_iff_ne]; omega
    rcases ih with ⟨j, A', L', c', e1, e2⟩ | e1
    ·exact .inl ⟨j, A', L', c', by simp only [Instr.sameNow, if_true, hb]; exact e1, e2⟩
    ·exact .inr (by simp only [Instr.sameNow, if_true, hb]; exact e1)
theorem zero_nat (W : World) : (zeroValue 100).run Tryz.prog W = .ok (.slice none 0 0) W := by kernel_rfl
theorem lookup_found {W : World} {b n : Nat} {es : Array MapEntry} {ck j : Nat} {v : Value} (hb : W.heap[b]? = some (.map es ck)) (h : Instr.findNow (.int .i64) (.int .i64 (n : Int)) es.toList 0 = some (some (j, v))) :
 (Instr.lookup 223 (.map (some b)) (.int .i64 (n : Int)) true).run Tryz.prog W = .ok (.tuple #[v, .bool true]) W := by
 have h2 := MapKept.run_findKey (P := Tryz.prog) (w := W) (kt := 3) Tryz.underlying3 h
 simp [Instr.lookup.eq_1, run_underlying Tryz.underlying223, MapKept.run_getObj_map hb, Result.andThen, MapKept.run_checkKey (P := Tryz.prog) (k := .int .i64 (n : Int)) Tryz.underlying3 (by simp [MapKept.IsKey]), h2]
theorem lookup_none {W : World} {b n : Nat} {es : Array MapEntry} {ck : Nat} (hb : W.heap[b]? = some (.map es ck)) (h : Instr.findNow (.int .i64) (.int .i64 (n : Int)) es.toList 0 = some none) :
 (Instr.lookup 223 (.map (some b)) (.int .i64 (n : Int)) true).run Tryz.prog W = .ok (.tuple #[.slice none 0 0, .bool false]) W := by
 have h2 := MapKept.run_findKey (P := Tryz.prog) (w := W) (kt := 3) Tryz.underlying3 h
 simp [Instr.lookup.eq_1, run_underlying Tryz.underlying223, MapKept.run_getObj_map hb, Result.andThen, MapKept.run_checkKey (P := Tryz.prog) (k := .int .i64 (n : Int)) Tryz.underlying3 (by simp [MapKept.IsKey]), h2, zero_nat]
def wMap (W : World) (b : Nat) (es : Array MapEntry) (ck : Nat) : World := { W with heap := W.heap.setIfInBounds b (.map es ck) }
theorem update_none {W : World} {b n : Nat} {es : Array MapEntry} {ck : Nat} (v : Value) (hb : W.heap[b]? = some (.map es ck)) (h : Instr.findNow (.int .i64) (.int .i64 (n : Int)) es.toList 0 = some none) :
 (Instr.mapUpdate 223 (.map (some b)) (.int .i64 (n : Int)) v).run Tryz.prog W = .ok () (wMap W b (es.push { key := .int .i64 (n : Int), val := v, born := ck }) (ck + 1)) := by
 have h2 := MapKept.run_findKey (P := Tryz.prog) (w := W) (kt := 3) Tryz.underlying3 h
 simp [Instr.mapUpdate, run_underlying Tryz.underlying223, MapKept.run_getObj_map hb, Result.andThen, MapKept.run_checkKey (P := Tryz.prog) (k := .int .i64 (n : Int)) Tryz.underlying3 (by simp [MapKept.IsKey]), h2, setObj, Sem.run, hb, wMap]
theorem wMap_step (W : World) (b : Nat) (es : Array MapEntry) (ck : Nat) : Step [b] W (wMap W b es ck) :=
 ⟨rfl, rfl, rfl, by simp [wMap], fun k hk hne => by
  simp only [List.mem_singleton] at hne
  show (W.heap.setIfInBounds b _)[k]? = _
  rw [Array.getElem?_setIfInBounds_ne (fun e => hne e.symm)]⟩
theorem PM.push {W : World} {b n : Nat} {es : Array MapEntry} {ck : Nat} (hb : W.heap[b]? = some (.map es ck)) (h : ∀ e ∈ es.toList, PE W e) {A : Option Addr} {L c : Nat} (hn : NN W A L c (2 ^ n)) :
 PM (wMap W b (es.push { key := .int .i64 (n : Int), val := .slice A L c, born := ck }) (ck + 1)) b := by
 have hs := wMap_step W b (es.push { key := .int .i64 (n : Int), val := .slice A L c, born := ck }) (ck + 1)
 have hlt := (Array.getElem?_eq_some_iff.1 hb).1
 refine ⟨es.push { key := .int .i64 (n : Int), val := .slice A L c, born := ck }, ck + 1, by simp [wMap, hlt], fun e he => ?_⟩
 simp only [Array.toList_push, List.mem_append, List.mem_singleton] at he
 rcases he with he | rfl
 ·obtain ⟨k, A', L', c', g1, g2, g3⟩ := h e he
  exact ⟨k, A', L', c', g1, g2, g3.step hb hs⟩
 ·exact ⟨n, A, L, c, rfl, rfl, hn.step hb hs⟩
/-- What of answers. -/
def PO (w : World) (b n : Nat) (e : Ending) (w' : World) : Prop := ∃ A k c, e = .returned (.slice A k c) ∧ NN w' A k c (2 ^ n) ∧ PM w' b ∧ Step [b] w w'
theorem of_calls {w : World} {b n : Nat} (h : PM w b) (hn : n ≤ 1000000) :
 Calls Tryz.prog 218 #[.map (some b), .int .i64 (n : Int)] w fun e w' => PO w b n e w' := by
 obtain ⟨es, ck, hb, he⟩ := h
 have HE := Aside0.mk he
 unfold PO
 rcases find_int (W := w) (n := n) es.toList 0 he with ⟨j, A, L, c, h1, h2⟩ | h1
 ·have hlk := lookup_found hb h1
  have HN := Aside0.mk h2
  have HB := Aside0.mk hb
  clear h1 h2 he hb
  go_enter Tryz.func218, Tryz.ntmps218
  go_wp2_with fail
  go_ret
  exact ⟨A, L, c, rfl, HN.out, ⟨es, ck, HB.out, HE.out⟩, Step.refl _ _⟩
 ·have hlk := lookup_none hb h1
  have HF := Aside0.mk h1
  have HB := Aside0.mk hb
  have HSH : Aside0 (∀ (g : Nat) (t : TypeId), g = w.heap.size → Calls Tryz.prog 133 #[.slice (some ⟨g, 0, none⟩) 1 1, .int .i64 (n : Int)] (w.alloc (.cells #[.int .u32 1] t)) fun e w' => ∃ A k c, e = .returned (.slice A k c) ∧ NN w' A k c (2 ^ n) ∧ Below w.heap.size w w') := ⟨fun g t hg => by
   subst hg
   have hb := below_alloc (Below.refl w.heap.size w) (.cells #[.int .u32 1] t)
   refine (shl_calls (nn_one w t) (by omega) n hn).mono ?_
   rintro e w' ⟨A, k, c, rfl, hm, hb2, _⟩
   rw [Nat.one_mul] at hm
   exact ⟨A, k, c, rfl, hm, hb.trans (hb2.mono hb.size)⟩⟩
  clear h1 he hb
  go_enter Tryz.func218, Tryz.ntmps218
  go_wp2_with (go_at_call 133; (with_reducible refine (HSH.out _ _ (by first | rfl | simp)).mono ?_); rintro e W1 ⟨A, k, c, rfl, hm, hbx⟩; have hup := fun v => update_none v ((hbx.block b (Array.getElem?_eq_some_iff.1 HB.out).1).trans HB.out) HF.out; have HM := Aside0.mk hm; have HBX := Aside0.mk hbx; clear hm hbx)
  go_ret
  have hb1 := (HBX.out.block b (Array.getElem?_eq_some_iff.1 HB.out).1).trans HB.out
  have he1 : ∀ e ∈ es.toList, PE W1 e := fun e h => by
   obtain ⟨k, A, L, c, g1, g2, g3⟩ := HE.out e h
   exact ⟨k, A, L, c, g1, g2, g3.below HBX.out⟩
  exact ⟨A, k, c, rfl, HM.out.step hb1 (wMap_step _ _ _ _), PM.push hb1 he1 HM.out, (Step.of_below HBX.out).trans (wMap_step _ _ _ _)⟩
theorem NN.stepM {W X : World} {A : Option Addr} {L c n b : Nat} (h : NN W A L c n) (hb : PM W b) (hs : Step [b] W X) : NN X A L c n := by
 obtain ⟨es, ck, h1, _⟩ := hb
 exact h.step h1 hs
/-- What stands between two rounds and two calls: a fraction's numbers, the map, what was left alone. -/
structure RG (w : World) (b : Nat) (A1 : Option Addr) (L1 c1 p : Nat) (A2 : Option Addr) (L2 c2 q : Nat) (W : World) : Prop where
 n2 : N2 W A1 L1 c1 p A2 L2 c2 q
 pm : PM W b
 st : Step [b] w W
section
variable {w W X : World} {b : Nat} {A1 : Option Addr} {L1 c1 p : Nat} {A2 : Option Addr} {L2 c2 q : Nat}
theorem RG.below (h : RG w b A1 L1 c1 p A2 L2 c2 q W) (hb : Below W.heap.size W X) : RG w b A1 L1 c1 p A2 L2 c2 q X := ⟨h.n2.below hb, h.pm.below hb, h.st.trans (Step.of_below hb)⟩
theorem RG.step (h : RG w b A1 L1 c1 p A2 L2 c2 q W) (hs : Step [b] W X) (hp : PM X b) : RG w b A1 L1 c1 p A2 L2 c2 q X := ⟨⟨h.n2.m1.stepM h.pm hs, h.n2.m2.stepM h.pm hs⟩, hp, h.st.trans hs⟩
end
/-- What ratio answers. -/
def RaO (w : World) (b : Nat) (A1 : Option Addr) (L1 c1 p : Nat) (A2 : Option Addr) (L2 c2 q : Nat) (M R D : Nat) (e : Ending) (w' : World) : Prop :=
 ∃ A k c A' k' c' A'' k'' c'', e = .returned (.tuple #[.slice A k c, .slice A' k' c', .slice A'' k'' c'']) ∧ (NN w' A k c M ∧ NN w' A' k' c' R ∧ NN w' A'' k'' c'' D) ∧ RG w b A1 L1 c1 p A2 L2 c2 q w'
theorem sz_pow {n k : Nat} (h : n < k) : Sz k (2 ^ n) := ⟨Nat.pow_lt_pow_right (by decide) h⟩
theorem ratio_calls {w : World} {s : Bool} {A1 A2 : Option Addr} {L1 c1 L2 c2 p q b : Nat} {E : Int} (h : N2 w A1 L1 c1 p A2 L2 c2 q) (hp : Sz 90000 p) (hq : Sz 90000 q) (h0 : 0 < q) (hm : PM w b)
 (hE : -149 ≤ E) (hE2 : E ≤ 95000) :
 Calls Tryz.prog 186 #[qV s A1 L1 c1 A2 L2 c2, .int .i64 E, .map (some b)] w fun e w' =>
  RaO w b A1 L1 c1 p A2 L2 c2 q (upA E p / upB E q) (upA E p % upB E q) (upB E q) e w' := by
 have hg0 : RG w b A1 L1 c1 p A2 L2 c2 q w := ⟨h, hm, Step.refl _ _⟩
 unfold RaO qV
 rcases Int.lt_or_le E 0 with hneg | hpos
 ·obtain ⟨n, rfl⟩ : ∃ n : Nat, E = -(n : Int) := ⟨(-E).toNat, by omega⟩
  have hA : upA (-(n : Int)) p = p * 2 ^ n := by unfold upA; rw [show (- -(n : Int)).toNat = n by omega]
  have hB : upB (-(n : Int)) q = q := by unfold upB; rw [show (-(n : Int)).toNat = 0 by omega]; omega
  rw [hA, hB]
  have hw : IntKind.i64.wrap (- -(n : Int)) = (n : Int) := by rw [Int.neg_neg]; exact IntWalk.i64_in _ (by omega)
  have hd : decide (-(n : Int) < 0) = true := decide_eq_true hneg
  have hszP : Sz 100000 (2 ^ n) := sz_pow (by omega)
  have hszM : Sz 200000 (p * 2 ^ n) := (hp.more (by omega) : Sz 100000 p).mul hszP
  have HOF : Aside0 (∀ W, Below w.heap.size w W → Calls Tryz.prog 218 #[.map (some b), .int .i64 (n : Int)] W fun e w' => ∃ A k c, e = .returned (.slice A k c) ∧ NN w' A k c (2 ^ n) ∧ RG w b A1 L1 c1 p A2 L2 c2 q w') := ⟨fun W hb => by
   refine (of_calls ((hg0.below hb).pm) (by omega)).mono ?_
   rintro e w' ⟨A, k, c, rfl, h1, h2, h3⟩
   exact ⟨A, k, c, rfl, h1, (hg0.below hb).step h3 h2⟩⟩
  have HMU : Aside0 (∀ W A k c, NN W A k c (2 ^ n) → RG w b A1 L1 c1 p A2 L2 c2 q W → Calls Tryz.prog 173 #[.slice A1 L1 c1, .slice A k c] W fun e w' => ∃ A k c, e = .returned (.slice A k c) ∧ NN w' A k c (p * 2 ^ n) ∧ RG w b A1 L1 c1 p A2 L2 c2 q w') := ⟨fun W A k c h1 h2 => by
   refine ((natMul_at h2.n2.m1 h1 (hp.more (by omega)) hszP).out W (Below.refl _ _)).mono ?_
   rintro e w' ⟨A, k, c, rfl, h3, h4, _⟩
   exact ⟨A, k, c, rfl, h3, h2.below h4⟩⟩
  have HDV : Aside0 (∀ W A k c, NN W A k c (p * 2 ^ n) → RG w b A1 L1 c1 p A2 L2 c2 q W → Calls Tryz.prog 142 #[.slice A k c, .slice A2 L2 c2] W fun e w' => ∃ A k c A' k' c', e = .returned (.tuple #[.slice A k c, .slice A' k' c']) ∧ (NN w' A k c (p * 2 ^ n / q) ∧ NN w' A' k' c' (p * 2 ^ n % q) ∧ NN w' A2 L2 c2 q) ∧ RG w b A1 L1 c1 p A2 L2 c2 q w') := ⟨fun W A k c h1 h2 => by
   refine (natDiv_calls h1 h2.n2.m2 (Nat.le_trans (h1.sz hszM) (by omega)) (Nat.le_trans (h2.n2.m2.sz hq) (by omega)) h0).mono ?_
   rintro e w' ⟨A, k, c, A', k', c', rfl, h3, h4, h5, _⟩
   exact ⟨A, k, c, A', k', c', rfl, ⟨h3, h4, h2.n2.m2.below h5⟩, h2.below h5⟩⟩
  clear hg0 h hm hp hq h0 hszP hszM hA hB hE hE2 hneg
  generalize 2 ^ n = P at *
  generalize p * P = X at *
  generalize X / q = M at *
  generalize X % q = R at *
  generalize -(n : Int) = E at *
  go_enter Tryz.func186, Tryz.ntmps186
  go_wp2_with fail
  go_quiet (fail)
  go_wp2_with (first | (go_at_call 218; (with_reducible refine (HOF.out _ (by repeat (first | exact Below.refl _ _ | apply below_alloc | apply pw_below_drewN))).mono ?_); rintro e W1 ⟨A, k, c, rfl, hm, hg⟩; have HM := Aside0.mk hm; have HG := Aside0.mk hg; clear hm hg) | (go_at_call 173; (with_reducible refine (HMU.out _ _ _ _ HM.out HG.out).mono ?_); rintro e W2 ⟨A', k', c', rfl, hm, hg⟩; have HM2 := Aside0.mk hm; have HG2 := Aside0.mk hg; clear hm hg) | (go_at_call 142; (with_reducible refine (HDV.out _ _ _ _ HM2.out HG2.out).mono ?_); rintro e W3 ⟨B1, j1, d1, B2, j2, d2, rfl, hm, hg⟩; have HM3 := Aside0.mk hm; have HG3 := Aside0.mk hg; clear hm hg))
  go_ret3
  exact ⟨_, _, _, _, _, _, _, _, _, rfl, HM3.out, HG3.out⟩
 ·obtain ⟨n, rfl⟩ : ∃ n : Nat, E = (n : Int) := ⟨E.toNat, by omega⟩
  have hA : upA (n : Int) p = p := by unfold upA; rw [show (-(n : Int)).toNat = 0 by omega]; omega
  have hB : upB (n : Int) q = q * 2 ^ n := by unfold upB; rw [show (n : Int).toNat = n by omega]
  rw [hA, hB]
  have hd : decide ((n : Int) < 0) = false := decide_eq_false (by omega)
  have hszP : Sz 100000 (2 ^ n) := sz_pow (by omega)
  have hszM : Sz 200000 (q * 2 ^ n) := (hq.more (by omega) : Sz 100000 q).mul hszP
  have hn0 : 0 < q * 2 ^ n := Nat.mul_pos h0 (Nat.two_pow_pos n)
  have HOF : Aside0 (∀ W, Below w.heap.size w W → Calls Tryz.prog 218 #[.map (some b), .int .i64 (n : Int)] W fun e w' => ∃ A k c, e = .returned (.slice A k c) ∧ NN w' A k c (2 ^ n) ∧ RG w b A1 L1 c1 p A2 L2 c2 q w') := ⟨fun W hb => by
   refine (of_calls ((hg0.below hb).pm) (by omega)).mono ?_
   rintro e w' ⟨A, k, c, rfl, h1, h2, h3⟩
   exact ⟨A, k, c, rfl, h1, (hg0.below hb).step h3 h2⟩⟩
  have HMU : Aside0 (∀ W A k c, NN W A k c (2 ^ n) → RG w b A1 L1 c1 p A2 L2 c2 q W → Calls Tryz.prog 173 #[.slice A2 L2 c2, .slice A k c] W fun e w' => ∃ A k c, e = .returned (.slice A k c) ∧ NN w' A k c (q * 2 ^ n) ∧ RG w b A1 L1 c1 p A2 L2 c2 q w') := ⟨fun W A k c h1 h2 => by
   refine ((natMul_at h2.n2.m2 h1 (hq.more (by omega)) hszP).out W (Below.refl _ _)).mono ?_
   rintro e w' ⟨A, k, c, rfl, h3, h4, _⟩
   exact ⟨A, k, c, rfl, h3, h2.below h4⟩⟩
  have HDV : Aside0 (∀ W A k c, NN W A k c (q * 2 ^ n) → RG w b A1 L1 c1 p A2 L2 c2 q W → Calls Tryz.prog 142 #[.slice A1 L1 c1, .slice A k c] W fun e w' => ∃ B k1 d1 A' k' c', e = .returned (.tuple #[.slice B k1 d1, .slice A' k' c']) ∧ (NN w' B k1 d1 (p / (q * 2 ^ n)) ∧ NN w' A' k' c' (p % (q * 2 ^ n)) ∧ NN w' A k c (q * 2 ^ n)) ∧ RG w b A1 L1 c1 p A2 L2 c2 q w') := ⟨fun W A k c h1 h2 => by
   refine (natDiv_calls h2.n2.m1 h1 (Nat.le_trans (h2.n2.m1.sz hp) (by omega)) (Nat.le_trans (h1.sz hszM) (by omega)) hn0).mono ?_
   rintro e w' ⟨B, k1, d1, A', k', c', rfl, h3, h4, h5, _⟩
   exact ⟨B, k1, d1, A', k', c', rfl, ⟨h3, h4, h1.below h5⟩, h2.below h5⟩⟩
  clear hg0 h hm hp hq h0 hszP hszM hn0 hA hB hE hE2 hpos
  generalize 2 ^ n = P at *
  generalize q * P = X at *
  generalize p / X = M at *
  generalize p % X = R at *
  go_enter Tryz.func186, Tryz.ntmps186
  go_wp2_with fail
  go_quiet (fail)
  go_wp2_with (first | (go_at_call 218; (with_reducible refine (HOF.out _ (by repeat (first | exact Below.refl _ _ | apply below_alloc | apply pw_below_drewN))).mono ?_); rintro e W1 ⟨A, k, c, rfl, hm, hg⟩; have HM := Aside0.mk hm; have HG := Aside0.mk hg; clear hm hg) | (go_at_call 173; (with_reducible refine (HMU.out _ _ _ _ HM.out HG.out).mono ?_); rintro e W2 ⟨A', k', c', rfl, hm, hg⟩; have HM2 := Aside0.mk hm; have HG2 := Aside0.mk hg; clear hm hg) | (go_at_call 142; (with_reducible refine (HDV.out _ _ _ _ HM2.out HG2.out).mono ?_); rintro e W3 ⟨B1, j1, d1, B2, j2, d2, rfl, hm, hg⟩; have HM3 := Aside0.mk hm; have HG3 := Aside0.mk hg; clear hm hg))
  go_ret3
  exact ⟨_, _, _, _, _, _, _, _, _, rfl, HM3.out, HG3.out⟩
theorem step_below {own : List Nat} {A B : World} (h : Step own A B) {n : Nat} (hn : ∀ b ∈ own, n ≤ b) (hs : n ≤ A.heap.size) : Below n A B :=
 ⟨h.os, h.tape, h.output, h.size, fun k hk => h.block k (Nat.lt_of_lt_of_le hk hs) (fun hm => by have := hn k hm; omega)⟩
/-- A variable of type scaled. -/
def SF (W : World) (b : Nat) (A : Option Addr) (L c : Nat) (E : Int) : Prop := W.heap[b]? = some (.cells #[.slice A L c, .int .i64 E] 177 (0, 0))
section
variable {W X : World} {b : Nat} {A : Option Addr} {L c : Nat} {E : Int}
theorem SF.cell0 (h : SF W b A L c E) : W.cell? ⟨b, 0, none⟩ = some (.slice A L c) := by rw [Lib.cell_of_heap h]; rfl
theorem SF.cell1 (h : SF W b A L c E) : W.cell? ⟨b, 1, none⟩ = some (.int .i64 E) := by rw [Lib.cell_of_heap h]; rfl
theorem SF.fr (h : SF W b A L c E) (o : Nat) : W.frozen? ⟨b, o, none⟩ = false := Lib.frozen_of_heap h o
theorem SF.lt (h : SF W b A L c E) : b < W.heap.size := (Array.getElem?_eq_some_iff.1 h).1
theorem SF.below (h : SF W b A L c E) (hb : Below W.heap.size W X) : SF X b A L c E := (hb.block b h.lt).trans h
theorem SF.step (h : SF W b A L c E) {m : Nat} (hs : Step [m] W X) (hm : b ≠ m) : SF X b A L c E := (hs.block b h.lt (by simp; exact hm)).trans h
theorem SF.s0 (h : SF W b A L c E) (A' : Option Addr) (L' c' : Nat) : SF (W.setCell ⟨b, 0, none⟩ (.slice A' L' c')) b A' L' c' E := by
 unfold SF at *; simp [World.setCell, Array.getElem?_modify, h]
theorem SF.s1 (h : SF W b A L c E) (F : Int) : SF (W.setCell ⟨b, 1, none⟩ (.int .i64 F)) b A L c F := by
 unfold SF at *; simp [World.setCell, Array.getElem?_modify, h]
theorem SF.nn (h : SF W b A L c E) {A' : Option Addr} {L' c' n : Nat} (hm : NN W A' L' c' n) (o : Nat) (u : Value) : NN (W.setCell ⟨b, o, none⟩ u) A' L' c' n :=
 hm.setRow (fun b' hA h0 e => by
  obtain ⟨b2, hA2, _, hc⟩ := hm.addr h0
  rw [hA] at hA2
  injection hA2 with e2
  injection e2 with e2
  subst e2
  have := hc 0 h0
  rw [e, h.cell0] at this
  cases this) o u
end
theorem QF.step {W X : World} {b : Nat} {s : Bool} {A1 : Option Addr} {L1 c1 : Nat} {A2 : Option Addr} {L2 c2 : Nat} (h : QF W b s A1 L1 c1 A2 L2 c2) {m : Nat} (hs : Step [m] W X) (hm : b ≠ m) : QF X b s A1 L1 c1 A2 L2 c2 := (hs.block b h.lt (by simp; exact hm)).trans h
theorem lgf_lt {k p q : Nat} (hp : 0 < p) (hq : 0 < q) (h : Sz k p) : lgf p q < k := by
 rcases Int.lt_or_le (lgf p q) k with h1 | h1
 ·exact h1
 ·have h2 := (lgf_le hp hq).2 h1
  unfold le2 at h2
  rw [show ((k : Int)).toNat = k by omega, show (-(k : Int)).toNat = 0 by omega, Nat.pow_zero, Nat.mul_one] at h2
  have h3 := h.lt
  have h4 : 2 ^ k ≤ q * 2 ^ k := Nat.le_mul_of_pos_left _ hq
  omega
theorem expE_high {k p q : Nat} (hq : 0 < q) (h : Sz k p) : expE p q ≤ k := by
 unfold expE
 split
 ·omega
 ·have := lgf_lt (by omega) hq h
  omega
theorem wid_sz {k n : Nat} (h : Sz k n) : wid n ≤ k := wid_le.2 h.lt
theorem up_sz {p : Nat} {e : Int} (h : Sz 90000 p) (he : -149 ≤ e) : Sz 200000 (upA e p) := by
 unfold upA
 exact (h.more (by omega) : Sz 100000 p).mul (sz_pow (by omega) : Sz 100000 _)
theorem upB_sz {q : Nat} {e : Int} (h : Sz 90000 q) (he : e ≤ 95000) : Sz 200000 (upB e q) := by
 unfold upB
 exact (h.more (by omega) : Sz 100000 q).mul (sz_pow (by omega) : Sz 100000 _)
/-- What stands between two rounds. -/
structure RoS (w : World) (b : Nat) (s : Bool) (A1 : Option Addr) (L1 c1 p : Nat) (A2 : Option Addr) (L2 c2 q : Nat) (W : World) : Prop where
 box : QF W w.heap.size s A1 L1 c1 A2 L2 c2
 res : SF W (w.heap.size + 1) none 0 0 0
 n2 : N2 W A1 L1 c1 p A2 L2 c2 q
 pm : PM W b
 bl : Below w.heap.size w W
 lt : w.heap.size + 2 ≤ b
/-- What stands behind the loop. -/
structure RoF (w : World) (A : Option Addr) (k c M : Nat) (A' : Option Addr) (k' c' R : Nat) (A'' : Option Addr) (k'' c'' D : Nat) (W : World) : Prop where
 m : NN W A k c M
 r : NN W A' k' c' R
 d : NN W A'' k'' c'' D
 res : SF W (w.heap.size + 1) none 0 0 0
 bl : Below w.heap.size w W
theorem RoF.below {w : World} {A : Option Addr} {k c M : Nat} {A' : Option Addr} {k' c' R : Nat} {A'' : Option Addr} {k'' c'' D : Nat} {W X : World} (h : RoF w A k c M A' k' c' R A'' k'' c'' D W) (hb : Below W.heap.size W X) : RoF w A k c M A' k' c' R A'' k'' c'' D X :=
 ⟨h.m.below hb, h.r.below hb, h.d.below hb, h.res.below hb, h.bl.trans (hb.mono h.bl.size)⟩
/-- What rounded answers. -/
def RoO (w : World) (M : Nat) (E : Int) (e : Ending) (w' : World) : Prop := ∃ A k c, e = .returned (.agg #[.slice A k c, .int .i64 E]) ∧ NN w' A k c M ∧ Below w.heap.size w w'
theorem ratio_round {w : World} {b : Nat} {s : Bool} {A1 : Option Addr} {L1 c1 p : Nat} {A2 : Option Addr} {L2 c2 q : Nat} (hp : Sz 90000 p) (hq : Sz 90000 q) (h0 : 0 < q) {E : Int} (hE : -149 ≤ E) (hE2 : E ≤ 95000) {W : World} (h : RoS w b s A1 L1 c1 p A2 L2 c2 q W) :
 Calls Tryz.prog 186 #[.agg #[.bool s, .slice A1 L1 c1, .slice A2 L2 c2], .int .i64 E, .map (some b)] W fun e w' =>
  ∃ A k c A' k' c' A'' k'' c'', e = .returned (.tuple #[.slice A k c, .slice A' k' c', .slice A'' k'' c'']) ∧ (NN w' A k c (upA E p / upB E q) ∧ NN w' A' k' c' (upA E p % upB E q) ∧ NN w' A'' k'' c'' (upB E q)) ∧ RoS w b s A1 L1 c1 p A2 L2 c2 q w' := by
 refine (ratio_calls h.n2 hp hq h0 h.pm hE hE2).mono ?_
 rintro e w' ⟨A, k, c, A', k', c', A'', k'', c'', rfl, hn, hg⟩
 have hl := h.lt
 exact ⟨A, k, c, A', k', c', A'', k'', c'', rfl, hn, ⟨h.box.step hg.st (by omega), h.res.step hg.st (by omega), hg.n2, hg.pm, h.bl.trans (step_below hg.st (by simp; omega) h.bl.size), hl⟩⟩
theorem RoS.fin {w : World} {b : Nat} {s : Bool} {A1 : Option Addr} {L1 c1 p : Nat} {A2 : Option Addr} {L2 c2 q : Nat} {W : World} (h : RoS w b s A1 L1 c1 p A2 L2 c2 q W) {A : Option Addr} {k c M : Nat} {A' : Option Addr} {k' c' R : Nat} {A'' : Option Addr} {k'' c'' D : Nat}
 (hn : NN W A k c M ∧ NN W A' k' c' R ∧ NN W A'' k'' c'' D) : RoF w A k c M A' k' c' R A'' k'' c'' D W := ⟨hn.1, hn.2.1, hn.2.2, h.res, h.bl⟩
/-- The return of a scaled number. -/
theorem s_ret {fn : Func} {i b : Nat} {Z : World} {T : Array Value} {R : Ending → World → Prop} {A : Option Addr} {L c : Nat} {E : Int} (hres : fn.results = #[.cell i 177]) (hT : T[i]?.getD undef = .pointer (some ⟨b, 0, none⟩))
 (o : SF Z b A L c E) (hR : R (.returned (.agg #[.slice A L c, .int .i64 E])) Z) : bodyPost Tryz.prog fn R Exit.ret { tmps := T, defers := [] } Z := by
 have k0 := o.cell0
 have k1 := o.cell1
 exact bodyPost_ret (v := .agg #[.slice A L c, .int .i64 E]) (by simp [results, hres, go_sem, hT, k0, k1]) rfl hR
theorem s_end {w W : World} {A : Option Addr} {L c M : Nat} {e : Int} (hs : SF W (w.heap.size + 1) none 0 0 0) (hn : NN W A L c M) (hb : Below w.heap.size w W) :
 RoO w M e (.returned (.agg #[.slice A L c, .int .i64 e])) ((W.setCell ⟨w.heap.size + 1, 0, none⟩ (.slice A L c)).setCell ⟨w.heap.size + 1, 1, none⟩ (.int .i64 e)) :=
 ⟨A, L, c, rfl, (hs.s0 A L c).nn (hs.nn hn 0 _) 1 _, (hb.setCell (p := ⟨w.heap.size + 1, 0, none⟩) (Nat.le_succ _) _).setCell (p := ⟨w.heap.size + 1, 1, none⟩) (Nat.le_succ _) _⟩
section
variable {w W : World} {A : Option Addr} {k c M : Nat} {A' : Option Addr} {k' c' R : Nat} {A'' : Option Addr} {k'' c'' D : Nat}
theorem fin_shl (hr : Sz 200000 R) (h : RoF w A k c M A' k' c' R A'' k'' c'' D W) : Calls Tryz.prog 133 #[.slice A' k' c', .int .i64 1] W fun e w' => ∃ B j d, e = .returned (.slice B j d) ∧ NN w' B j d (R * 2) ∧ RoF w A k c M A' k' c' R A'' k'' c'' D w' := by
 refine (shl_calls h.r (Nat.le_trans (h.r.sz hr) (by omega)) 1 (by omega)).mono ?_
 rintro e w' ⟨B, j, d, rfl, h1, h2, _⟩
 exact ⟨B, j, d, rfl, h1, h.below h2⟩
theorem fin_cmp {B : Option Addr} {j d : Nat} (hr : Sz 200000 R) (hd : Sz 200000 D) (h1 : NN W B j d (R * 2)) (h : RoF w A k c M A' k' c' R A'' k'' c'' D W) :
 Calls Tryz.prog 175 #[.slice B j d, .slice A'' k'' c''] W fun e w' => ∃ v : Int, e = .returned (.int .i64 v) ∧ CmpV (R * 2) D v ∧ RoF w A k c M A' k' c' R A'' k'' c'' D w' := by
 refine (cmp_calls h1 h.d (Nat.le_trans (h1.sz (hr.mul (show Sz 2 2 from ⟨by decide⟩) (i := 200002))) (by omega)) (Nat.le_trans (h.d.sz hd) (by omega))).mono ?_
 rintro e w' ⟨v, rfl, h2, h3⟩
 exact ⟨v, rfl, h2, h.below h3⟩
theorem fin_bit (hm : Sz 200000 M) (h0 : 0 < M) (h : RoF w A k c M A' k' c' R A'' k'' c'' D W) : Calls Tryz.prog 187 #[.slice A k c, .int .i64 0] W fun e w' => e = .returned (.bool (decide (M % 2 = 1))) ∧ RoF w A k c M A' k' c' R A'' k'' c'' D w' := by
 have hk : 0 < k := Nat.pos_of_ne_zero fun e => by have := h.m.len_zero.1 e; omega
 refine (bit_calls (i := 0) h.m (by omega) (Nat.le_trans (h.m.sz hm) (by omega))).mono ?_
 rintro e w' ⟨rfl, h2⟩
 exact ⟨by unfold bitN; rw [Nat.pow_zero, Nat.div_one], h.below h2⟩
theorem fin_add (hm : Sz 200000 M) (h : RoF w A k c M A' k' c' R A'' k'' c'' D W) (g : Nat) (hg : g = W.heap.size) (t : TypeId) : Calls Tryz.prog 174 #[.slice A k c, .slice (some ⟨g, 0, none⟩) 1 1] (W.alloc (.cells #[.int .u32 1] t)) fun e w' =>
 ∃ B j d, e = .returned (.slice B j d) ∧ NN w' B j d (M + 1) ∧ SF w' (w.heap.size + 1) none 0 0 0 ∧ Below w.heap.size w w' := by
 subst hg
 have hb := below_alloc (Below.refl W.heap.size W) (.cells #[.int .u32 1] t)
 have h1 := h.below hb
 refine (natAdd_calls h1.m (nn_one W t) (Nat.le_trans (h.m.sz hm) (by omega)) (by omega)).mono ?_
 rintro e w' ⟨B, j, d, rfl, h2, h3, _⟩
 exact ⟨B, j, d, rfl, h2, h1.res.below h3, h1.bl.trans (h3.mono h1.bl.size)⟩
end
theorem rounded_calls {w : World} {s : Bool} {A1 A2 : Option Addr} {L1 c1 L2 c2 p q : Nat} (h : N2 w A1 L1 c1 p A2 L2 c2 q) (hp : Sz 90000 p) (hq : Sz 90000 q) (h0 : 0 < q) :
 Calls Tryz.prog 134 #[qV s A1 L1 c1 A2 L2 c2] w fun e w' => RoO w (rm p q) (expE p q) e w' := by
 have HWP : Aside0 (∀ W, Below w.heap.size w W → Calls Tryz.prog 135 #[.slice A1 L1 c1] W fun e w' => e = .returned (.int .i64 (wid p : Nat)) ∧ Below W.heap.size W w') := ⟨fun W hb => (width_calls (h.m1.below hb) (Nat.le_trans (h.m1.sz hp) (by omega))).mono (by rintro e w' ⟨rfl, rfl⟩; exact ⟨rfl, Below.refl _ _⟩)⟩
 have HWQ : Aside0 (∀ W, Below w.heap.size w W → Calls Tryz.prog 135 #[.slice A2 L2 c2] W fun e w' => e = .returned (.int .i64 (wid q : Nat)) ∧ Below W.heap.size W w') := ⟨fun W hb => (width_calls (h.m2.below hb) (Nat.le_trans (h.m2.sz hq) (by omega))).mono (by rintro e w' ⟨rfl, rfl⟩; exact ⟨rfl, Below.refl _ _⟩)⟩
 have hw1 := wid_sz hp
 have hw2 := wid_sz hq
 obtain ⟨x, hx⟩ : ∃ x, wid p = x := ⟨_, rfl⟩
 obtain ⟨y, hy⟩ : ∃ y, wid q = y := ⟨_, rfl⟩
 rw [hx] at HWP hw1
 rw [hy] at HWQ hw2
 have v1 : IntKind.i64.wrap ((x : Int) - (y : Int)) = (x : Int) - y := IntWalk.i64_in _ (by omega)
 have v2 : IntKind.i64.wrap ((x : Int) - (y : Int) - 24) = (x : Int) - y - 24 := IntWalk.i64_in _ (by omega)
 obtain ⟨e0, hmx, he1, he2⟩ : ∃ e0 : Int, (∀ W, (Builtin.max_ #[3, 3] 3 #[.int .i64 ((x : Int) - y - 24), .int .i64 (-149)]).run Tryz.prog W = .ok (.int .i64 e0) W) ∧ -149 ≤ e0 ∧ e0 ≤ 95000 := by
  refine ⟨if (-149 : Int) > (x : Int) - y - 24 then -149 else (x : Int) - y - 24, fun W => by rw [run_max_int2], ?_, ?_⟩ <;> split <;> omega
 have HEL := Aside0.mk (And.intro (expE_low p q) (Int.le_trans (expE_high h0 hp) (by omega : ((90000 : Nat) : Int) ≤ 95000)))
 have HH := Aside0.mk h
 have hmm := @run_makeMap Tryz.prog
 unfold qV
 clear h hx hy hw1 hw2
 go_enter Tryz.func134, Tryz.ntmps134
 go_wp2_with fail
 obtain ⟨wr, hwr⟩ : ∃ wr, ((w.alloc (.cells #[.bool s, .slice A1 L1 c1, .slice A2 L2 c2] 102)).alloc (.cells #[.slice none 0 0, .int .i64 0] 177)) = wr := ⟨_, rfl⟩
 have HF : QF wr w.heap.size s A1 L1 c1 A2 L2 c2 ∧ SF wr (w.heap.size + 1) none 0 0 0 := by
  subst hwr
  refine ⟨(QF.new w _ rfl _ _ _ _ _ _ _).alloc _, ?_⟩
  have := heap_alloc_new (w.alloc (.cells #[.bool s, .slice A1 L1 c1, .slice A2 L2 c2] 102)) (.cells #[.slice none 0 0, .int .i64 0] 177)
  simpa [SF] using this
 have HX := Aside0.mk (And.intro HF.1.cell1 HF.1.cell2)
 have HO := Aside0.mk HF
 have HA : Aside0 (Below w.heap.size w wr ∧ w.heap.size + 2 ≤ wr.heap.size) := ⟨by subst hwr; repeat (first | exact Below.refl _ _ | apply below_alloc), by subst hwr; simp⟩
 rw [hwr]
 clear hwr HF
 go_step3
 go_wp2_with fail
 rename_i Q' K hK
 have KP : Aside0 (∀ V, Below (w.heap.size + 2) wr V → (fun V => V.cell? ⟨w.heap.size, 1, none⟩ = some (.slice A1 L1 c1) ∧ V.cell? ⟨w.heap.size, 2, none⟩ = some (.slice A2 L2 c2) ∧ Below (w.heap.size + 2) wr V) V) := ⟨fun V hBB => ⟨keepB hBB (by omega) HX.out.1, keepB hBB (by omega) HX.out.2, hBB⟩⟩
 refine wq KP fun hHeld => ?_
 refine tp 0 ?_
 try simp only [PU]
 refine tp 1 ?_
 try simp only [PU]
 refine tp 3 ?_
 try simp only [PU]
 refine tp 4 ?_
 try simp only [PU]
 refine tc 2 fun K hK => ?_
 go_simp
 (go_at_call 135; (with_reducible refine (HWP.out _ (HA.out.1.trans (hHeld.2.2.mono (show w.heap.size ≤ w.heap.size + 2 by omega)))).mono ?_); rintro e wm ⟨rfl, hbq⟩)
 refine hK.out _ _ ?_ fun hHeld => ?_
 ·(first | exact KP.out _ (bKeep hbq hHeld.2.2 (by have := HA.out.2; omega)) | (refine KP.out _ ?_; repeat (first | exact hHeld.2.2 | refine Below.setCell ?_ (by first | (simp; done) | (simp; omega)) _)))
 clear hK K; try simp only [PU]
 refine tc 5 fun K hK => ?_
 go_simp
 (go_at_call 135; (with_reducible refine (HWQ.out _ (HA.out.1.trans (hHeld.2.2.mono (show w.heap.size ≤ w.heap.size + 2 by omega)))).mono ?_); rintro e wm ⟨rfl, hbq⟩)
 refine hK.out _ _ ?_ fun hHeld => ?_
 ·(first | exact KP.out _ (bKeep hbq hHeld.2.2 (by have := HA.out.2; omega)) | (refine KP.out _ ?_; repeat (first | exact hHeld.2.2 | refine Below.setCell ?_ (by first | (simp; done) | (simp; omega)) _)))
 clear hK K; try simp only [PU]
 refine tp 6 ?_
 try simp only [PU]
 refine tp 7 ?_
 try simp only [PU]
 refine tp 8 ?_
 try simp only [PU]
 refine tp 9 ?_
 try simp only [PU]
 refine wpAnyH_done (by kernel_rfl) ?_ _
 refine hK _ _ ?_
 clear hK
 have HW : Aside0 (RoS w wm.heap.size s A1 L1 c1 p A2 L2 c2 q (wm.alloc (.map #[] 0))) := ⟨by
  have hb := (HA.out.1.trans (hHeld.2.2.mono (show w.heap.size ≤ w.heap.size + 2 by omega)))
  have hq1 : QF wm w.heap.size s A1 L1 c1 A2 L2 c2 := (hHeld.2.2.block _ (by omega)).trans HO.out.1
  have hs1 : SF wm (w.heap.size + 1) none 0 0 0 := (hHeld.2.2.block _ (by omega)).trans HO.out.2
  exact ⟨hq1.alloc _, hs1.below (below_alloc (Below.refl _ _) _), HH.out.below (below_alloc hb _), ⟨#[], 0, heap_alloc_new _ _, by simp⟩, below_alloc hb _, Nat.le_trans HA.out.2 hHeld.2.2.size⟩⟩
 clear HH HO HX HA HWP HWQ v1 v2 hHeld hmx
 go_wp2_with fail
 go_step3
 go_wp2_with fail
 obtain ⟨b, hb⟩ : ∃ b, wm.heap.size = b := ⟨_, rfl⟩
 obtain ⟨wa, hwa⟩ : ∃ wa, wm.alloc (.map #[] 0) = wa := ⟨_, rfl⟩
 rw [hb, hwa] at HW ⊢
 clear hb hwa hmm
 go_loopw [3, 4, 5, 6] (fun v3 v4 v5 v6 W => ∃ (e : Int) (B3 : Option Addr) (L3 c3 : Nat) (B4 : Option Addr) (L4 c4 : Nat) (B5 : Option Addr) (L5 c5 : Nat), v3 = .int .i64 e ∧ v4 = .slice B3 L3 c3 ∧ v5 = .slice B4 L4 c4 ∧ v6 = .slice B5 L5 c5 ∧ (-149 ≤ e ∧ e ≤ 95000) ∧ Aside0 (RoS w b s A1 L1 c1 p A2 L2 c2 q W)) (fun v3 _ _ _ _ => (intOf v3 - expE p q).natAbs)
 case atStart => exact ⟨e0, _, _, _, _, _, _, _, _, _, rfl, rfl, rfl, rfl, ⟨he1, he2⟩, HW⟩
 case round =>
  clear HW
  obtain ⟨e, B3, L3, c3, B4, L4, c4, B5, L5, c5, rfl, rfl, rfl, rfl, ⟨he3, he4⟩, HR⟩ := hrel
  have hM0 := up_sz hp he3
  have hD0 := upB_sz hq he4
  have HSZ : Aside0 (Sz 200000 (upA e p / upB e q) ∧ Sz 200000 (upA e p % upB e q) ∧ Sz 200000 (upB e q)) := ⟨hM0.le (Nat.div_le_self _ _), hM0.le (Nat.mod_le _ _), hD0⟩
  have HRT : Aside0 (∀ W, RoS w b s A1 L1 c1 p A2 L2 c2 q W → Calls Tryz.prog 186 #[.agg #[.bool s, .slice A1 L1 c1, .slice A2 L2 c2], .int .i64 e, .map (some b)] W fun e' w' =>
   ∃ A k c A' k' c' A'' k'' c'', e' = .returned (.tuple #[.slice A k c, .slice A' k' c', .slice A'' k'' c'']) ∧ (NN w' A k c (upA e p / upB e q) ∧ NN w' A' k' c' (upA e p % upB e q) ∧ NN w' A'' k'' c'' (upB e q)) ∧ RoS w b s A1 L1 c1 p A2 L2 c2 q w') := ⟨fun W h => ratio_round hp hq h0 he3 he4 h⟩
  have hup := exp_up (p := p) h0 he3
  have hdn := exp_down (p := p) h0 he3
  have HRM : Aside0 (e = expE p q → rm p q = upA e p / upB e q + if upB e q < upA e p % upB e q * 2 ∨ (upA e p % upB e q * 2 = upB e q ∧ upA e p / upB e q % 2 = 1) then 1 else 0) := ⟨fun h => by
   subst h
   unfold rm evn
   rw [Nat.mul_comm 2]⟩
  have HWM : Aside0 (∀ W A k c, NN W A k c (upA e p / upB e q) → Calls Tryz.prog 135 #[.slice A k c] W fun e' w' => e' = .returned (.int .i64 (wid (upA e p / upB e q) : Nat)) ∧ w' = W) := ⟨fun W A k c h => width_calls h (Nat.le_trans (h.sz HSZ.out.1) (by omega))⟩
  clear hM0 hD0
  generalize upA e p / upB e q = M at *
  generalize upA e p % upB e q = R at *
  generalize upB e q = D at *
  obtain ⟨m, hm⟩ : ∃ m, wid M = m := ⟨_, rfl⟩
  rw [hm] at hup hdn HWM
  clear hm
  have q0 := HR.out.box.cell0
  have q1 := HR.out.box.cell1
  have q2 := HR.out.box.cell2
  have w1 : IntKind.i64.wrap (e + 1) = e + 1 := IntWalk.i64_in _ (by omega)
  have w2 : IntKind.i64.wrap (e - 1) = e - 1 := IntWalk.i64_in _ (by omega)
  have HE4 := HEL.out.2
  have HES := Aside0.mk HE4
  have HEE : Aside0 (∃ E, expE p q = E ∧ E = expE p q) := ⟨_, rfl, rfl⟩
  generalize hE : expE p q = E at *
  clear HEE
  have HEQ := Aside0.mk hE
  clear hE
  clear HE4
  rcases Int.lt_trichotomy e E with h | h | h
  ·have d1 : decide ((24 : Int) < (m : Int)) = true := decide_eq_true (by have := hup.2 h; omega)
   have HL := Aside0.mk h
   clear hup hdn HRM h
   go_wp2_with (first | (go_at_call 186; (with_reducible refine (HRT.out _ HR.out).mono ?_); rintro e1 W1 ⟨A, k, c, A', k', c', A'', k'', c'', rfl, hn, hg⟩; have HM := Aside0.mk hn; have HG := Aside0.mk hg; clear hn hg q0 q1 q2) | (go_at_call 135; (with_reducible refine (HWM.out _ _ _ _ HM.out.1).mono ?_); rintro e1 W2 ⟨rfl, hww⟩; subst hww))
   exact ⟨⟨e + 1, _, _, _, _, _, _, _, _, _, rfl, rfl, rfl, rfl, ⟨by omega, by have := HL.out; have := HES.out; omega⟩, HG⟩, by simp only [intOf]; have := HL.out; omega⟩
  ·have HRN := Aside0.mk (HRM.out h)
   clear HRM
   subst h
   have d1 : decide ((24 : Int) < (m : Int)) = false := decide_eq_false (by omega)
   have d2 : (decide ((m : Int) < 24) = true ∧ decide ((-149 : Int) < e) = false) ∨ decide ((m : Int) < 24) = false := by
    by_cases h : m < 24
    ·exact .inl ⟨decide_eq_true (by omega), decide_eq_false (by omega)⟩
    ·exact .inr (decide_eq_false (by omega))
   clear hup hdn
   rcases d2 with ⟨d2, d3⟩ | d2 <;> go_wp2_with (first | (go_at_call 186; (with_reducible refine (HRT.out _ HR.out).mono ?_); rintro e1 W1 ⟨A, k, c, A', k', c', A'', k'', c'', rfl, hn, hg⟩; have HM := Aside0.mk hn; have HG := Aside0.mk hg; clear hn hg q0 q1 q2) | (go_at_call 135; (with_reducible refine (HWM.out _ _ _ _ HM.out.1).mono ?_); rintro e1 W2 ⟨rfl, hww⟩; subst hww))
   all_goals
    have HF := Aside0.mk (HG.out.fin HM.out)
    clear HG HM
    rcases Nat.lt_trichotomy D (R * 2) with hD | hD | hD
    ·go_wp2_with (first | (go_at_call 133; (with_reducible refine (fin_shl HSZ.out.2.1 HF.out).mono ?_); rintro e1 W3 ⟨B, j, d, rfl, hn, hg⟩; have HB := Aside0.mk hn; have HF := Aside0.mk hg; clear hn hg) | (go_at_call 175; (with_reducible refine (fin_cmp HSZ.out.2.1 HSZ.out.2.2 HB.out HF.out).mono ?_); rintro e1 W4 ⟨v, rfl, hv, hg⟩; have HF := Aside0.mk hg; have hv1 : decide (0 < v) = true := decide_eq_true (by have := hv.1; have := hv.2; omega); have q0 := HF.out.res.cell0; have q1 := HF.out.res.cell1; have q2 := HF.out.res.fr 0; have q3 := HF.out.res.fr 1; clear hg hv) | (go_at_call 174; (with_reducible refine (fin_add HSZ.out.1 HF.out _ (by first | rfl | simp) _).mono ?_); rintro e1 W6 ⟨B1, j1, d1, rfl, hn, hs, hb⟩; have HZ := Aside0.mk (And.intro hs (And.intro hn hb)); clear hn hs hb q0 q1 q2 q3; have q0 := HZ.out.1.cell0; have q1 := HZ.out.1.cell1; have q2 := HZ.out.1.fr 0; have q3 := HZ.out.1.fr 1))
     refine s_ret Tryz.results134 rfl ((HZ.out.1.s0 _ _ _).s1 _) ?_
     show RoO w (rm p q) (expE p q) _ _
     rw [HEQ.out, HRN.out, if_pos (by omega)]
     exact s_end HZ.out.1 HZ.out.2.1 HZ.out.2.2
    ·by_cases hM : M = 0
     ·have hk := HF.out.m.len_zero.2 hM
      subst hk
      go_wp2_with (first | (go_at_call 133; (with_reducible refine (fin_shl HSZ.out.2.1 HF.out).mono ?_); rintro e1 W3 ⟨B, j, d, rfl, hn, hg⟩; have HB := Aside0.mk hn; have HF := Aside0.mk hg; clear hn hg) | (go_at_call 175; (with_reducible refine (fin_cmp HSZ.out.2.1 HSZ.out.2.2 HB.out HF.out).mono ?_); rintro e1 W4 ⟨v, rfl, hv, hg⟩; have HF := Aside0.mk hg; have hv1 : v = 0 := hv.2.2 (by omega); subst hv1; have q0 := HF.out.res.cell0; have q1 := HF.out.res.cell1; have q2 := HF.out.res.fr 0; have q3 := HF.out.res.fr 1; clear hg hv))
      refine s_ret Tryz.results134 rfl ((HF.out.res.s0 _ _ _).s1 _) ?_
      show RoO w (rm p q) (expE p q) _ _
      rw [HEQ.out, HRN.out, if_neg (by omega)]
      exact s_end HF.out.res HF.out.m HF.out.bl
     ·have hk : 0 < k := Nat.pos_of_ne_zero fun e => hM (HF.out.m.len_zero.1 e)
      have HPM := Aside0.mk (Nat.pos_of_ne_zero hM)
      by_cases ho : M % 2 = 1
      ·have HBT := Aside0.mk (decide_eq_true ho)
       go_wp2_with (first | (go_at_call 133; (with_reducible refine (fin_shl HSZ.out.2.1 HF.out).mono ?_); rintro e1 W3 ⟨B, j, d, rfl, hn, hg⟩; have HB := Aside0.mk hn; have HF := Aside0.mk hg; clear hn hg) | (go_at_call 175; (with_reducible refine (fin_cmp HSZ.out.2.1 HSZ.out.2.2 HB.out HF.out).mono ?_); rintro e1 W4 ⟨v, rfl, hv, hg⟩; have HF := Aside0.mk hg; have hv1 : v = 0 := hv.2.2 (by omega); subst hv1; have q0 := HF.out.res.cell0; have q1 := HF.out.res.cell1; have q2 := HF.out.res.fr 0; have q3 := HF.out.res.fr 1; clear hg hv) | (go_at_call 187; (with_reducible refine (fin_bit HSZ.out.1 HPM.out HF.out).mono ?_); rw [HBT.out]; rintro e1 W5 ⟨rfl, hg⟩; have HF := Aside0.mk hg; clear hg q0 q1 q2 q3; have q0 := HF.out.res.cell0; have q1 := HF.out.res.cell1; have q2 := HF.out.res.fr 0; have q3 := HF.out.res.fr 1) | (go_at_call 174; (with_reducible refine (fin_add HSZ.out.1 HF.out _ (by first | rfl | simp) _).mono ?_); rintro e1 W6 ⟨B1, j1, d1, rfl, hn, hs, hb⟩; have HZ := Aside0.mk (And.intro hs (And.intro hn hb)); clear hn hs hb q0 q1 q2 q3; have q0 := HZ.out.1.cell0; have q1 := HZ.out.1.cell1; have q2 := HZ.out.1.fr 0; have q3 := HZ.out.1.fr 1))
       refine s_ret Tryz.results134 rfl ((HZ.out.1.s0 _ _ _).s1 _) ?_
       show RoO w (rm p q) (expE p q) _ _
       rw [HEQ.out, HRN.out, if_pos (by omega)]
       exact s_end HZ.out.1 HZ.out.2.1 HZ.out.2.2
      ·have HBT := Aside0.mk (decide_eq_false ho)
       go_wp2_with (first | (go_at_call 133; (with_reducible refine (fin_shl HSZ.out.2.1 HF.out).mono ?_); rintro e1 W3 ⟨B, j, d, rfl, hn, hg⟩; have HB := Aside0.mk hn; have HF := Aside0.mk hg; clear hn hg) | (go_at_call 175; (with_reducible refine (fin_cmp HSZ.out.2.1 HSZ.out.2.2 HB.out HF.out).mono ?_); rintro e1 W4 ⟨v, rfl, hv, hg⟩; have HF := Aside0.mk hg; have hv1 : v = 0 := hv.2.2 (by omega); subst hv1; have q0 := HF.out.res.cell0; have q1 := HF.out.res.cell1; have q2 := HF.out.res.fr 0; have q3 := HF.out.res.fr 1; clear hg hv) | (go_at_call 187; (with_reducible refine (fin_bit HSZ.out.1 HPM.out HF.out).mono ?_); rw [HBT.out]; rintro e1 W5 ⟨rfl, hg⟩; have HF := Aside0.mk hg; clear hg q0 q1 q2 q3; have q0 := HF.out.res.cell0; have q1 := HF.out.res.cell1; have q2 := HF.out.res.fr 0; have q3 := HF.out.res.fr 1))
       refine s_ret Tryz.results134 rfl ((HF.out.res.s0 _ _ _).s1 _) ?_
       show RoO w (rm p q) (expE p q) _ _
       rw [HEQ.out, HRN.out, if_neg (by omega)]
       exact s_end HF.out.res HF.out.m HF.out.bl
    ·go_wp2_with (first | (go_at_call 133; (with_reducible refine (fin_shl HSZ.out.2.1 HF.out).mono ?_); rintro e1 W3 ⟨B, j, d, rfl, hn, hg⟩; have HB := Aside0.mk hn; have HF := Aside0.mk hg; clear hn hg) | (go_at_call 175; (with_reducible refine (fin_cmp HSZ.out.2.1 HSZ.out.2.2 HB.out HF.out).mono ?_); rintro e1 W4 ⟨v, rfl, hv, hg⟩; have HF := Aside0.mk hg; have hv1 : decide (0 < v) = false := decide_eq_false (by have := hv.1; omega); have hv2 : (v == 0) = false := (by rw [beq_eq_false_iff_ne]; have := hv.1; omega); have q0 := HF.out.res.cell0; have q1 := HF.out.res.cell1; have q2 := HF.out.res.fr 0; have q3 := HF.out.res.fr 1; clear hg hv))
     refine s_ret Tryz.results134 rfl ((HF.out.res.s0 _ _ _).s1 _) ?_
     show RoO w (rm p q) (expE p q) _ _
     rw [HEQ.out, HRN.out, if_neg (by omega)]
     exact s_end HF.out.res HF.out.m HF.out.bl
  ·have d1 : decide ((24 : Int) < (m : Int)) = false := decide_eq_false (by omega)
   have d2 : decide ((m : Int) < 24) = true := decide_eq_true (by have := hdn.2 h; omega)
   have d3 : decide ((-149 : Int) < e) = true := decide_eq_true (by have := hdn.2 h; omega)
   have HL := Aside0.mk (And.intro h (hdn.2 h).2)
   clear hup hdn HRM h
   go_wp2_with (first | (go_at_call 186; (with_reducible refine (HRT.out _ HR.out).mono ?_); rintro e1 W1 ⟨A, k, c, A', k', c', A'', k'', c'', rfl, hn, hg⟩; have HM := Aside0.mk hn; have HG := Aside0.mk hg; clear hn hg q0 q1 q2) | (go_at_call 135; (with_reducible refine (HWM.out _ _ _ _ HM.out.1).mono ?_); rintro e1 W2 ⟨rfl, hww⟩; subst hww))
   exact ⟨⟨e - 1, _, _, _, _, _, _, _, _, _, rfl, rfl, rfl, rfl, ⟨by have := HL.out.2; omega, by omega⟩, HG⟩, by simp only [intOf]; have := HL.out.1; omega⟩
end
section
open Ieee
theorem log2_shift {m : Nat} (hm : m ≠ 0) (j : Nat) : (m * 2 ^ j).log2 = m.log2 + j := by
 have h1 : m * 2 ^ j ≠ 0 := Nat.mul_ne_zero hm (Nat.pos_iff_ne_zero.1 (Nat.two_pow_pos j))
 have a1 := Nat.log2_self_le hm
 have a2 : m < 2 ^ (m.log2 + 1) := Nat.lt_log2_self
 rw [Nat.log2_eq_iff h1]
 refine ⟨?_, ?_⟩
 ·rw [Nat.pow_add]; exact Nat.mul_le_mul_right _ a1
 ·rw [show m.log2 + j + 1 = (m.log2 + 1) + j by omega, Nat.pow_add]; exact Nat.mul_lt_mul_of_pos_right a2 (Nat.two_pow_pos j)
theorem cut_zero (neg : Bool) (n : Nat) : Toward.even.cut neg n 0 = n := by
 simp [Toward.cut, Nat.mod_one]
/-- A cut of a number with zeros behind. -/
theorem cut_scale (neg : Bool) {m : Nat} (hm : m ≠ 0) (d j : Nat) : Toward.even.cut neg (m * 2 ^ j) (d + j) = Toward.even.cut neg m d := by
 unfold Toward.cut
 rw [log2_shift hm j]
 have e : min (d + j) (m.log2 + j + 2) = min d (m.log2 + 2) + j := by omega
 rw [e]
 generalize min d (m.log2 + 2) = g
 have hp : 0 < 2 ^ j := Nat.two_pow_pos j
 have e1 : m * 2 ^ j / (1 <<< (g + j)) = m / (1 <<< g) := by
  simp only [Nat.one_shiftLeft, Nat.pow_add]
  exact Nat.mul_div_mul_right _ _ hp
 have e2 : m * 2 ^ j % (1 <<< (g + j)) = m % (1 <<< g) * 2 ^ j := by
  simp only [Nat.one_shiftLeft, Nat.pow_add]
  exact Nat.mul_mod_mul_right _ _ _
 have e3 : (1 <<< (g + j)) = (1 <<< g) * 2 ^ j := by simp only [Nat.one_shiftLeft, Nat.pow_add]
 dsimp only
 rw [e1, e2, e3]
 have h1 : ((1 <<< g) * 2 ^ j < 2 * (m % (1 <<< g) * 2 ^ j)) ↔ (1 <<< g) < 2 * (m % (1 <<< g)) := by
  rw [← Nat.mul_assoc]; exact Nat.mul_lt_mul_right hp
 have h2 : ((1 <<< g) * 2 ^ j == 2 * (m % (1 <<< g) * 2 ^ j)) = ((1 <<< g) == 2 * (m % (1 <<< g))) := by
  rw [Bool.eq_iff_iff, beq_iff_eq, beq_iff_eq, ← Nat.mul_assoc]
  exact Nat.mul_left_inj (by omega)
 rw [h2, decide_eq_decide.2 h1]
/-- A cut below the zeros behind: nothing is lost. -/
theorem cut_exact (neg : Bool) (n d : Nat) : Toward.even.cut neg (n * 2 ^ d) d = n := by
 rcases Nat.eq_zero_or_pos n with rfl | hn
 ·rw [Nat.zero_mul]
  unfold Toward.cut
  simp [Nat.one_shiftLeft]
 ·have := cut_scale neg (Nat.pos_iff_ne_zero.1 hn) 0 d
  rw [Nat.zero_add] at this
  rw [this, cut_zero]
/-- The word of a number: how its places are spelled does not matter. -/
theorem nearest_scale (f : Format) (neg : Bool) (m : Nat) (e : Int) (j : Nat) : f.nearest neg (m * 2 ^ j) (e - j) = f.nearest neg m e := by
 by_cases hm : m = 0
 ·subst hm
  rw [Nat.zero_mul]
  simp [Format.nearest]
 have h1 : m * 2 ^ j ≠ 0 := Nat.mul_ne_zero hm (Nat.pos_iff_ne_zero.1 (Nat.two_pow_pos j))
 unfold Format.nearest
 rw [if_neg h1, if_neg hm]
 dsimp only
 rw [log2_shift hm]
 have e0 : e - (j : Int) + ((m.log2 + j : Nat) : Int) - (f.fractionBits : Int) = e + (m.log2 : Int) - f.fractionBits := by omega
 rw [e0]
 generalize max (e + (m.log2 : Int) - f.fractionBits) f.leastPlace = last
 have key : Toward.even.cut neg ((m * 2 ^ j) <<< (e - j - last).toNat) (last - (e - j)).toNat = Toward.even.cut neg (m <<< (e - last).toNat) (last - e).toNat := by
  rcases Int.lt_or_le e last with h | h
  ·obtain ⟨d, hd⟩ : ∃ d : Nat, last = e + d := ⟨(last - e).toNat, by omega⟩
   have a1 : (e - (j : Int) - last).toNat = 0 := by omega
   have a2 : (last - (e - (j : Int))).toNat = d + j := by omega
   have a3 : (e - last).toNat = 0 := by omega
   have a4 : (last - e).toNat = d := by omega
   rw [a1, a2, a3, a4, Nat.shiftLeft_zero, Nat.shiftLeft_zero, cut_scale neg hm]
  ·obtain ⟨d, hd⟩ : ∃ d : Nat, e = last + d := ⟨(e - last).toNat, by omega⟩
   have a3 : (e - last).toNat = d := by omega
   have a4 : (last - e).toNat = 0 := by omega
   rw [a3, a4, cut_zero]
   rcases Nat.lt_or_ge d j with hj | hj
   ·have a1 : (e - (j : Int) - last).toNat = 0 := by omega
    have a2 : (last - (e - (j : Int))).toNat = j - d := by omega
    rw [a1, a2, Nat.shiftLeft_zero]
    have : m * 2 ^ j = m * 2 ^ d * 2 ^ (j - d) := by rw [Nat.mul_assoc, ← Nat.pow_add]; congr 2; omega
    rw [this, cut_exact, Nat.shiftLeft_eq]
   ·have a1 : (e - (j : Int) - last).toNat = d - j := by omega
    have a2 : (last - (e - (j : Int))).toNat = 0 := by omega
    rw [a1, a2, cut_zero, Nat.shiftLeft_eq, Nat.shiftLeft_eq, Nat.mul_assoc, ← Nat.pow_add]
    congr 2
    omega
 rw [key]
/-- The word of a number that the format has, m of at most t + 1 digits, its last place at least the least: what its places say. -/
theorem nearest_exact (f : Format) (neg : Bool) {m : Nat} {e : Int} (h1 : m < 2 ^ (f.fractionBits + 1)) (h2 : f.leastPlace ≤ e) (h3 : 2 ^ f.fractionBits ≤ m ∨ e = f.leastPlace)
 (h4 : (e - f.leastPlace).toNat * 2 ^ f.fractionBits + m ≤ f.infRung) : f.nearest neg m e = f.word neg ((e - f.leastPlace).toNat * 2 ^ f.fractionBits + m) := by
 unfold Format.nearest
 by_cases hm : m = 0
 ·subst hm
  have : e = f.leastPlace := by
   rcases h3 with h3 | h3
   ·have := Nat.two_pow_pos f.fractionBits; omega
   ·exact h3
  subst this
  rw [if_pos rfl]; simp
 rw [if_neg hm]
 have a2 : m < 2 ^ (m.log2 + 1) := Nat.lt_log2_self
 have a1 := Nat.log2_self_le hm
 have hl : max (e + (m.log2 : Int) - f.fractionBits) f.leastPlace = e := by
  have b1 : m.log2 ≤ f.fractionBits := by
   have := (Nat.log2_lt hm).2 h1
   omega
  rcases h3 with h3 | h3
  ·have : f.fractionBits ≤ m.log2 := by rw [Nat.le_log2 hm]; exact h3
   omega
  ·omega
 dsimp only
 rw [hl]
 have e1 : (e - e).toNat = 0 := by omega
 rw [e1, Nat.shiftLeft_zero, cut_zero]
 unfold Format.binade
 rw [Nat.min_eq_left h4]
def S64 (s : Bool) : Nat := if s then 9223372036854775808 else 0
def S32 (s : Bool) : Nat := if s then 2147483648 else 0
/-- The word of a float64 by its fields. -/
def w64 (s : Bool) (X F : Nat) : Nat := S64 s + (X * 4503599627370496 + F)
theorem dlp : double.leastPlace = -1074 := by decide
theorem slp : single.leastPlace = -149 := by decide
theorem dinf : double.infRung = 9218868437227405312 := by decide
theorem sinf : single.infRung = 2139095040 := by decide
theorem dbin : double.binade = 4503599627370496 := by decide
theorem sbin : single.binade = 8388608 := by decide
theorem dsw : double.signWeight = 9223372036854775808 := by decide
theorem ssw : single.signWeight = 2147483648 := by decide
theorem dword (s : Bool) (r : Nat) : double.word s r = S64 s + r := by unfold Format.word S64; rw [dsw]; cases s <;> simp
theorem sword (s : Bool) (r : Nat) : single.word s r = S32 s + r := by unfold Format.word S32; rw [ssw]; cases s <;> simp
theorem dsplit (s : Bool) {r : Nat} (h : r < 9223372036854775808) : ((S64 s + r) / 9223372036854775808 % 2 == 1) = s ∧ (S64 s + r) % 9223372036854775808 = r := by
 unfold S64
 cases s
 ·rw [if_neg (by simp)]; exact ⟨by rw [Nat.zero_add, Nat.div_eq_of_lt h]; rfl, by omega⟩
 ·rw [if_pos rfl]; exact ⟨by rw [show (9223372036854775808 + r) / 9223372036854775808 = 1 by omega]; rfl, by omega⟩
theorem ssplit (s : Bool) {r : Nat} (h : r < 2147483648) : ((S32 s + r) / 2147483648 % 2 == 1) = s ∧ (S32 s + r) % 2147483648 = r := by
 unfold S32
 cases s
 ·rw [if_neg (by simp)]; exact ⟨by rw [Nat.zero_add, Nat.div_eq_of_lt h]; rfl, by omega⟩
 ·rw [if_pos rfl]; exact ⟨by rw [show (2147483648 + r) / 2147483648 = 1 by omega]; rfl, by omega⟩
/-- The significand and the place of a finite float32, of a finite float64, by the word without its sign. -/
def sg32 (r : Nat) : Nat := if r < 8388608 then r else 8388608 + r % 8388608
def pl32 (r : Nat) : Int := if r < 8388608 then -149 else (r / 8388608 : Nat) - 150
def sg64 (r : Nat) : Nat := if r < 4503599627370496 then r else 4503599627370496 + r % 4503599627370496
def pl64 (r : Nat) : Int := if r < 4503599627370496 then -1074 else (r / 4503599627370496 : Nat) - 1075
theorem read32 (s : Bool) {r : Nat} (h : r < 2139095040) : single.read (S32 s + r) = .number s (sg32 r) (pl32 r) := by
 obtain ⟨h1, h2⟩ := ssplit s (r := r) (by omega)
 unfold Format.read
 rw [ssw, sbin, sinf, slp]
 dsimp only
 rw [h1, h2]
 unfold sg32 pl32
 split
 ·rfl
 ·rename_i h3
  congr 1
  have : 1 ≤ r / 8388608 := by omega
  omega
theorem read64 (s : Bool) {r : Nat} (h : r < 9218868437227405312) : double.read (S64 s + r) = .number s (sg64 r) (pl64 r) := by
 obtain ⟨h1, h2⟩ := dsplit s (r := r) (by omega)
 unfold Format.read
 rw [dsw, dbin, dinf, dlp]
 dsimp only
 rw [h1, h2]
 unfold sg64 pl64
 split
 ·rfl
 ·rename_i h3
  congr 1
  have : 1 ≤ r / 4503599627370496 := by omega
  omega
/-- A word of 32 bits is finite, infinite or no number. -/
def fin32 (b : Nat) : Bool := decide (b % 2147483648 < 2139095040)
def neg32 (b : Nat) : Bool := decide (2147483648 ≤ b)
theorem split32 {b : Nat} (h : b < 4294967296) : b = S32 (neg32 b) + b % 2147483648 := by
 unfold S32 neg32
 by_cases h1 : 2147483648 ≤ b
 ·rw [decide_eq_true h1, if_pos rfl]; omega
 ·rw [decide_eq_false h1, if_neg (by simp)]; omega
/-- The float64 of a number. -/
def dbl (s : Bool) (m : Nat) (e : Int) : Nat := double.nearest s m e
theorem dbl_zero (s : Bool) (e : Int) : dbl s 0 e = S64 s := by
 unfold dbl Format.nearest
 rw [if_pos rfl, dword]; rfl
theorem log2_lt53 {m : Nat} (hm : m ≠ 0) (h : m < 9007199254740992) : m.log2 ≤ 52 := by
 have := (Nat.log2_lt (k := 53) hm).2 (by simpa using h)
 omega
theorem norm53 {m : Nat} (hm : m ≠ 0) (h : m < 9007199254740992) : 4503599627370496 ≤ m * 2 ^ (52 - m.log2) ∧ m * 2 ^ (52 - m.log2) < 9007199254740992 := by
 have h1 := log2_lt53 hm h
 have a1 := Nat.log2_self_le hm
 have a2 : m < 2 ^ (m.log2 + 1) := Nat.lt_log2_self
 constructor
 ·have : 2 ^ m.log2 * 2 ^ (52 - m.log2) ≤ m * 2 ^ (52 - m.log2) := Nat.mul_le_mul_right _ a1
  rw [← Nat.pow_add, show m.log2 + (52 - m.log2) = 52 by omega] at this
  simpa using this
 ·have : m * 2 ^ (52 - m.log2) < 2 ^ (m.log2 + 1) * 2 ^ (52 - m.log2) := Nat.mul_lt_mul_of_pos_right a2 (pp _)
  rw [← Nat.pow_add, show m.log2 + 1 + (52 - m.log2) = 53 by omega] at this
  simpa using this
theorem dbl_bits {s : Bool} {m : Nat} {e : Int} (hm : m ≠ 0) (h : m < 9007199254740992) (h1 : -1022 ≤ e + m.log2) (h2 : e + m.log2 ≤ 1023) :
 dbl s m e = w64 s (e + m.log2 + 1023).toNat (m * 2 ^ (52 - m.log2) - 4503599627370496) := by
 have hl := log2_lt53 hm h
 obtain ⟨n1, n2⟩ := norm53 hm h
 unfold dbl
 rw [← nearest_scale double s m e (52 - m.log2), nearest_exact]
 ·rw [dword, dlp]
  unfold w64
  have : (e - ((52 - m.log2 : Nat) : Int) - -1074).toNat + 1 = (e + m.log2 + 1023).toNat := by omega
  rw [← this]
  show S64 s + (_ * 4503599627370496 + _) = _
  omega
 ·exact n2
 ·rw [dlp]; omega
 ·left; exact n1
 ·rw [dlp, dinf]
  show _ * 4503599627370496 + _ ≤ _
  have : (e - ((52 - m.log2 : Nat) : Int) - -1074).toNat ≤ 2045 := by omega
  omega
/-- The rung of the float64 of a number. -/
def rg64 (m : Nat) (e : Int) : Nat := if m = 0 then 0 else (e + m.log2 + 1023).toNat * 4503599627370496 + (m * 2 ^ (52 - m.log2) - 4503599627370496)
theorem dbl_rg {s : Bool} {m : Nat} {e : Int} (h : m < 9007199254740992) (h1 : -1022 ≤ e + m.log2) (h2 : e + m.log2 ≤ 1023) : dbl s m e = S64 s + rg64 m e ∧ rg64 m e < 9218868437227405312 := by
 unfold rg64
 split
 ·rename_i h0; subst h0; rw [dbl_zero]; exact ⟨rfl, by omega⟩
 ·rename_i h0
  obtain ⟨n1, n2⟩ := norm53 h0 h
  exact ⟨dbl_bits h0 h h1 h2, by omega⟩
theorem rg_sig {m : Nat} {e : Int} (hm : m ≠ 0) (h : m < 9007199254740992) (h1 : -1022 ≤ e + m.log2) : sg64 (rg64 m e) = m * 2 ^ (52 - m.log2) ∧ pl64 (rg64 m e) = e - (52 - m.log2 : Nat) := by
 have hl := log2_lt53 hm h
 obtain ⟨n1, n2⟩ := norm53 hm h
 unfold rg64
 rw [if_neg hm]
 obtain ⟨X, hX⟩ : ∃ X, (e + m.log2 + 1023).toNat = X := ⟨_, rfl⟩
 rw [hX]
 generalize m * 2 ^ (52 - m.log2) = M at *
 unfold sg64 pl64
 rw [if_neg (by omega), if_neg (by omega)]
 have a1 : (X * 4503599627370496 + (M - 4503599627370496)) % 4503599627370496 = M - 4503599627370496 := by omega
 have a2 : (X * 4503599627370496 + (M - 4503599627370496)) / 4503599627370496 = X := by omega
 rw [a1, a2]
 exact ⟨by omega, by omega⟩
theorem read_dbl {s : Bool} {m : Nat} {e : Int} (h : m < 9007199254740992) (h1 : -1022 ≤ e + m.log2) (h2 : e + m.log2 ≤ 1023) : double.read (dbl s m e) = .number s (sg64 (rg64 m e)) (pl64 (rg64 m e)) := by
 obtain ⟨e1, e2⟩ := dbl_rg (s := s) h h1 h2
 rw [e1, read64 s e2]
theorem sg32_lt (r : Nat) : sg32 r < 16777216 := by unfold sg32; split <;> omega
theorem pl32_ge (r : Nat) : -149 ≤ pl32 r := by unfold pl32; split <;> omega
theorem pl32_le {r : Nat} (h : r < 2139095040) : pl32 r ≤ 104 := by unfold pl32; split <;> omega
theorem log2_24 {m : Nat} (h : m ≤ 16777216) : m.log2 ≤ 24 := by
 by_cases hm : m = 0
 ·subst hm; decide
 ·have := (Nat.log2_lt (k := 25) hm).2 (by (have e : (2 : Nat) ^ 25 = 33554432 := by decide); omega)
  omega
/-- float64(x) of a finite float32. -/
theorem f2d (s : Bool) {r : Nat} (h : r < 2139095040) : floatToFloatBits .f32 (S32 s + r) .f64 = some (dbl s (sg32 r) (pl32 r)) := by
 have hr := read32 s h
 have a1 := sg32_lt r
 have a2 := pl32_ge r
 have a3 := pl32_le h
 have a4 := log2_24 (m := sg32 r) (by omega)
 have hd := read_dbl (s := s) (m := sg32 r) (e := pl32 r) (by omega) (by omega) (by omega)
 unfold floatToFloatBits
 rw [if_neg (by decide)]
 show (match single.read (S32 s + r) with | .nan _ _ => none | .infinity s => _ | .number s m e => _) = _
 rw [hr]
 show (if (double.read (dbl s (sg32 r) (pl32 r))).isInfinity = true then none else some (dbl s (sg32 r) (pl32 r))) = _
 rw [hd, if_neg]
 simp [Datum.isInfinity]
/-- float32(y) of a number that float32 has. -/
theorem d2f (s : Bool) {m : Nat} {e : Int} (h0 : m ≤ 16777216) (h1 : -149 ≤ e) (h2 : 8388608 ≤ m ∨ e = -149) (h3 : (e + 149).toNat * 8388608 + m < 2139095040) :
 floatToFloatBits .f64 (dbl s m e) .f32 = some (S32 s + ((e + 149).toNat * 8388608 + m)) := by
 have a4 := log2_24 h0
 have hd := read_dbl (s := s) (m := m) (e := e) (by omega) (by omega) (by omega)
 have key : single.nearest s (sg64 (rg64 m e)) (pl64 (rg64 m e)) = S32 s + ((e + 149).toNat * 8388608 + m) := by
  have e0 : single.nearest s (sg64 (rg64 m e)) (pl64 (rg64 m e)) = single.nearest s m e := by
   by_cases hm : m = 0
   ·subst hm
    have : rg64 0 e = 0 := by unfold rg64; rw [if_pos rfl]
    rw [this]
    unfold Format.nearest
    rw [if_pos (by decide), if_pos rfl]
   ·obtain ⟨s1, s2⟩ := rg_sig (e := e) hm (by omega) (by omega)
    rw [s1, s2]
    exact nearest_scale _ _ _ _ _
  rw [e0]
  by_cases hm : m = 16777216
  ·have he : single.nearest s m e = single.nearest s 8388608 (e + 1) := by
    have := nearest_scale single s 8388608 (e + 1) 1
    rw [show ((1 : Nat) : Int) = 1 from rfl, Int.add_sub_cancel] at this
    rw [hm, ← this]
   rw [he, nearest_exact]
   ·rw [sword, slp]
    show S32 s + (_ * 8388608 + _) = _
    have : (e + 1 - -149).toNat = (e + 149).toNat + 1 := by omega
    rw [this]
    omega
   ·decide
   ·rw [slp]; omega
   ·left; decide
   ·rw [slp, sinf]
    show _ * 8388608 + _ ≤ _
    have : (e + 1 - -149).toNat = (e + 149).toNat + 1 := by omega
    omega
  ·rw [nearest_exact]
   ·rw [sword, slp]
    show S32 s + (_ * 8388608 + _) = _
    rw [Int.sub_neg]
   ·show m < 16777216
    omega
   ·rw [slp]; exact h1
   ·rw [slp]; exact h2
   ·rw [slp, sinf, Int.sub_neg]
    exact Nat.le_of_lt h3
 unfold floatToFloatBits
 rw [if_neg (by decide)]
 show (match double.read (dbl s m e) with | .nan _ _ => none | .infinity s => _ | .number s m e => _) = _
 rw [hd]
 show (if (single.read (single.nearest s (sg64 (rg64 m e)) (pl64 (rg64 m e)))).isInfinity = true then none else some (single.nearest s (sg64 (rg64 m e)) (pl64 (rg64 m e)))) = _
 rw [key, read32 s h3, if_neg]
 simp [Datum.isInfinity]
theorem ord_self {s : Bool} {r : Nat} (h : r < 9218868437227405312) : double.order (S64 s + r) (S64 s + r) = some .eq := by
 unfold Format.order
 rw [read64 s h]
 simp [Datum.order]
theorem sg64_lt (r : Nat) : sg64 r < 9007199254740992 := by unfold sg64; split <;> omega
theorem pl64_ge (r : Nat) : -1074 ≤ pl64 r := by unfold pl64; split <;> omega
theorem pl64_le {r : Nat} (h : r < 9218868437227405312) : pl64 r ≤ 971 := by unfold pl64; split <;> omega
theorem sg64_zero {r : Nat} : sg64 r = 0 ↔ r = 0 := by unfold sg64; split <;> omega
theorem cpi_lt {a b : Int} (h : a < b) : compare a b = .lt := by simp [compare, compareOfLessAndEq, h]
theorem cpi_eq {a b : Int} (h : a = b) : compare a b = .eq := by subst h; simp [compare, compareOfLessAndEq]
theorem cpi_gt {a b : Int} (h : b < a) : compare a b = .gt := by
 show compareOfLessAndEq a b = _
 unfold compareOfLessAndEq
 rw [if_neg (by omega), if_neg (by omega)]
theorem signed_pos {m : Nat} (hm : m ≠ 0) (k : Nat) : 0 < signed false m k := by
 unfold signed
 rw [if_neg (by simp), Nat.shiftLeft_eq]
 have := Nat.mul_pos (Nat.pos_of_ne_zero hm) (pp k)
 omega
theorem signed_neg {m : Nat} (hm : m ≠ 0) (k : Nat) : signed true m k < 0 := by
 unfold signed
 rw [if_pos rfl, Nat.shiftLeft_eq]
 have := Nat.mul_pos (Nat.pos_of_ne_zero hm) (pp k)
 omega
theorem signed_zero (s : Bool) (k : Nat) : signed s 0 k = 0 := by
 unfold signed
 rw [Nat.zero_shiftLeft]; cases s <;> simp
/-- Against zero. -/
theorem ord_zero {s : Bool} {r : Nat} (h : r < 9218868437227405312) : double.order (S64 s + r) 0 = some (if r = 0 then .eq else if s then .lt else .gt) := by
 unfold Format.order
 rw [read64 s h, show double.read 0 = .number false 0 (-1074) from by decide]
 show some (compare (signed s (sg64 r) _) (signed false 0 _)) = _
 rw [signed_zero]
 by_cases h0 : r = 0
 ·subst h0
  rw [show sg64 0 = 0 from by decide, signed_zero, if_pos rfl, cpi_eq rfl]
 ·rw [if_neg h0]
  have := (not_congr (sg64_zero (r := r))).2 h0
  cases s
  ·rw [cpi_gt (signed_pos this _)]; rfl
  ·rw [cpi_lt (signed_neg this _)]; rfl
theorem signed_le {m : Nat} {k : Nat} (h : m < 9007199254740992) : signed false m 0 ≤ signed false 9007199254740991 k ∧ signed true 9007199254740991 k ≤ signed true m 0 := by
 unfold signed
 rw [if_neg (by simp), if_neg (by simp), if_pos rfl, if_pos rfl, Nat.shiftLeft_eq, Nat.shiftLeft_eq, Nat.pow_zero]
 have := Nat.mul_le_mul_left 9007199254740991 (pp k)
 omega
theorem signed_sgn (m k : Nat) : 0 ≤ signed false m k ∧ signed true m k ≤ 0 := by
 unfold signed
 rw [if_neg (by simp), if_pos rfl]
 exact ⟨Int.natCast_nonneg _, by have := Int.natCast_nonneg (m <<< k); omega⟩
/-- Against the greatest finite number, and its opposite. -/
theorem ord_max {s : Bool} {r : Nat} (h : r < 9218868437227405312) : double.order (S64 s + r) 9218868437227405311 ≠ some .gt ∧ double.order (S64 s + r) 18442240474082181119 ≠ some .lt := by
 have h1 := pl64_le h
 have h2 := sg64_lt r
 unfold Format.order
 rw [read64 s h, show double.read 9218868437227405311 = .number false 9007199254740991 971 from by decide, show double.read 18442240474082181119 = .number true 9007199254740991 971 from by decide]
 show some (compare (signed s (sg64 r) (pl64 r - min (pl64 r) 971).toNat) (signed false 9007199254740991 (971 - min (pl64 r) 971).toNat)) ≠ _ ∧ some (compare (signed s (sg64 r) (pl64 r - min (pl64 r) 971).toNat) (signed true 9007199254740991 (971 - min (pl64 r) 971).toNat)) ≠ _
 rw [Int.min_eq_left h1, Int.sub_self]
 obtain ⟨a1, a2⟩ := signed_le (m := sg64 r) (k := (971 - pl64 r).toNat) h2
 obtain ⟨b1, b2⟩ := signed_sgn (sg64 r) 0
 obtain ⟨c1, c2⟩ := signed_sgn 9007199254740991 (971 - pl64 r).toNat
 have t0 : (0 : Int).toNat = 0 := rfl
 rw [t0]
 constructor
 ·intro hc
  injection hc with hc
  have : signed s (sg64 r) 0 ≤ signed false 9007199254740991 (971 - pl64 r).toNat := by cases s <;> omega
  rcases Int.lt_or_eq_of_le this with h3 | h3
  ·rw [cpi_lt h3] at hc; cases hc
  ·rw [cpi_eq h3] at hc; cases hc
 ·intro hc
  injection hc with hc
  have : signed true 9007199254740991 (971 - pl64 r).toNat ≤ signed s (sg64 r) 0 := by cases s <;> omega
  rcases Int.lt_or_eq_of_le this with h3 | h3
  ·rw [cpi_gt h3] at hc; cases hc
  ·rw [cpi_eq h3.symm] at hc; cases hc
/-- What Frexp and Ldexp make of a finite float64 (by its word without the sign): a significand and an exponent. -/
def exm (r : Nat) : Nat := if r = 0 then 0 else sg64 r * 2 ^ (52 - (sg64 r).log2)
def exe (r : Nat) : Int := if r = 0 then -53 else pl64 r - (52 - (sg64 r).log2 : Nat)
/-- The numerator and the denominator of a number with a power of two. -/
def vp (m : Nat) (e : Int) : Nat := m * 2 ^ e.toNat
def vq (e : Int) : Nat := 2 ^ (-e).toNat
theorem vq_pos (e : Int) : 0 < vq e := pp _
/-- The same number. -/
theorem vp_scale (m : Nat) (e : Int) (j : Nat) : vp (m * 2 ^ j) (e - j) * vq e = vp m e * vq (e - j) := by
 unfold vp vq
 rw [Nat.mul_assoc, Nat.mul_assoc, Nat.mul_assoc, ← Nat.pow_add, ← Nat.pow_add, ← Nat.pow_add]
 congr 2
 omega
theorem vp_zero (e : Int) : vp 0 e = 0 := by unfold vp; rw [Nat.zero_mul]
theorem ex_same (r : Nat) : vp (exm r) (exe r) * vq (pl64 r) = vp (sg64 r) (pl64 r) * vq (exe r) := by
 unfold exm exe
 split
 ·rename_i h; subst h
  rw [show sg64 0 = 0 from by decide, vp_zero, vp_zero, Nat.zero_mul, Nat.zero_mul]
 ·exact vp_scale _ _ _
theorem rg_same {m : Nat} {e : Int} (h : m < 9007199254740992) (h1 : -1022 ≤ e + m.log2) : vp (sg64 (rg64 m e)) (pl64 (rg64 m e)) * vq e = vp m e * vq (pl64 (rg64 m e)) := by
 by_cases hm : m = 0
 ·subst hm
  rw [show rg64 0 e = 0 from by unfold rg64; rw [if_pos rfl], show sg64 0 = 0 from by decide, vp_zero, vp_zero, Nat.zero_mul, Nat.zero_mul]
 ·obtain ⟨s1, s2⟩ := rg_sig hm h h1
  rw [s1, s2]
  exact vp_scale _ _ _
/-- Fractions: the same through a third one. -/
theorem cross_trans {a b c d e f : Nat} (hd : 0 < d) (h1 : a * d = c * b) (h2 : c * f = e * d) : a * f = e * b := by
 have : a * f * d = e * b * d := by
  rw [Nat.mul_right_comm, h1, Nat.mul_right_comm, h2, Nat.mul_right_comm]
 exact Nat.eq_of_mul_eq_mul_right hd this
/-- The exact value of the float64 of a number is the number. -/
theorem ex_dbl {m : Nat} {e : Int} (h : m < 9007199254740992) (h1 : -1022 ≤ e + m.log2) : vp (exm (rg64 m e)) (exe (rg64 m e)) * vq e = vp m e * vq (exe (rg64 m e)) :=
 cross_trans (vq_pos _) (ex_same _) (rg_same h h1)
theorem evn_small {A B : Nat} (h : 2 * A < B) : evn A B = 0 := by
 unfold evn
 rw [Nat.div_eq_of_lt (by omega), Nat.mod_eq_of_lt (by omega), if_neg (by omega)]
end
end Go.Proofs.YtnjbinpbkjdjpaaGreatDoor.Nm
