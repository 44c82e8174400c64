import Derived.Test.YtnjbinpbkjdjpaaGreatDoorP3
import Derived.Test.YtnjbinpbkjdjpaaGreatDoorP5
import Derived.Test.YtnjbinpbkjdjpaaGreatDoorP4
import Derived.Test.YtnjbinpbkjdjpaaGreatDoorP1
/- Own text: contracts and laws on which the card rests (NmX NmY NnL NmZ0). -/
set_option linter.unusedVariables false
set_option linter.unusedSimpArgs false
set_option maxRecDepth 1000000
set_option maxHeartbeats 16000000
namespace Go.Proofs.YtnjbinpbkjdjpaaGreatDoor.Nm
section
open Go.Proofs.YtnjbinpbkjdjpaaGreatDoor.Rf Go.Proofs.YtnjbinpbkjdjpaaGreatDoorW.PrintLast Go.Proofs.YtnjbinpbkjdjpaaGreatDoorW.PrintMore Go.Proofs.YtnjbinpbkjdjpaaGreatDoorW.PrintWords Go.RowKit Go.Shelf
attribute [local go_sem] Oper.semAt_some
theorem lst_more {W : World} {B B' L : Nat} {A : Option Addr} {xs : List Nat} (h : Lst W B A L xs) (hB : B ≤ B') : Lst W B' A L xs :=
 ⟨h.1, fun hL => let ⟨b, e, hb, hc⟩ := h.2 hL; ⟨b, e, Nat.lt_of_lt_of_le hb hB, hc⟩⟩
theorem lst_upA {W W2 : World} {L : Nat} {A : Option Addr} {xs : List Nat} (h : Lst W W.heap.size A L xs) (hb : Below W.heap.size W W2) : Lst W2 W2.heap.size A L xs := lst_more (h.below hb) hb.size
theorem lst_lit2 {b : Nat} {W cur : World} (h : Below b W cur) (d : Nat) (t : TypeId) : Lst (cur.alloc (.cells #[.int .u32 d] t)) (cur.alloc (.cells #[.int .u32 d] t)).heap.size (some ⟨cur.heap.size, 0, none⟩) 1 [d] := lst_more (lst_lit h d t) (by simp)
theorem opaqueA {W : World} {B L : Nat} {A : Option Addr} {xs : List Nat} (h : Aside0 (Lst W B A L xs)) : ∃ A5, A = A5 ∧ Aside0 (Lst W B A5 L xs) := ⟨A, rfl, h⟩
theorem DJ.box {w : World} {zz Bb c9 C10 C11 cq pb kb N top next s LQ R : Nat} {Ar : Option Addr} {kr : Nat} {qs : List Nat} {X : World} (h : DJ w zz Bb c9 C10 C11 cq pb kb N top next s LQ R Ar kr qs X) {b : Nat} {t : TypeId} {v : Value} (hx : Boxed X b t v) (hv : ∀ d : Int, v ≠ .int .u32 d) (hb : cq + 3 ≤ b) (u : Value) :
 DJ w zz Bb c9 C10 C11 cq pb kb N top next s LQ R Ar kr qs (X.setCell ⟨b, 0, none⟩ u) := by
 have hc := h.hc
 exact ⟨h.r2.other (by omega) _, h.r3.other (by omega) _, h.sc.other (by omega) _, h.sl.other (by omega) _, h.b8.other (by omega) _, h.b9.other (by omega) _, h.b10.other (by omega) _, h.b11.other (by omega) _, h.b12.other (by omega) _, h.mb.setA (h.mb.apart hx.cell hv) _ _, h.b13.other (by omega) _, h.mr.upS hx hv _ _, h.row.other (by omega) _ _, h.hc, h.bl.setCell (p := ⟨b, 0, none⟩) (show w.heap.size ≤ b by omega) _⟩
theorem DJ.di {w : World} {zz Bb c9 C10 C11 cq pb kb N M top next s LQ ka R i k : Nat} {Ar : Option Addr} {kr : Nat} {own : List Nat} {X : World} (h : DJ w zz Bb c9 C10 C11 cq pb kb N top next s LQ R Ar kr (tops BB (M / N) LQ i) X) (hk : k + 1 + i = ka) (hR : R = M / BB ^ i % N)
 (hfr : ∀ c, 0 < kr → Ar = some ⟨c, 0, none⟩ → cq + 3 ≤ c ∧ c ∉ own) (lo : ∀ r, r ∈ own → cq + 3 ≤ r) : DI w zz Bb c9 C10 C11 cq pb kb N M top next s LQ ka (backs (dg BB M) (k + 1)) own X :=
 ⟨h.r2, h.r3, h.sc, h.sl, h.b8, h.b9, h.b10, h.b11, h.b12, h.mb, ⟨k + 1, Ar, kr, by omega, rfl, h.b13, by rw [show ka - (k + 1) = i by omega, ← hR]; exact h.mr, hfr, by rw [show ka - (k + 1) = i by omega]; exact h.row⟩, lo, h.hc, h.bl⟩
/-- What div hands back when its mark has been taken. -/
theorem div_end (w W3 : World) (D : Nat) (tmps : Array Value) (x y : Value) (R : Ending → World → Prop) (h4 : tmps[4]?.getD undef = .pointer (some ⟨w.heap.size + 1 + 1, 0, none⟩)) (h5 : tmps[5]?.getD undef = .pointer (some ⟨w.heap.size + 1 + 1 + 1, 0, none⟩)) (hD : w.heap.size + 3 < D) (hK : W3.heap[D]? = some (.deferred (some [])))
 (c2 : W3.cell? ⟨w.heap.size + 1 + 1, 0, none⟩ = some x) (c3 : W3.cell? ⟨w.heap.size + 1 + 1 + 1, 0, none⟩ = some y) (hR : R (.returned (.tuple #[.agg #[x], .agg #[y]])) (W3.putObj D (.deferred none))) : bodyPostM Fence.wide 6 Tryz.prog Tryz.f181 R Exit.ret { tmps, defers := [{ target := .collected D, args := #[] }] } W3 := by
 refine ⟨by simp, .inl ⟨_, _, rfl, run_takeDeferred hK, ?_⟩⟩
 refine ⟨_, ?_, hR⟩
 have k2 : (W3.putObj D (.deferred none)).cell? ⟨w.heap.size + 1 + 1, 0, none⟩ = some x := (World.cell?_of_block (World.putObj_heap_other (by simp; omega))).trans c2
 have k3 : (W3.putObj D (.deferred none)).cell? ⟨w.heap.size + 1 + 1 + 1, 0, none⟩ = some y := (World.cell?_of_block (World.putObj_heap_other (by simp; omega))).trans c3
 simp [results, Tryz.results181, go_sem, h4, h5, k2, k3]
theorem hbv_set {b Ba : Nat} {wr X : World} {t : TypeId} {v : Value} (h : Aside0 (Below b wr X)) (hx : Boxed X Ba t v) (hl : b ≤ Ba) (u : Value) : Aside0 (Below b wr (X.setCell ⟨Ba, 0, none⟩ u)) := ⟨h.out.setCell (p := ⟨Ba, 0, none⟩) hl u⟩
theorem opaque0 {b : Nat} {wr X : World} (h : Aside0 (Below b wr X)) : ∃ Y, X = Y ∧ Aside0 (Below b wr Y) := ⟨X, rfl, h⟩
theorem div_many {w : World} {B : Nat} {A1 A2 : Option Addr} {L1 L2 m n : Nat} (h1 : Mag w B A1 L1 m) (h2 : Mag w B A2 L2 n) (hB : B ≤ w.heap.size) (hle : n ≤ m) (hL2 : 2 ≤ L2) (hs1 : L1 ≤ 40000) (hs2 : L2 ≤ 40000) :
 Calls Tryz.prog 181 #[.agg #[.slice A1 L1 L1], .agg #[.slice A2 L2 L2]] w (DivPost w m n) := by
 have H1 : Aside0 (Mag w B A1 L1 m) := ⟨h1⟩
 have H2 : Aside0 (Mag w B A2 L2 n) := ⟨h2⟩
 obtain ⟨b, hA, hb, hc⟩ := h2.2.2 (by omega)
 obtain ⟨t, ht⟩ : ∃ t, n / BB ^ (L2 - 1) % BB = t := ⟨_, rfl⟩
 have ht1 : t < 1000000000 := by rw [← ht]; exact Nat.mod_lt _ (by decide)
 have hct := hc (L2 - 1) (by omega)
 rw [dg_getD BB1, ht] at hct
 obtain ⟨s, hs⟩ : ∃ s, 1000000000 / (t + 1) = s := ⟨_, rfl⟩
 have hs0 : 0 < s := by rw [← hs]; exact Nat.div_pos (by omega) (by omega)
 have hsb : s ≤ 1000000000 := by rw [← hs]; exact Nat.div_le_self _ _
 have hsB : s < BB := by
  have hpos : 0 < t := by
   rw [← ht]
   have h := dg_ge_pow BB1 (L2 - 1) n (by rw [h2.1]; omega)
   have h' := dg_lt_pow BB1 n
   rw [h2.1, show L2 = (L2 - 1) + 1 by omega, Nat.pow_succ] at h'
   have e : n / BB ^ (L2 - 1) < BB := by rw [Nat.div_lt_iff_lt_mul (Nat.pow_pos (by decide)), Nat.mul_comm]; exact h'
   rw [Nat.mod_eq_of_lt e]
   exact Nat.div_pos h (Nat.pow_pos (by decide))
  rw [← hs]
  exact Nat.div_lt_self (by omega) (by omega)
 subst hA
 obtain ⟨c, hcc⟩ : ∃ c, cmpI (m : Int) n = c := ⟨_, rfl⟩
 have hcd : decide (c < 0) = false := decide_eq_false (by rw [← hcc]; unfold cmpI; rw [if_neg (by omega)]; split <;> omega)
 have HV : Aside0 (cmpI (m : Int) n = c ∧ 0 < s ∧ s < BB) := ⟨hcc, hs0, hsB⟩
 have HC : Aside0 (w.cell? ⟨b, L2 - 1, none⟩ = some (.int .u32 (t : Int))) := ⟨hct⟩
 have hbw : b < w.heap.size := by omega
 have e0 : ((L2 : Int) == 1) = false := by simp; omega
 have e0' : ¬ L2 = 1 := by omega
 have e1 : IntKind.i64.wrap ((L2 : Int) - 1) = ((L2 - 1 : Nat) : Int) := by rw [IntWalk.i64_in _ (by omega)]; omega
 have e2 : IntKind.u64.wrap (t : Int) = (t : Int) := IntWalk.u64_in _ (by omega)
 have e3 : IntKind.u64.wrap ((t : Int) + 1) = (t : Int) + 1 := IntWalk.u64_in _ (by omega)
 have e4 : IntKind.u64.wrap (1000000000 / ((t : Int) + 1)) = (s : Int) := by
  have : (1000000000 : Int) / ((t : Int) + 1) = (s : Int) := by rw [← hs]; simp
  rw [this]; exact IntWalk.u64_in _ (by omega)
 have HES : Aside0 ((1000000000 : Int) / ((t : Int) + 1) % 4294967296 = (s : Int)) := ⟨by
  have : (1000000000 : Int) / ((t : Int) + 1) = (s : Int) := by rw [← hs]; simp
  rw [this]; omega⟩
 have e5 : IntKind.u32.wrap (s : Int) = (s : Int) := IntWalk.u32_in _ (by omega)
 have e6 : ¬ (t : Int) + 1 = 0 := by omega
 have e7 : ((L2 - 1 : Nat) : Int) < (L2 : Int) := by omega
 have e8 : (0 : Int) ≤ ((L2 - 1 : Nat) : Int) := by omega
 generalize hj : L2 - 1 = j at *
 clear h1 h2 hcc hs0 hsb hsB hc hb hct ht hs
 refine (callsIn_wide (n := 6)).1 ?_
 refine callsIn_of_wp_marks Tryz.func181 rfl trivial ?_ rfl
 simp only [Tryz.ntmps181, List.size_toArray, List.length_cons, List.length_nil, Nat.reduceAdd, Nat.reduceSub, Array.replicate_succ, Array.replicate_zero, List.push_toArray, List.append_toArray, List.nil_append, List.cons_append]
 refine wpIn_wide.2 ?_
 go_wp2_with (go_at_call 182; (with_reducible refine (order_any H1.out H2.out hB (by repeat (first | exact Below.refl _ _ | apply below_alloc)) HV.out.1).mono ?_); rintro e w1 ⟨rfl, hb1⟩; have t1 : w1.cell? ⟨w.heap.size + 1, 0, none⟩ = some (.slice (some ⟨b, 0, none⟩) L2 L2) := (hb1.cell (p := ⟨w.heap.size + 1, 0, none⟩) (by first | (simp; done) | (simp; omega))).trans (by simp [go_sem]); have tb : w1.cell? ⟨b, j, none⟩ = some (.int .u32 (t : Int)) := (hb1.cell (p := ⟨b, j, none⟩) (by simp; omega)).trans ((Below.cell (p := ⟨b, j, none⟩) (show Below w.heap.size w _ from by repeat (first | exact Below.refl _ _ | apply below_alloc)) hbw).trans HC.out))
 rw [HES.out]
 obtain ⟨z, hz⟩ : ∃ z, w1.heap.size = z := ⟨_, rfl⟩
 rw [hz]
 obtain ⟨wr, hwr⟩ : ∃ wr, ((w1.alloc (.cells #[.int .u32 (s : Int)] 22)).alloc (.cells #[.slice (some ⟨z, 0, none⟩) 1 1] 109)) = wr := ⟨_, rfl⟩
 have HA : Aside0 (Below w.heap.size w wr ∧ w.heap.size + 4 ≤ z ∧ wr.heap.size = z + 2) := ⟨by
  have hz' := hb1.size
  simp at hz'
  subst hwr
  refine ⟨below_alloc (below_alloc (below_step (by repeat (first | exact Below.refl _ _ | apply below_alloc)) hb1) _) _, by omega, by simp; omega⟩⟩
 have hwa : Below w1.heap.size w1 wr := by subst hwr; repeat (first | exact Below.refl _ _ | apply below_alloc)
 obtain ⟨f0, f1⟩ := bcell hb1
 have HX : Aside0 (wr.cell? ⟨w.heap.size, 0, none⟩ = some (.slice A1 L1 L1) ∧ wr.cell? ⟨w.heap.size + 1, 0, none⟩ = some (.slice (some ⟨b, 0, none⟩) L2 L2) ∧ wr.cell? ⟨z + 1, 0, none⟩ = some (.slice (some ⟨z, 0, none⟩) 1 1) ∧ wr.cell? ⟨z, 0, none⟩ = some (.int .u32 (s : Int))) :=
  ⟨keepAt hwa ((f0 _ _ (by first | (simp; done) | (simp; omega))).trans (by simp [go_sem])), keepAt hwa ((f0 _ _ (by first | (simp; done) | (simp; omega))).trans (by simp [go_sem])), by subst hwr hz; simp, by subst hwr hz; simp⟩
 have HR : Aside0 (Boxed wr (w.heap.size + 1 + 1) 109 (.slice none 0 0) ∧ Boxed wr (w.heap.size + 1 + 1 + 1) 109 (.slice none 0 0)) := ⟨
  boxed_below (boxed_below (((boxed_at ((w.alloc (.cells #[.slice A1 L1 L1] 109)).alloc (.cells #[.slice (some ⟨b, 0, none⟩) L2 L2] 109)) _ _ _ (by simp)).alloc _)) hb1) hwa,
  boxed_below (boxed_below (boxed_at (((w.alloc (.cells #[.slice A1 L1 L1] 109)).alloc (.cells #[.slice (some ⟨b, 0, none⟩) L2 L2] 109)).alloc (.cells #[.slice none 0 0] 109)) _ _ _ (by simp)) hb1) hwa⟩
 have HXB : Aside0 (Boxed wr (z + 1) 109 (.slice (some ⟨z, 0, none⟩) 1 1) ∧ Boxed wr z 22 (.int .u32 (s : Int))) := ⟨by
  subst hwr hz
  exact boxed_at (w1.alloc _) _ _ _ (by simp), by
  subst hwr hz
  exact (boxed_at w1 _ _ _ rfl).alloc _⟩
 rw [hwr]
 clear hwr hwa f0 f1 hb1 t1 tb hz
 have HM : Aside0 (∀ cur, Below wr.heap.size wr cur → Mag cur cur.heap.size A1 L1 m ∧ Mag cur cur.heap.size (some ⟨b, 0, none⟩) L2 n ∧ Mag cur cur.heap.size (some ⟨z, 0, none⟩) 1 s) := ⟨fun cur hcur => by
  have hw : Below w.heap.size w cur := HA.out.1.trans (hcur.mono HA.out.1.size)
  exact ⟨(H1.out.keep hB hw).more (Nat.le_trans hB hw.size), (H2.out.keep hB hw).more (Nat.le_trans hB hw.size), (mag_one HX.out.2.2.2 HV.out.2.1 HV.out.2.2).up hcur⟩⟩
 rename_i K1 hK1
 clear e0 e0' e1 e2 e3 e4 e5 e6 e7 e8 hcd
 refine wp_mid (fun T0 T W => ∃ Aa ka Ab kb Ba Bb, T = (((((((T0.setIfInBounds 54 (.agg #[.slice A1 L1 L1])).setIfInBounds 55 (.agg #[.slice (some ⟨z, 0, none⟩) 1 1])).setIfInBounds 56 (.agg #[.slice Aa ka ka])).setIfInBounds 57 (.agg #[.slice (some ⟨b, 0, none⟩) L2 L2])).setIfInBounds 58 (.agg #[.slice (some ⟨z, 0, none⟩) 1 1])).setIfInBounds 59 (.agg #[.slice Ab kb kb])).setIfInBounds 7 (.pointer (some ⟨Ba, 0, none⟩))).setIfInBounds 8 (.pointer (some ⟨Bb, 0, none⟩)) ∧
  Boxed W Ba 109 (.slice Aa ka ka) ∧ Boxed W Bb 109 (.slice Ab kb kb) ∧ Mag W W.heap.size Aa ka (m * s) ∧ Mag W W.heap.size Ab kb (n * s) ∧ Below wr.heap.size wr W ∧ wr.heap.size ≤ Ba ∧ wr.heap.size ≤ Bb ∧ Ba ≠ Bb) ?_ ?_
 --BEGIN R6
 ·have c0 := HX.out.1
  have c1 := HX.out.2.1
  have c2 := HX.out.2.2.1
  refine wp_region_held_drew (S := (fun V => V.cell? ⟨w.heap.size, 0, none⟩ = some (.slice A1 L1 L1) ∧ V.cell? ⟨w.heap.size + 1, 0, none⟩ = some (.slice (some ⟨b, 0, none⟩) L2 L2) ∧ V.cell? ⟨z + 1, 0, none⟩ = some (.slice (some ⟨z, 0, none⟩) 1 1))) (by kernel_rfl) ?_ (fun hHeld => ?_)
  ·exact ⟨c0, c1, c2⟩
  obtain ⟨Wd, hWd⟩ : ∃ Wd, wr.drew = Wd := ⟨_, rfl⟩
  rw [hWd] at hHeld ⊢
  have HBV : Aside0 (Below wr.heap.size wr Wd) := ⟨by subst hWd; exact below_drew1 (Below.refl _ _)⟩
  clear hWd
  repeat' (first
   | (refine fun (_ : Tg 2) K hK => ?_; go_simp; (go_at_call 140; (with_reducible refine (mul_calls (HM.out _ HBV.out).1 (HM.out _ HBV.out).2.2 (Nat.le_refl _) (by omega)).mono ?_); rintro e wq ⟨Aa, ka, rfl, hma, hbq⟩; (try have hmb := Aside0.mk (hmb.out.up hbq)); (try have hx7 := Aside0.mk (boxed_below hx7.out hbq)); (try have hx8 := Aside0.mk (boxed_below hx8.out hbq)); have hma := Aside0.mk hma; have HBV := Aside0.mk (bJoin hbq HBV.out); (try have r7 := hx7.out.cell); (try have rf7 := hx7.out.frozen); (try have r8 := hx8.out.cell); (try have rf8 := hx8.out.frozen)); refine hK.out _ _ ?_ fun hHeld => ?_; ((first | exact ⟨keepAt HBV.out c0, keepAt HBV.out c1, keepAt HBV.out c2⟩)); clear hK K; try simp only [PU])
   | (refine fun (_ : Tg 5) K hK => ?_; go_simp; (go_at_call 140; (with_reducible refine (mul_calls (HM.out _ HBV.out).2.1 (HM.out _ HBV.out).2.2 (Nat.le_refl _) (by omega)).mono ?_); rintro e wq ⟨Ab, kb, rfl, hmb, hbq⟩; (try have hma := Aside0.mk (hma.out.up hbq)); (try have hx7 := Aside0.mk (boxed_below hx7.out hbq)); (try have hx8 := Aside0.mk (boxed_below hx8.out hbq)); have hmb := Aside0.mk hmb; have HBV := Aside0.mk (bJoin hbq HBV.out); (try have r7 := hx7.out.cell); (try have rf7 := hx7.out.frozen); (try have r8 := hx8.out.cell); (try have rf8 := hx8.out.frozen)); refine hK.out _ _ ?_ fun hHeld => ?_; ((first | exact ⟨keepAt HBV.out c0, keepAt HBV.out c1, keepAt HBV.out c2⟩)); clear hK K; try simp only [PU])
   | (refine fun (_ : Tg 6) K hK => ?_; go_simp; ((try have hma := Aside0.mk (hma.out.upA (.cells #[.slice none 0 0] 109))); (try have hmb := Aside0.mk (hmb.out.upA (.cells #[.slice none 0 0] 109))); (try have hne := Nat.ne_of_gt hx8.out.lt); (try simp only [World.size_alloc] at hne); (try have hx8 := Aside0.mk (hx8.out.alloc (.cells #[.slice none 0 0] 109))); have hx7 := box_new HBV.out 109 (.slice none 0 0); (try simp only [World.size_alloc] at hx7); have hx7 := Aside0.mk hx7; have hl7 := HBV.out.size; (try simp only [World.size_alloc] at hl7); have HBV := Aside0.mk (below_alloc HBV.out (.cells #[.slice none 0 0] 109)); obtain ⟨Y, hY, HBV⟩ := opaque0 HBV; rw [hY]; (try rw [hY] at hx7); (try rw [hY] at hx8); (try rw [hY] at hma); (try rw [hY] at hmb); (try rw [hY] at HLIT); (try rw [hY] at hmg); clear hY; (try have r7 := hx7.out.cell); (try have rf7 := hx7.out.frozen); (try have r8 := hx8.out.cell); (try have rf8 := hx8.out.frozen)); refine hK.out _ _ ?_ fun hHeld => ?_; ((first | exact ⟨keepAt HBV.out c0, keepAt HBV.out c1, keepAt HBV.out c2⟩)); clear hK K; try simp only [PU])
   | (refine fun (_ : Tg 7) K hK => ?_; go_simp; ((try have hma := Aside0.mk (hma.out.upA (.cells #[.slice none 0 0] 109))); (try have hmb := Aside0.mk (hmb.out.upA (.cells #[.slice none 0 0] 109))); (try have hne := Nat.ne_of_lt hx7.out.lt); (try simp only [World.size_alloc] at hne); (try have hx7 := Aside0.mk (hx7.out.alloc (.cells #[.slice none 0 0] 109))); have hx8 := box_new HBV.out 109 (.slice none 0 0); (try simp only [World.size_alloc] at hx8); have hx8 := Aside0.mk hx8; have hl8 := HBV.out.size; (try simp only [World.size_alloc] at hl8); have HBV := Aside0.mk (below_alloc HBV.out (.cells #[.slice none 0 0] 109)); obtain ⟨Y, hY, HBV⟩ := opaque0 HBV; rw [hY]; (try rw [hY] at hx7); (try rw [hY] at hx8); (try rw [hY] at hma); (try rw [hY] at hmb); (try rw [hY] at HLIT); (try rw [hY] at hmg); clear hY; (try have r7 := hx7.out.cell); (try have rf7 := hx7.out.frozen); (try have r8 := hx8.out.cell); (try have rf8 := hx8.out.frozen)); refine hK.out _ _ ?_ fun hHeld => ?_; ((first | exact ⟨keepAt HBV.out c0, keepAt HBV.out c1, keepAt HBV.out c2⟩)); clear hK K; try simp only [PU])
   | (refine fun (_ : Tg 8) K hK => ?_; go_simp; (have hx8 := Aside0.mk (hx8.out.other hne.symm (.slice Aa ka ka)); have hma := Aside0.mk (hma.out.upS hx7.out (fun d => by simp) 0 (.slice Aa ka ka)); have hmb := Aside0.mk (hmb.out.upS hx7.out (fun d => by simp) 0 (.slice Aa ka ka)); have HBV := hbv_set HBV hx7.out hl7 (.slice Aa ka ka); have hx7 := Aside0.mk (hx7.out.set (.slice Aa ka ka)); obtain ⟨Y, hY, HBV⟩ := opaque0 HBV; rw [hY]; (try rw [hY] at hx7); (try rw [hY] at hx8); (try rw [hY] at hma); (try rw [hY] at hmb); (try rw [hY] at HLIT); (try rw [hY] at hmg); clear hY; (try have r7 := hx7.out.cell); (try have rf7 := hx7.out.frozen); (try have r8 := hx8.out.cell); (try have rf8 := hx8.out.frozen)); refine hK.out _ _ ?_ fun hHeld => ?_; ((first | exact ⟨keepAt HBV.out c0, keepAt HBV.out c1, keepAt HBV.out c2⟩)); clear hK K; try simp only [PU])
   | (refine fun (_ : Tg 9) K hK => ?_; go_simp; (have hx7 := Aside0.mk (hx7.out.other hne (.slice Ab kb kb)); have hma := Aside0.mk (hma.out.upS hx8.out (fun d => by simp) 0 (.slice Ab kb kb)); have hmb := Aside0.mk (hmb.out.upS hx8.out (fun d => by simp) 0 (.slice Ab kb kb)); have HBV := hbv_set HBV hx8.out hl8 (.slice Ab kb kb); have hx8 := Aside0.mk (hx8.out.set (.slice Ab kb kb)); obtain ⟨Y, hY, HBV⟩ := opaque0 HBV; rw [hY]; (try rw [hY] at hx7); (try rw [hY] at hx8); (try rw [hY] at hma); (try rw [hY] at hmb); (try rw [hY] at HLIT); (try rw [hY] at hmg); clear hY); refine hK.out _ _ ?_ fun hHeld => ?_; ((first | exact ⟨keepAt HBV.out c0, keepAt HBV.out c1, keepAt HBV.out c2⟩)); clear hK K; try simp only [PU])
   | (refine tq 0 ?_; try simp only [PU])
   | (refine tq 1 ?_; try simp only [PU])
   | (refine tq 3 ?_; try simp only [PU])
   | (refine tq 4 ?_; try simp only [PU])
   | refine t1 7 ?_
   | refine t1 8 ?_
   | refine t1 9 ?_
   | refine t1 6 ?_
   | refine t1 5 ?_
   | refine t1 2 ?_
   | refine t3 2 6 7 ?_ ?_ ?_
   | refine t3 5 6 7 ?_ ?_ ?_
   | refine t2 6 7 ?_ ?_
   | refine t2 5 7 ?_ ?_
   | refine t2 5 6 ?_ ?_
   | refine t2 2 7 ?_ ?_
   | refine t2 2 6 ?_ ?_
   | fail)
  all_goals
   refine wpAnyH_done (by kernel_rfl) ?_ _
   exact ⟨rfl, Aa, ka, Ab, kb, _, _, by simp only [List.setIfInBounds_toArray, List.set_cons_zero, List.set_cons_succ], hx7.out, hx8.out, hma.out, hmb.out, HBV.out, hl7, hl8, hne⟩
 --END R6
 intro T W hM
 dsimp only at hM ⊢
 obtain ⟨Aa, ka, Ab, kb, Ba, Bb, hT, x7, x8, ma, mb, hbW, l7, l8, hne⟩ := hM
 simp only [List.setIfInBounds_toArray, List.set_cons_zero, List.set_cons_succ] at hT
 subst hT
 refine hK1 _ _ ?_
 clear hK1
 have hb1 : Below w.heap.size w W := HA.out.1.trans (hbW.mono HA.out.1.size)
 obtain ⟨M, hM⟩ : ∃ M, m * s = M := ⟨_, rfl⟩
 obtain ⟨N, hN⟩ : ∃ N, n * s = N := ⟨_, rfl⟩
 rw [hM] at ma
 rw [hN] at mb
 have hkb : 2 ≤ kb := by
  have h := dg_ge_pow BB1 (L2 - 1) n (by rw [H2.out.1]; omega)
  have h0 := HV.out.2.1
  have h3 : n * 1 ≤ n * s := Nat.mul_le_mul_left _ h0
  have h2 := dg_lt_pow BB1 N
  rw [mb.1] at h2
  refine Nat.lt_of_not_le fun hle2 => ?_
  have h4 : BB ^ kb ≤ BB ^ (L2 - 1) := Nat.pow_le_pow_right (by decide) (by omega)
  omega
 have hkb2 : kb ≤ 40001 := by
  have h2 : N < BB ^ (L2 + 1) := by
   have h := dg_lt_pow BB1 n
   rw [H2.out.1] at h
   rw [← hN, Nat.pow_succ]
   exact Nat.lt_of_le_of_lt (Nat.mul_le_mul_left _ (Nat.le_of_lt HV.out.2.2)) (Nat.mul_lt_mul_of_pos_right h (by decide))
  have := dg_length BB1 _ _ h2
  rw [mb.1] at this
  omega
 have hka : ka ≤ L1 + 1 := by
  have h2 : M < BB ^ (L1 + 1) := by
   have h := dg_lt_pow BB1 m
   rw [H1.out.1] at h
   rw [← hM, Nat.pow_succ]
   exact Nat.lt_of_le_of_lt (Nat.mul_le_mul_left _ (Nat.le_of_lt HV.out.2.2)) (Nat.mul_lt_mul_of_pos_right h (by decide))
  have := dg_length BB1 _ _ h2
  rw [ma.1] at this
  omega
 have HMN : Aside0 (m * s = M ∧ n * s = N) := ⟨hM, hN⟩
 clear hM hN
 have hmb := mb
 obtain ⟨pb, hA2, hpb, hcb⟩ := hmb.2.2 (by omega)
 subst hA2
 have hc8 := x8.cell
 have HB1 : Aside0 (Boxed W Ba 109 (.slice Aa ka ka) ∧ Boxed W Bb 109 (.slice (some ⟨pb, 0, none⟩) kb kb) ∧ Mag W W.heap.size Aa ka M ∧ Mag W W.heap.size (some ⟨pb, 0, none⟩) kb N ∧ Below wr.heap.size wr W ∧ Below w.heap.size w W) := ⟨x7, x8, ma, mb, hbW, hb1⟩
 clear x7 x8 ma mb hmb hb1
 go_wp2
 rename_i K2 hK2
 obtain ⟨W1, hW1⟩ : ∃ W1, (W.alloc (.cells #[.int .i64 (kb : Int)] 3)) = W1 := ⟨_, rfl⟩
 obtain ⟨c9, hc9⟩ : ∃ c9, W.heap.size = c9 := ⟨_, rfl⟩
 have hz1 : W1.heap.size = c9 + 1 := by subst hW1 hc9; simp
 have hbW1 : Below W.heap.size W W1 := by subst hW1; exact below_alloc (Below.refl _ _) _
 have hx9 : Boxed W1 c9 3 (.int .i64 (kb : Int)) := by subst hW1 hc9; exact Boxed.new _ _ _
 obtain ⟨j1, hj1⟩ : ∃ j1, kb - 1 = j1 := ⟨_, rfl⟩
 obtain ⟨j2, hj2⟩ : ∃ j2, kb - 2 = j2 := ⟨_, rfl⟩
 obtain ⟨top, htop⟩ : ∃ top, N / BB ^ j1 % BB = top := ⟨_, rfl⟩
 obtain ⟨next, hnext⟩ : ∃ next, N / BB ^ j2 % BB = next := ⟨_, rfl⟩
 have htop1 : top < 1000000000 := by rw [← htop]; exact Nat.mod_lt _ (by decide)
 have hnext1 : next < 1000000000 := by rw [← hnext]; exact Nat.mod_lt _ (by decide)
 have q8 : W1.cell? ⟨Bb, 0, none⟩ = some (.slice (some ⟨pb, 0, none⟩) kb kb) := keepAt hbW1 hc8
 have q9 := hx9.cell
 have q1 : W1.cell? ⟨pb, j1, none⟩ = some (.int .u32 (top : Int)) := by rw [← htop, ← dg_getD BB1]; exact keepAt hbW1 (hcb _ (by omega))
 have q2 : W1.cell? ⟨pb, j2, none⟩ = some (.int .u32 (next : Int)) := by rw [← hnext, ← dg_getD BB1]; exact keepAt hbW1 (hcb _ (by omega))
 have HT : Aside0 (kb - 1 = j1 ∧ kb - 2 = j2 ∧ N / BB ^ j1 % BB = top ∧ N / BB ^ j2 % BB = next ∧ j1 = j2 + 1) := ⟨hj1, hj2, htop, hnext, by omega⟩
 have HB2 : Aside0 (Below W.heap.size W W1 ∧ W.heap.size = c9 ∧ Boxed W1 c9 3 (.int .i64 (kb : Int)) ∧ W1.heap.size = c9 + 1) := ⟨hbW1, hc9, hx9, hz1⟩
 have e1 : IntKind.i64.wrap ((kb : Int) - 1) = (j1 : Int) := by rw [IntWalk.i64_in _ (by omega)]; omega
 have e2 : IntKind.i64.wrap ((kb : Int) - 2) = (j2 : Int) := by rw [IntWalk.i64_in _ (by omega)]; omega
 have e3 : IntKind.u64.wrap (top : Int) = (top : Int) := IntWalk.u64_in _ (by omega)
 have e4 : IntKind.u64.wrap (next : Int) = (next : Int) := IntWalk.u64_in _ (by omega)
 have e5 : (j1 : Int) < (kb : Int) := by omega
 have e6 : (j2 : Int) < (kb : Int) := by omega
 rw [hW1, hc9]
 clear hW1 hz1 hbW1 hj1 hj2 htop hnext hx9 hc8 hcb hpb
 refine wp_mid (fun T0 T V => ∃ C10 C11, T = (((((((((((((((T0.setIfInBounds 63 (.pointer (some ⟨Bb, 0, none⟩))).setIfInBounds 64 (.slice (some ⟨pb, 0, none⟩) kb kb)).setIfInBounds 65 (.int .i64 (kb : Int))).setIfInBounds 66 (.int .i64 (j1 : Int))).setIfInBounds 67 (.pointer (some ⟨pb, j1, none⟩))).setIfInBounds 68 (.int .u32 (top : Int))).setIfInBounds 69 (.int .u64 (top : Int))).setIfInBounds 70 (.pointer (some ⟨Bb, 0, none⟩))).setIfInBounds 71 (.slice (some ⟨pb, 0, none⟩) kb kb)).setIfInBounds 72 (.int .i64 (kb : Int))).setIfInBounds 73 (.int .i64 (j2 : Int))).setIfInBounds 74 (.pointer (some ⟨pb, j2, none⟩))).setIfInBounds 75 (.int .u32 (next : Int))).setIfInBounds 76 (.int .u64 (next : Int))).setIfInBounds 10 (.pointer (some ⟨C10, 0, none⟩))).setIfInBounds 11 (.pointer (some ⟨C11, 0, none⟩)) ∧
  Boxed V C10 53 (.int .u64 (top : Int)) ∧ Boxed V C11 53 (.int .u64 (next : Int)) ∧ Below W1.heap.size W1 V ∧ W1.heap.size ≤ C10 ∧ W1.heap.size ≤ C11 ∧ C10 ≠ C11) ?_ ?_
 --BEGIN R8
 ·refine wp_region_held_drew (S := (fun V => V.cell? ⟨Bb, 0, none⟩ = some (.slice (some ⟨pb, 0, none⟩) kb kb) ∧ V.cell? ⟨c9, 0, none⟩ = some (.int .i64 (kb : Int)) ∧ V.cell? ⟨pb, j1, none⟩ = some (.int .u32 (top : Int)) ∧ V.cell? ⟨pb, j2, none⟩ = some (.int .u32 (next : Int)))) (by kernel_rfl) ?_ (fun hHeld => ?_)
  ·exact ⟨q8, q9, q1, q2⟩
  obtain ⟨Wd, hWd⟩ : ∃ Wd, W1.drew = Wd := ⟨_, rfl⟩
  rw [hWd] at hHeld ⊢
  have HBV : Aside0 (Below W1.heap.size W1 Wd) := ⟨by subst hWd; exact below_drew1 (Below.refl _ _)⟩
  clear hWd
  repeat' (first
   | (refine fun (_ : Tg 14) K hK => ?_; go_simp; ((try have hne := Nat.ne_of_gt hx8.out.lt); (try have hx8 := Aside0.mk (hx8.out.alloc (.cells #[.int .u64 0] 53))); have hx7 := Aside0.mk (box_new HBV.out 53 (.int .u64 0)); have hl7 := HBV.out.size; have HBV := Aside0.mk (below_alloc HBV.out (.cells #[.int .u64 0] 53)); obtain ⟨Y, hY, HBV⟩ := opaque0 HBV; rw [hY]; (try rw [hY] at hx7); (try rw [hY] at hx8); (try rw [hY] at hma); (try rw [hY] at hmb); (try rw [hY] at HLIT); (try rw [hY] at hmg); clear hY; (try have r7 := hx7.out.cell); (try have rf7 := hx7.out.frozen); (try have r8 := hx8.out.cell); (try have rf8 := hx8.out.frozen)); refine hK.out _ _ ?_ fun hHeld => ?_; (exact ⟨keepAt HBV.out q8, keepAt HBV.out q9, keepAt HBV.out q1, keepAt HBV.out q2⟩); clear hK K; try simp only [PU])
   | (refine fun (_ : Tg 15) K hK => ?_; go_simp; ((try have hne := Nat.ne_of_lt hx7.out.lt); (try have hx7 := Aside0.mk (hx7.out.alloc (.cells #[.int .u64 0] 53))); have hx8 := Aside0.mk (box_new HBV.out 53 (.int .u64 0)); have hl8 := HBV.out.size; have HBV := Aside0.mk (below_alloc HBV.out (.cells #[.int .u64 0] 53)); obtain ⟨Y, hY, HBV⟩ := opaque0 HBV; rw [hY]; (try rw [hY] at hx7); (try rw [hY] at hx8); (try rw [hY] at hma); (try rw [hY] at hmb); (try rw [hY] at HLIT); (try rw [hY] at hmg); clear hY; (try have r7 := hx7.out.cell); (try have rf7 := hx7.out.frozen); (try have r8 := hx8.out.cell); (try have rf8 := hx8.out.frozen)); refine hK.out _ _ ?_ fun hHeld => ?_; (exact ⟨keepAt HBV.out q8, keepAt HBV.out q9, keepAt HBV.out q1, keepAt HBV.out q2⟩); clear hK K; try simp only [PU])
   | (refine fun (_ : Tg 16) K hK => ?_; go_simp; (have hx8 := Aside0.mk (hx8.out.other hne.symm (.int .u64 (top : Int))); have HBV := hbv_set HBV hx7.out hl7 (.int .u64 (top : Int)); have hx7 := Aside0.mk (hx7.out.set (.int .u64 (top : Int))); obtain ⟨Y, hY, HBV⟩ := opaque0 HBV; rw [hY]; (try rw [hY] at hx7); (try rw [hY] at hx8); (try rw [hY] at hma); (try rw [hY] at hmb); (try rw [hY] at HLIT); (try rw [hY] at hmg); clear hY; (try have r7 := hx7.out.cell); (try have rf7 := hx7.out.frozen); (try have r8 := hx8.out.cell); (try have rf8 := hx8.out.frozen)); refine hK.out _ _ ?_ fun hHeld => ?_; (exact ⟨keepAt HBV.out q8, keepAt HBV.out q9, keepAt HBV.out q1, keepAt HBV.out q2⟩); clear hK K; try simp only [PU])
   | (refine fun (_ : Tg 17) K hK => ?_; go_simp; (have hx7 := Aside0.mk (hx7.out.other hne (.int .u64 (next : Int))); have HBV := hbv_set HBV hx8.out hl8 (.int .u64 (next : Int)); have hx8 := Aside0.mk (hx8.out.set (.int .u64 (next : Int))); obtain ⟨Y, hY, HBV⟩ := opaque0 HBV; rw [hY]; (try rw [hY] at hx7); (try rw [hY] at hx8); (try rw [hY] at hma); (try rw [hY] at hmb); (try rw [hY] at HLIT); (try rw [hY] at hmg); clear hY); refine hK.out _ _ ?_ fun hHeld => ?_; (exact ⟨keepAt HBV.out q8, keepAt HBV.out q9, keepAt HBV.out q1, keepAt HBV.out q2⟩); clear hK K; try simp only [PU])
   | (refine tq 0 ?_; try simp only [PU])
   | (refine tq 1 ?_; try simp only [PU])
   | (refine tq 2 ?_; try simp only [PU])
   | (refine tq 3 ?_; try simp only [PU])
   | (refine tq 4 ?_; try simp only [PU])
   | (refine tq 5 ?_; try simp only [PU])
   | (refine tq 6 ?_; try simp only [PU])
   | (refine tq 7 ?_; try simp only [PU])
   | (refine tq 8 ?_; try simp only [PU])
   | (refine tq 9 ?_; try simp only [PU])
   | (refine tq 10 ?_; try simp only [PU])
   | (refine tq 11 ?_; try simp only [PU])
   | (refine tq 12 ?_; try simp only [PU])
   | (refine tq 13 ?_; try simp only [PU])
   | refine t1 15 ?_
   | refine t1 16 ?_
   | refine t1 17 ?_
   | refine t1 14 ?_
   | refine t2 14 15 ?_ ?_
   | fail)
  all_goals
   refine wpAnyH_done (by kernel_rfl) ?_ _
   exact ⟨rfl, _, _, by simp only [List.setIfInBounds_toArray, List.set_cons_zero, List.set_cons_succ], hx7.out, hx8.out, HBV.out, hl7, hl8, hne⟩
 --END R8
 intro T V hM
 dsimp only at hM ⊢
 obtain ⟨C10, C11, hT, x10, x11, hbV, l10, l11, hne2⟩ := hM
 simp only [List.setIfInBounds_toArray, List.set_cons_zero, List.set_cons_succ] at hT
 subst hT
 refine hK2 _ _ ?_
 clear hK2
 have hWV : Below W.heap.size W V := HB2.out.1.trans (hbV.mono HB2.out.1.size)
 have hrV : Below wr.heap.size wr V := hbW.trans (hWV.mono hbW.size)
 have hwV : Below w.heap.size w V := HA.out.1.trans (hrV.mono HA.out.1.size)
 obtain ⟨cq, hcq⟩ : ∃ cq, V.heap.size = cq := ⟨_, rfl⟩
 have vm : V.cell? ⟨w.heap.size, 0, none⟩ = some (.slice A1 L1 L1) := keepAt hrV HX.out.1
 have va : V.cell? ⟨Ba, 0, none⟩ = some (.slice Aa ka ka) := keepAt hWV HB1.out.1.cell
 have va' : (((V.alloc (zeros (L1 + 1))).alloc (.cells #[.slice (some ⟨cq, 0, none⟩) (L1 + 1) (L1 + 1)] 99)).alloc (.cells #[.slice none 0 0] 109)).cell? ⟨Ba, 0, none⟩ = some (.slice Aa ka ka) := keepAt (w1 := V) (by repeat (first | exact Below.refl _ _ | apply below_alloc)) va
 have hmk := make_u32 ((L1 : Int) + 1) (L1 + 1) (by omega) (by omega)
 have e7 : IntKind.i64.wrap ((L1 : Int) + 1) = (L1 : Int) + 1 := IntWalk.i64_in _ (by omega)
 have HD : Aside0 ((Boxed V (w.heap.size + 1 + 1) 109 (.slice none 0 0) ∧ Boxed V (w.heap.size + 1 + 1 + 1) 109 (.slice none 0 0) ∧ Boxed V (z + 1) 109 (.slice (some ⟨z, 0, none⟩) 1 1) ∧ Boxed V z 22 (.int .u32 (s : Int)) ∧ Boxed V Bb 109 (.slice (some ⟨pb, 0, none⟩) kb kb) ∧ Boxed V c9 3 (.int .i64 (kb : Int)) ∧ Boxed V C10 53 (.int .u64 (top : Int)) ∧ Boxed V C11 53 (.int .u64 (next : Int))) ∧
  Mag V cq Aa ka M ∧ Mag V cq (some ⟨pb, 0, none⟩) kb N ∧ Below w.heap.size w V ∧ V.heap.size = cq ∧ (w.heap.size + 3 < cq ∧ z + 1 < cq ∧ Bb < cq ∧ c9 < cq ∧ C10 < cq ∧ C11 < cq)) :=
  ⟨⟨boxed_below HR.out.1 hrV, boxed_below HR.out.2 hrV, boxed_below HXB.out.1 hrV, boxed_below HXB.out.2 hrV, boxed_below HB1.out.2.1 hWV, boxed_below HB2.out.2.2.1 hbV, x10, x11⟩, by rw [← hcq]; exact HB1.out.2.2.1.up hWV, by rw [← hcq]; exact HB1.out.2.2.2.1.up hWV, hwV, hcq, by
   have a1 := HA.out.2.2
   have a2 := HA.out.2.1
   have a3 := hrV.size
   have a4 := (boxed_below HB1.out.2.1 hWV).lt
   have a5 := (boxed_below HB2.out.2.2.1 hbV).lt
   have a6 := x10.lt
   have a7 := x11.lt
   omega⟩
 clear e1 e2 e3 e4 e5 e6 q8 q9 q1 q2 x10 x11 l10 l11 hne2 hbV hWV hrV hwV l7 l8 hne hbW
 go_wp2_with (first | (go_at_call 216; refine (back_calls _ _ _).mono ?_; rintro e w' ⟨rfl, rfl⟩))
 obtain ⟨W0, hW0⟩ : ∃ W0, W0 = ((((V.alloc (zeros (L1 + 1))).alloc (.cells #[.slice (some ⟨cq, 0, none⟩) (L1 + 1) (L1 + 1)] 99)).alloc (.cells #[.slice none 0 0] 109)).alloc (.cells #[.slice Aa ka ka] 99)) := ⟨_, rfl⟩
 have hbV0 : Below V.heap.size V W0 := by subst hW0; repeat (first | exact Below.refl _ _ | apply below_alloc)
 have hcs : W0.cell? ⟨cq + 1 + 1 + 1, 0, none⟩ = some (.slice Aa ka ka) := by subst hW0 hcq; simp [go_sem]
 have hz0 : W0.heap.size = cq + 4 := by subst hW0 hcq; simp
 have hN0 : 0 < N := by
  rcases Nat.eq_zero_or_pos N with h0 | h0
  ·exfalso
   have := HD.out.2.2.1.len_zero.2 h0
   omega
  ·exact h0
 have hka2 : ka ≤ 100000 := HD.out.2.1.2.1
 have I0 : DI w z Bb c9 C10 C11 cq pb kb N M top next s (L1 + 1) ka [] [cq + 1 + 1 + 1] W0 := by
  obtain ⟨⟨d1, d2, d3, d4, d5, d6, d7, d8⟩, d9, d10, d11, d12, d13⟩ := HD.out
  refine ⟨boxed_below d1 hbV0, boxed_below d2 hbV0, boxed_below d3 hbV0, boxed_below d4 hbV0, boxed_below d5 hbV0, boxed_below d6 hbV0, boxed_below d7 hbV0, boxed_below d8 hbV0, ?_, d10.below (by rw [← hcq]; exact hbV0), ⟨0, none, 0, by omega, rfl, ?_, ?_, fun c h => absurd h (by omega), ?_⟩, fun r hr => by rw [List.mem_singleton.1 hr]; omega, d13, d11.trans (hbV0.mono (by omega))⟩
  ·subst hW0 hcq
   exact ((boxed_at (V.alloc _) _ _ _ (by simp)).alloc _).alloc _
  ·subst hW0 hcq
   exact (boxed_at ((V.alloc _).alloc _) _ _ _ (by simp)).alloc _
  ·have e : M / BB ^ (ka - 0) % N = 0 := by
    have := dg_lt_pow BB1 M
    rw [d9.1] at this
    rw [Nat.sub_zero, Nat.div_eq_of_lt this, Nat.zero_mod]
   rw [e]
   exact Mag.zero _ _ _
  ·have e : tops BB (M / N) (L1 + 1) (ka - 0) = List.replicate (L1 + 1) 0 := by
    refine tops_beyond (Nat.lt_of_le_of_lt (Nat.div_le_self _ _) ?_) BB1
    have := dg_lt_pow BB1 M
    rw [d9.1] at this
    exact this
   rw [e]
   have := row_zeros V (L1 + 1)
   rw [hcq] at this
   subst hW0
   exact ((this.keep (below_alloc (Below.refl _ _) _)).keep (below_alloc (Below.refl _ _) _)).keep (below_alloc (Below.refl _ _) _)
 rw [← hW0]
 clear hW0 hmk va va' vm
 refine (wpIn_wide (n := 6)).1 ?_
 refine wpIn_back (own0 := [cq + 1 + 1 + 1]) (n₀ := cq) (by omega) (gf := 227) (lb := #[.pointer (some ⟨cq + 1 + 1 + 1, 0, none⟩)]) rfl Tryz.call227 (back_seq 5 (by omega) (xs := dg BB M) (HD.out.2.1.below (by rw [← hcq]; exact hbV0)).lst hka2 hcs (by omega)) (by omega) (fun r hr => by simp only [List.mem_singleton] at hr; omega)
  (DI w z Bb c9 C10 C11 cq pb kb N M top next s (L1 + 1) ka) (fun c pre own W => False) (fun pre own A B h ht => h.turn (turn_mono ht (by have := HD.out.2.2.2.2.2.1; omega))) (fun pre own A r h hr => h.adopt hr) (fun c pre own A B h ht => h) I0 (by simp) ?body ?done ?stop
 case stop =>
  rintro D c pre own W hD hSp h hK
  exact h.elim
 --BEGIN BODY
 case body =>
  rintro l pre own x W ho hz hI ⟨k, hk, rfl, rfl⟩
  obtain ⟨r2, r3, sc, sl, b8, b9, b10, b11, b12, mb, ⟨k', Ar, kr, k1, k2, k3, k4, k5, k6⟩, lo, hc, bl⟩ := hI
  obtain rfl := backs_inj k2
  obtain ⟨i, hi⟩ : ∃ i, k + 1 + i = ka := ⟨ka - 1 - k, by omega⟩
  have ek : ka - k = i + 1 := by omega
  rw [ek] at k4 k6
  obtain ⟨a, ha⟩ : ∃ a, M / BB ^ i % BB = a := ⟨_, rfl⟩
  obtain ⟨r0, hr0⟩ : ∃ r0, M / BB ^ (i + 1) % N = r0 := ⟨_, rfl⟩
  have eb : backAt (dg BB M) k = (i, a) := by
   unfold backAt
   rw [HD.out.2.1.1, show ka - 1 - k = i by omega, dg_getD BB1, ha]
  obtain ⟨s1, s2, s3⟩ := quo_step (m := M) (i := i) BB1 hN0
  rw [ha, hr0] at s1 s2 s3
  rw [hr0] at k4
  obtain ⟨R, hR⟩ : ∃ R, r0 * BB + a = R := ⟨_, rfl⟩
  rw [hR] at s1 s2 s3
  have hkr : kr + 1 ≤ 100000 := by
   have h1 : r0 < N := by rw [← hr0]; exact Nat.mod_lt _ hN0
   have h2 := dg_lt_pow BB1 N
   rw [HD.out.2.2.1.1] at h2
   have h3 := dg_length BB1 kb r0 (by omega)
   rw [k4.1] at h3
   omega
  have ha1 : a < BB := by rw [← ha]; exact Nat.mod_lt _ (by decide)
  have HQ : Aside0 (R / N = M / N / BB ^ i % BB ∧ R % N = M / BB ^ i % N ∧ R < N * BB ∧ backs (dg BB M) k ++ [(i, a)] = backs (dg BB M) (k + 1) ∧ k + 1 + i = ka) := ⟨s1, s2, s3, by rw [backs_succ, eb], hi⟩
  have hdig : ∀ x ∈ a :: dg BB r0, x < BB := by
   intro x hx
   rcases List.mem_cons.1 hx with rfl | hx
   ·exact ha1
   ·exact dg_lt BB1 _ _ hx
  have hval : val BB (a :: dg BB r0) = R := by
   rw [show val BB (a :: dg BB r0) = a + BB * val BB (dg BB r0) from rfl, val_dg BB1, ← hR, Nat.mul_comm]
   omega
  obtain ⟨gb, gc, W', hap, hgc, hgW, hlst, hbW'⟩ := append_rest a k4 (Nat.le_refl _)
  have HDG := Aside0.mk hdig
  have HL := Aside0.mk hlst
  have HBW' := Aside0.mk hbW'
  have HI : Aside0 (DI w z Bb c9 C10 C11 cq pb kb N M top next s (L1 + 1) ka (backs (dg BB M) k) own W) := ⟨⟨r2, r3, sc, sl, b8, b9, b10, b11, b12, mb, ⟨k, Ar, kr, k1, rfl, k3, by rw [ek, hr0]; exact k4, k5, by rw [ek]; exact k6⟩, lo, hc, bl⟩⟩
  have HJ : Aside0 (DJ w z Bb c9 C10 C11 cq pb kb N top next s (L1 + 1) r0 Ar kr (tops BB (M / N) (L1 + 1) (i + 1)) W) := ⟨⟨r2, r3, sc, sl, b8, b9, b10, b11, b12, mb, k3, k4, k6, hc, bl⟩⟩
  have HO : Aside0 (cq + 3 ≤ W.heap.size ∧ (∀ r, r ∈ own → cq + 3 ≤ r ∧ r < W.heap.size)) := ⟨k3.lt, fun r hr => ⟨lo r hr, (ho r hr).2⟩⟩
  have c13 := k3.cell
  have f13 := k3.frozen
  have h13 := k3.lt
  rw [eb]
  clear r2 r3 sc sl b8 b9 b10 b11 b12 mb k3 k4 k5 k6 bl hdig hlst hbW' ha hr0 eb s1 s2 s3 hR
  gi_wp2
  refine wpIn_scope_straight ?_
  gi_wp2_with (first | (gi_at_builtin; refine wpListIn_append_run rfl _ _ _ rfl rfl rfl hap ?_) | (refine ⟨trivial, ?_⟩; gi_at_call 180; with_reducible refine ((callsIn_wide.2 (strip_calls HL.out HDG.out hgc hkr (Nat.le_refl _))).inRound _).mono ?_; rintro e w1 ⟨kR, rfl, hmR, hbR⟩; rw [hval] at hmR; have d13 : w1.cell? ⟨cq + 1 + 1, 0, none⟩ = some (.slice Ar kr kr) := keepAt hbR (keepAt HBW'.out c13); have df13 : w1.frozen? ⟨cq + 1 + 1, 0, none⟩ = false := keepF hbR (keepAt HBW'.out c13) (keepF HBW'.out c13 f13); have HMR := Aside0.mk hmR; have HBR := Aside0.mk hbR; clear hmR hbR))
  rename_i Q1 K3 hK3
  obtain ⟨X1, hX1⟩ : ∃ X1, w1.setCell ⟨cq + 1 + 1, 0, none⟩ (.slice (some ⟨gb, 0, none⟩) kR kR) = X1 := ⟨_, rfl⟩
  have HJ1 : Aside0 (DJ w z Bb c9 C10 C11 cq pb kb N top next s (L1 + 1) R (some ⟨gb, 0, none⟩) kR (tops BB (M / N) (L1 + 1) (i + 1)) X1) := ⟨by
   subst hX1
   exact ((HJ.out.below HBW'.out).below HBR.out).rest (HMR.out.more HBR.out.size)⟩
  have HK1 : Aside0 (DK W0.heap.size cq own W X1 ∧ W.heap.size ≤ X1.heap.size) := ⟨by
   have o1 := HO.out.1
   have o2 := HBW'.out.size
   have o3 := HBR.out.size
   subst hX1
   exact ⟨(((DK.refl _ _ _ _).below HBW'.out (by omega)).below HBR.out (by omega)).set _ (by omega) (fun hm => by have := (HO.out.2 _ hm).1; omega), by simp; omega⟩⟩
  rw [hX1]
  clear hX1 hap c13 f13 h13 d13 df13 hgc hgW
  have c13 := HJ1.out.b13.cell
  have c9' := HJ1.out.b9.cell
  obtain ⟨x2, hx2⟩ : ∃ x2, R / BB ^ kb % BB = x2 := ⟨_, rfl⟩
  obtain ⟨x1, hx1⟩ : ∃ x1, R / BB ^ j1 % BB = x1 := ⟨_, rfl⟩
  have hx2b : x2 < 1000000000 := by rw [← hx2]; exact Nat.mod_lt _ (by decide)
  have hx1b : x1 < 1000000000 := by rw [← hx1]; exact Nat.mod_lt _ (by decide)
  have hNk : N < BB ^ kb := by have := dg_lt_pow BB1 N; rwa [HD.out.2.2.1.1] at this
  have hkj : kb = j1 + 1 := by have := HT.out.1; omega
  have hhead : x2 * BB + x1 = R / BB ^ j1 := by
   have h3 : R < BB ^ (kb + 1) := by
    rw [Nat.pow_succ]
    exact Nat.lt_of_lt_of_le HQ.out.2.2.1 (Nat.mul_le_mul_right _ (Nat.le_of_lt hNk))
   have h4 : R / BB ^ kb < BB := by rw [Nat.div_lt_iff_lt_mul (Nat.pow_pos (by decide)), Nat.mul_comm, ← Nat.pow_succ]; exact h3
   rw [Nat.mod_eq_of_lt h4] at hx2
   rw [← hx1, ← hx2, hkj, Nat.pow_succ, ← Nat.div_div_eq_div_mul]
   have := Nat.mod_add_div (R / BB ^ j1) BB
   rw [Nat.mul_comm]
   omega
  obtain ⟨head, hhd⟩ : ∃ head, x2 * BB + x1 = head := ⟨_, rfl⟩
  have hhd' : x2 * 1000000000 + x1 = head := hhd
  rw [hhd] at hhead
  have htp : 0 < top ∧ top = N / BB ^ j1 := by
   have h := dg_ge_pow BB1 j1 N (by rw [HD.out.2.2.1.1, hkj])
   have e : N / BB ^ j1 < BB := by rw [Nat.div_lt_iff_lt_mul (Nat.pow_pos (by decide)), Nat.mul_comm, ← Nat.pow_succ]; show N < BB ^ (j1 + 1); rw [← hkj]; exact hNk
   have h2 := HT.out.2.2.1
   rw [Nat.mod_eq_of_lt e] at h2
   exact ⟨by rw [← h2]; exact Nat.div_pos h (Nat.pow_pos (by decide)), h2.symm⟩
  obtain ⟨rr2, hrr2⟩ : ∃ rr2, R / BB ^ j2 % BB = rr2 := ⟨_, rfl⟩
  have hrr2b : rr2 < 1000000000 := by rw [← hrr2]; exact Nat.mod_lt _ (by decide)
  have HH : Aside0 (Heads BB j2 R N head top next rr2) := ⟨⟨BB1, HQ.out.2.2.1, by rw [htp.2, HT.out.2.2.2.2], HT.out.2.2.2.1.symm, by rw [hhead, HT.out.2.2.2.2], hrr2.symm, htp.1⟩⟩
  have HXX : Aside0 (R / BB ^ kb % BB = x2 ∧ R / BB ^ j1 % BB = x1 ∧ R / BB ^ j2 % BB = rr2) := ⟨hx2, hx1, hrr2⟩
  have htp0 := htp.1
  have e1 : IntKind.i64.wrap ((kb : Int) - 1) = (j1 : Int) := by rw [IntWalk.i64_in _ (by omega)]; omega
  have HKJ := Aside0.mk hkj
  clear hx2 hx1 hhd hhead htp hrr2 hNk hkj
  have e2 : IntKind.u64.wrap ((x2 : Int) * 1000000000) = (x2 : Int) * 1000000000 := IntWalk.u64_in _ (by omega)
  have e3 : IntKind.u64.wrap ((x2 : Int) * 1000000000 + (x1 : Int)) = (head : Int) := by rw [IntWalk.u64_in _ (by omega)]; omega
  refine wpIn_round_held_drew (S := (fun V => V.cell? ⟨cq + 1 + 1, 0, none⟩ = some (.slice (some ⟨gb, 0, none⟩) kR kR) ∧ V.cell? ⟨c9, 0, none⟩ = some (.int .i64 (kb : Int)))) (by kernel_rfl) (by kernel_rfl) (by repeat (first | exact (fun ⟨_, _, h⟩ => h) | refine letsOut_then ?_)) ?_ (fun hHeld => ?_)
  ·exact ⟨c13, c9'⟩
  obtain ⟨Wd, hWd⟩ : ∃ Wd, X1.drew = Wd := ⟨_, rfl⟩
  rw [hWd] at hHeld ⊢
  have HBV : Aside0 (Below X1.heap.size X1 Wd) := ⟨by subst hWd; exact below_drew1 (Below.refl _ _)⟩
  clear hWd
  refine tp 0 ?_
  try simp only [PU]
  refine tp 1 ?_
  try simp only [PU]
  refine tp 4 ?_
  try simp only [PU]
  refine tp 5 ?_
  try simp only [PU]
  refine tp 6 ?_
  try simp only [PU]
  refine tc 2 fun K hK => ?_
  go_simp
  (go_at_call 193; (with_reducible refine (limb_any HJ1.out.mr (Nat.le_refl _) HBV.out kb HXX.out.1).mono ?_); rintro e wq ⟨rfl, hbq⟩; have HBV := Aside0.mk (bJoin hbq HBV.out))
  refine hK.out _ _ ?_ fun hHeld => ?_
  ·exact ⟨keepAt HBV.out c13, keepAt HBV.out c9'⟩
  clear hK K; try simp only [PU]
  refine tp 3 ?_
  try simp only [PU]
  refine tc 7 fun K hK => ?_
  go_simp
  (go_at_call 193; (with_reducible refine (limb_any HJ1.out.mr (Nat.le_refl _) HBV.out j1 HXX.out.2.1).mono ?_); rintro e X2 ⟨rfl, hbq⟩; have HBV := Aside0.mk (bJoin hbq HBV.out))
  refine hK.out _ _ ?_ fun hHeld => ?_
  ·exact ⟨keepAt HBV.out c13, keepAt HBV.out c9'⟩
  clear hK K; try simp only [PU]
  refine tp 8 ?_
  try simp only [PU]
  refine tp 9 ?_
  try simp only [PU]
  refine wpAnyH_done (by kernel_rfl) ?_ _
  refine hK3 _ _ ?_
  clear hK3
  have HJ2 : Aside0 (DJ w z Bb c9 C10 C11 cq pb kb N top next s (L1 + 1) R (some ⟨gb, 0, none⟩) kR (tops BB (M / N) (L1 + 1) (i + 1)) X2) := ⟨HJ1.out.below HBV.out⟩
  have HK2 : Aside0 (DK W0.heap.size cq own W X2 ∧ W.heap.size ≤ X2.heap.size) := ⟨HK1.out.1.below HBV.out (by have := HK1.out.2; have := HO.out.1; omega), Nat.le_trans HK1.out.2 HBV.out.size⟩
  clear e1 e2 e3 c13 c9' HBV hHeld hbq HJ1 HK1
  gi_wp2
  rename_i K4 hK4
  obtain ⟨g0, hg0⟩ : ∃ g0, head / top = g0 := ⟨_, rfl⟩
  obtain ⟨l0, hl0⟩ : ∃ l0, head % top = l0 := ⟨_, rfl⟩
  have hl0b : l0 < 1000000000 := by
   have := HT.out.2.2.1
   have h2 : l0 < top := by rw [← hl0]; exact Nat.mod_lt _ htp0
   omega
  have hl0t : l0 < top := by rw [← hl0]; exact Nat.mod_lt _ htp0
  have hg0b : g0 ≤ head := by rw [← hg0]; exact Nat.div_le_self _ _
  have hhdb : head < 2000000000000000000 := by omega
  have HG0 : Aside0 (g0 * top + l0 = head) := ⟨by
   rw [← hg0, ← hl0, Nat.mul_comm]
   have := Nat.mod_add_div head top
   omega⟩
  have htn : ¬ top = 0 := by omega
  have e1 : IntKind.u64.wrap ((head : Int) / (top : Int)) = (g0 : Int) := by rw [← Int.natCast_ediv, hg0]; exact IntWalk.u64_in _ (by omega)
  have e2 : IntKind.u64.wrap ((head : Int) % (top : Int)) = (l0 : Int) := by rw [← Int.natCast_emod, hl0]; exact IntWalk.u64_in _ (by omega)
  have HE3 : Aside0 ((head : Int).tmod (top : Int) = (l0 : Int)) := ⟨by rw [Int.tmod_eq_emod_of_nonneg (by omega), ← Int.natCast_emod, hl0]⟩
  have c10 := HJ2.out.b10.cell
  clear hg0 hl0
  refine wpIn_round_held_drew (S := (fun V => V.cell? ⟨C10, 0, none⟩ = some (.int .u64 (top : Int)))) (by kernel_rfl) (by kernel_rfl) (by repeat (first | exact (fun ⟨_, _, h⟩ => h) | refine letsOut_then ?_)) ?_ (fun hHeld => ?_)
  ·exact c10
  refine tp 0 ?_
  try simp only [PU]
  refine tp 1 ?_
  try simp only [PU]
  refine tp 2 ?_
  try simp only [PU]
  refine tp 3 ?_
  try simp only [PU]
  refine tp 4 ?_
  try simp only [PU]
  refine tp 5 ?_
  try simp only [PU]
  refine tp 6 ?_
  try simp only [PU]
  refine tp 7 ?_
  try simp only [PU]
  refine wpAnyH_done (by kernel_rfl) ?_ _
  refine hK4 _ _ ?_
  clear hK4
  clear hHeld e1 e2
  rw [HE3.out]
  gi_wp2
  refine wpIn_label ?_
  rename_i K5 hK5
  refine hK5 _ _ ?_
  clear hK5
  refine wpIn_seq_k (fun K8 hK8 => ?_)
  refine wpIn_midC (fun T0 T Y => ∃ (g q : Nat) (v110 v111 v112 v113 v114 v115 v116 v117 v118 v119 v120 v121 v122 v123 v124 v125 v126 v127 v128 v129 v130 v131 : Value), T = (((((((((((((((((((((((T0.setIfInBounds 17 (.int .u64 (g : Int))).setIfInBounds 18 (.int .u64 (q : Int))).setIfInBounds 110 v110).setIfInBounds 111 v111).setIfInBounds 112 v112).setIfInBounds 113 v113).setIfInBounds 114 v114).setIfInBounds 115 v115).setIfInBounds 116 v116).setIfInBounds 117 v117).setIfInBounds 118 v118).setIfInBounds 119 v119).setIfInBounds 120 v120).setIfInBounds 121 v121).setIfInBounds 122 v122).setIfInBounds 123 v123).setIfInBounds 124 v124).setIfInBounds 125 v125).setIfInBounds 126 v126).setIfInBounds 127 v127).setIfInBounds 128 v128).setIfInBounds 129 v129).setIfInBounds 130 v130).setIfInBounds 131 v131 ∧ R / N ≤ g ∧ g ≤ R / N + 1 ∧ g < BB ∧ Below X2.heap.size X2 Y) ?_ ?_
  --BEGIN LOOP
  ·gi_wp2
   gi_loopw [17, 18] (fun v17 v18 Y => ∃ g q : Nat, v17 = .int .u64 (g : Int) ∧ v18 = .int .u64 (q : Int) ∧ g ≤ head ∧ q < 1000000000 ∧ Aside0 (g * top + q = head ∧ R / N ≤ g) ∧ Aside0 (Below X2.heap.size X2 Y)) (fun v17 _ _ => (intOf v17).toNat)
   case atStart => exact ⟨g0, l0, rfl, rfl, hg0b, hl0b, ⟨HG0.out, HH.out.start HG0.out hl0t⟩, ⟨below_drew1 (Below.refl _ _)⟩⟩
   case round =>
    obtain ⟨g, q, rfl, rfl, hg, hq, hgq, hbr⟩ := hrel
    have HJr : Aside0 (DJ w z Bb c9 C10 C11 cq pb kb N top next s (L1 + 1) R (some ⟨gb, 0, none⟩) kR (tops BB (M / N) (L1 + 1) (i + 1)) wr) := ⟨HJ2.out.below hbr.out⟩
    have c13 := HJr.out.b13.cell
    have c9' := HJr.out.b9.cell
    have c11 := HJr.out.b11.cell
    have hnext1 : next < 1000000000 := by rw [← HT.out.2.2.2.1]; exact Nat.mod_lt _ (by decide)
    have htop1 : top < 1000000000 := by rw [← HT.out.2.2.1]; exact Nat.mod_lt _ (by decide)
    by_cases hge : 1000000000 ≤ g
    ·have d1 : decide ((1000000000 : Int) ≤ (g : Int)) = true := decide_eq_true (by omega)
     have HTst : Aside0 (BB ≤ g ∨ q * BB + rr2 < g * next) := ⟨.inl hge⟩
     gi_wp2
     rename_i Q7 K7 hK7 K6 hK6
     refine wpIn_round_held_drew (S := (fun V => V.cell? ⟨c9, 0, none⟩ = some (.int .i64 (kb : Int)))) (by kernel_rfl) (by kernel_rfl) (by repeat (first | exact (fun ⟨_, _, h⟩ => h) | refine letsOut_then ?_)) ?_ (fun hHeld => ?_)
     ·exact c9'
     refine tp 0 ?_
     try simp only [PU]
     refine tp 1 ?_
     try simp only [PU]
     refine tp 2 ?_
     try simp only [PU]
     refine tu 3 ?_
     try simp only [PU]
     refine tu 4 ?_
     try simp only [PU]
     refine tu 5 ?_
     try simp only [PU]
     refine tu 6 ?_
     try simp only [PU]
     refine tu 7 ?_
     try simp only [PU]
     refine tu 8 ?_
     try simp only [PU]
     refine tu 9 ?_
     try simp only [PU]
     refine tu 10 ?_
     try simp only [PU]
     refine tu 11 ?_
     try simp only [PU]
     refine tu 12 ?_
     try simp only [PU]
     refine tu 13 ?_
     try simp only [PU]
     refine tp 14 ?_
     try simp only [PU]
     refine wpAnyH_done (by kernel_rfl) ?_ _
     have hbr : Aside0 (Below X2.heap.size X2 wr.drew) := ⟨below_drew1 hbr.out⟩
     clear hHeld
     obtain ⟨wr', hwr'⟩ : ∃ wr', wr.drew = wr' := ⟨_, rfl⟩
     have c10 : wr'.cell? ⟨C10, 0, none⟩ = some (.int .u64 (top : Int)) := by subst hwr'; exact HJr.out.b10.cell
     rw [hwr'] at hbr ⊢
     clear hwr'
     refine hK6 _ _ ?_
     have hlt := HH.out.great hgq.out.1 HTst.out
     have hg1 : 1 ≤ g := Nat.lt_of_le_of_lt (Nat.zero_le _) hlt
     have hgq' : Aside0 ((g - 1) * top + (q + top) = head ∧ R / N ≤ g - 1) := ⟨by
      obtain ⟨g', rfl⟩ : ∃ g', g = g' + 1 := ⟨g - 1, by omega⟩
      have h := hgq.out.1
      rw [Nat.add_mul, Nat.one_mul] at h
      rw [Nat.add_sub_cancel]; omega, by omega⟩
     have e1 : IntKind.u64.wrap ((g : Int) - 1) = ((g - 1 : Nat) : Int) := by rw [IntWalk.u64_in _ (by omega)]; omega
     have e2 : IntKind.u64.wrap ((q : Int) + (top : Int)) = ((q + top : Nat) : Int) := by rw [IntWalk.u64_in _ (by omega)]; omega
     generalize hg' : g - 1 = g' at *
     generalize hq' : q + top = q' at *
     clear hlt d1
     by_cases hbk : 1000000000 ≤ q'
     ·have d1 : decide ((1000000000 : Int) ≤ (q' : Int)) = true := decide_eq_true (by omega)
      gi_wp2
      have hbr2 := HH.out.broke hgq'.out.1 hbk
      exact ⟨g', ⟨rfl, q', rfl⟩, hgq'.out.2, HH.out.near hgq'.out.1 hbr2.1 hbr2.2, hbr2.1, hbr.out⟩
     ·have d1 : decide ((1000000000 : Int) ≤ (q' : Int)) = false := decide_eq_false (by omega)
      gi_wp2
      exact ⟨⟨g', q', rfl, rfl, by omega, by omega, hgq', hbr⟩, by simp [intOf]; omega⟩
    ·have d1 : decide ((1000000000 : Int) ≤ (g : Int)) = false := decide_eq_false (by omega)
     have hpb : g * next ≤ 1000000000 * 1000000000 := Nat.mul_le_mul (by omega) (by omega)
     obtain ⟨p, hp⟩ : ∃ p, g * next = p := ⟨_, rfl⟩
     obtain ⟨y, hy⟩ : ∃ y, q * 1000000000 + rr2 = y := ⟨_, rfl⟩
     have e4 : IntKind.u64.wrap ((g : Int) * (next : Int)) = (p : Int) := by
      have : ((g * next : Nat) : Int) = (p : Int) := by rw [hp]
      rw [Int.natCast_mul] at this
      rw [this]; exact IntWalk.u64_in _ (by omega)
     have e5 : IntKind.u64.wrap ((q : Int) * 1000000000) = (q : Int) * 1000000000 := IntWalk.u64_in _ (by omega)
     have e6 : IntKind.u64.wrap ((q : Int) * 1000000000 + (rr2 : Int)) = (y : Int) := by rw [IntWalk.u64_in _ (by omega)]; omega
     have e7 : IntKind.i64.wrap ((kb : Int) - 2) = (j2 : Int) := by have := HT.out.2.1; rw [IntWalk.i64_in _ (by omega)]; omega
     have hy' : q * BB + rr2 = y := hy
     have HPY : Aside0 (g * next = p ∧ q * BB + rr2 = y) := ⟨hp, hy'⟩
     clear hp hy hy' hpb
     by_cases htest : y < p
     rotate_left
     ·have hle1 : g * next ≤ q * BB + rr2 := by rw [HPY.out.1, HPY.out.2]; omega
      have d2 : decide ((y : Int) < (p : Int)) = false := decide_eq_false (by omega)
      have HLE := Aside0.mk hle1
      clear hle1
      gi_wp2
      rename_i Q7 K7 hK7 K6 hK6
      refine wpIn_round_held_drew (S := (fun V => V.cell? ⟨cq + 1 + 1, 0, none⟩ = some (.slice (some ⟨gb, 0, none⟩) kR kR) ∧ V.cell? ⟨c9, 0, none⟩ = some (.int .i64 (kb : Int)) ∧ V.cell? ⟨C11, 0, none⟩ = some (.int .u64 (next : Int)))) (by kernel_rfl) (by kernel_rfl) (by repeat (first | exact (fun ⟨_, _, h⟩ => h) | refine letsOut_then ?_)) ?_ (fun hHeld => ?_)
      ·exact ⟨c13, c9', c11⟩
      obtain ⟨Wd, hWd⟩ : ∃ Wd, wr.drew = Wd := ⟨_, rfl⟩
      rw [hWd] at hHeld ⊢
      have HBV : Aside0 (Below wr.heap.size wr Wd) := ⟨by subst hWd; exact below_drew1 (Below.refl _ _)⟩
      clear hWd
      refine tp 0 ?_
      try simp only [PU]
      refine tp 1 ?_
      try simp only [PU]
      refine tp 2 ?_
      try simp only [PU]
      refine tp 3 ?_
      try simp only [PU]
      refine tp 4 ?_
      try simp only [PU]
      refine tp 5 ?_
      try simp only [PU]
      refine tp 6 ?_
      try simp only [PU]
      refine tp 7 ?_
      try simp only [PU]
      refine tp 8 ?_
      try simp only [PU]
      refine tp 9 ?_
      try simp only [PU]
      refine tp 10 ?_
      try simp only [PU]
      refine tc 11 fun K hK => ?_
      go_simp
      (go_at_call 193; (with_reducible refine (limb_any HJr.out.mr (Nat.le_refl _) HBV.out j2 HXX.out.2.2).mono ?_); rintro e wr' ⟨rfl, hbq⟩; have HBV := Aside0.mk (bJoin hbq HBV.out); have hbr := Aside0.mk (bJoin HBV.out hbr.out); have c10 := (HJr.out.below HBV.out).b10.cell; clear hbq)
      refine hK.out _ _ ?_ fun hHeld => ?_
      ·exact ⟨keepAt HBV.out c13, keepAt HBV.out c9', keepAt HBV.out c11⟩
      clear hK K; try simp only [PU]
      refine tp 12 ?_
      try simp only [PU]
      refine tp 13 ?_
      try simp only [PU]
      refine tp 14 ?_
      try simp only [PU]
      refine wpAnyH_done (by kernel_rfl) ?_ _
      refine hK6 _ _ ?_
      gi_wp2
      exact ⟨g, ⟨rfl, q, rfl⟩, hgq.out.2, HH.out.near hgq.out.1 (Nat.lt_of_not_le hge) HLE.out, Nat.lt_of_not_le hge, hbr.out⟩
     have HTst : Aside0 (BB ≤ g ∨ q * BB + rr2 < g * next) := ⟨.inr (by rw [HPY.out.1, HPY.out.2]; exact htest)⟩
     have d2 : decide ((y : Int) < (p : Int)) = true := decide_eq_true (by omega)
     gi_wp2
     rename_i Q7 K7 hK7 K6 hK6
     refine wpIn_round_held_drew (S := (fun V => V.cell? ⟨cq + 1 + 1, 0, none⟩ = some (.slice (some ⟨gb, 0, none⟩) kR kR) ∧ V.cell? ⟨c9, 0, none⟩ = some (.int .i64 (kb : Int)) ∧ V.cell? ⟨C11, 0, none⟩ = some (.int .u64 (next : Int)))) (by kernel_rfl) (by kernel_rfl) (by repeat (first | exact (fun ⟨_, _, h⟩ => h) | refine letsOut_then ?_)) ?_ (fun hHeld => ?_)
     ·exact ⟨c13, c9', c11⟩
     obtain ⟨Wd, hWd⟩ : ∃ Wd, wr.drew = Wd := ⟨_, rfl⟩
     rw [hWd] at hHeld ⊢
     have HBV : Aside0 (Below wr.heap.size wr Wd) := ⟨by subst hWd; exact below_drew1 (Below.refl _ _)⟩
     clear hWd
     refine tp 0 ?_
     try simp only [PU]
     refine tp 1 ?_
     try simp only [PU]
     refine tp 2 ?_
     try simp only [PU]
     refine tp 3 ?_
     try simp only [PU]
     refine tp 4 ?_
     try simp only [PU]
     refine tp 5 ?_
     try simp only [PU]
     refine tp 6 ?_
     try simp only [PU]
     refine tp 7 ?_
     try simp only [PU]
     refine tp 8 ?_
     try simp only [PU]
     refine tp 9 ?_
     try simp only [PU]
     refine tp 10 ?_
     try simp only [PU]
     refine tc 11 fun K hK => ?_
     go_simp
     (go_at_call 193; (with_reducible refine (limb_any HJr.out.mr (Nat.le_refl _) HBV.out j2 HXX.out.2.2).mono ?_); rintro e wr' ⟨rfl, hbq⟩; have HBV := Aside0.mk (bJoin hbq HBV.out); have hbr := Aside0.mk (bJoin HBV.out hbr.out); have c10 := (HJr.out.below HBV.out).b10.cell; clear hbq)
     refine hK.out _ _ ?_ fun hHeld => ?_
     ·exact ⟨keepAt HBV.out c13, keepAt HBV.out c9', keepAt HBV.out c11⟩
     clear hK K; try simp only [PU]
     refine tp 12 ?_
     try simp only [PU]
     refine tp 13 ?_
     try simp only [PU]
     refine tp 14 ?_
     try simp only [PU]
     refine wpAnyH_done (by kernel_rfl) ?_ _
     refine hK6 _ _ ?_
     have hlt := HH.out.great hgq.out.1 HTst.out
     have hg1 : 1 ≤ g := Nat.lt_of_le_of_lt (Nat.zero_le _) hlt
     have hgq' : Aside0 ((g - 1) * top + (q + top) = head ∧ R / N ≤ g - 1) := ⟨by
      obtain ⟨g', rfl⟩ : ∃ g', g = g' + 1 := ⟨g - 1, by omega⟩
      have h := hgq.out.1
      rw [Nat.add_mul, Nat.one_mul] at h
      rw [Nat.add_sub_cancel]; omega, by omega⟩
     have e1 : IntKind.u64.wrap ((g : Int) - 1) = ((g - 1 : Nat) : Int) := by rw [IntWalk.u64_in _ (by omega)]; omega
     have e2 : IntKind.u64.wrap ((q : Int) + (top : Int)) = ((q + top : Nat) : Int) := by rw [IntWalk.u64_in _ (by omega)]; omega
     generalize hg' : g - 1 = g' at *
     generalize hq' : q + top = q' at *
     clear hlt d1
     by_cases hbk : 1000000000 ≤ q'
     ·have d1 : decide ((1000000000 : Int) ≤ (q' : Int)) = true := decide_eq_true (by omega)
      gi_wp2
      have hbr2 := HH.out.broke hgq'.out.1 hbk
      exact ⟨g', ⟨rfl, q', rfl⟩, hgq'.out.2, HH.out.near hgq'.out.1 hbr2.1 hbr2.2, hbr2.1, hbr.out⟩
     ·have d1 : decide ((1000000000 : Int) ≤ (q' : Int)) = false := decide_eq_false (by omega)
      gi_wp2
      exact ⟨⟨g', q', rfl, rfl, by omega, by omega, hgq', hbr⟩, by simp [intOf]; omega⟩
  --END LOOP
  intro T Z hM
  dsimp only at hM ⊢
  obtain ⟨g, q, v110, v111, v112, v113, v114, v115, v116, v117, v118, v119, v120, v121, v122, v123, v124, v125, v126, v127, v128, v129, v130, v131, hT, hlo, hhi, hgB, hbZ⟩ := hM
  simp only [List.setIfInBounds_toArray, List.set_cons_zero, List.set_cons_succ] at hT
  subst hT
  refine hK8 _ _ ?_
  clear hK8
  have HJ3 : Aside0 (DJ w z Bb c9 C10 C11 cq pb kb N top next s (L1 + 1) R (some ⟨gb, 0, none⟩) kR (tops BB (M / N) (L1 + 1) (i + 1)) Z) := ⟨HJ2.out.below hbZ⟩
  have HK3 : Aside0 (DK W0.heap.size cq own W Z ∧ W.heap.size ≤ Z.heap.size) := ⟨HK2.out.1.below hbZ (by have := HK2.out.2; have := HO.out.1; omega), Nat.le_trans HK2.out.2 hbZ.size⟩
  have HG : Aside0 (R / N ≤ g ∧ g ≤ R / N + 1) := ⟨hlo, hhi⟩
  have hgB' : g < 1000000000 := hgB
  have e1 : IntKind.u32.wrap (g : Int) = (g : Int) := IntWalk.u32_in _ (by omega)
  have q8 := HJ3.out.b8.cell
  have HMB : Aside0 (∀ cur, Below Z.heap.size Z cur → Mag cur cur.heap.size (some ⟨pb, 0, none⟩) kb N) := ⟨fun cur hcur => (HJ3.out.below hcur).mb.more (by have := (HJ3.out.below hcur).row.lt; omega)⟩
  clear hlo hhi hbZ HJ2 HK2 HG0 HH
  gi_wp2
  rename_i K9 hK9
  refine wpIn_mid (fun T0 T Y => ∃ (Ap : Option Addr) (kp B19 : Nat) (v135 v136 v137 : Value), T = (((((((T0.setIfInBounds 132 (.agg #[.slice (some ⟨pb, 0, none⟩) kb kb])).setIfInBounds 133 (.int .u64 (g : Int))).setIfInBounds 134 (.int .u32 (g : Int))).setIfInBounds 135 v135).setIfInBounds 136 v136).setIfInBounds 137 v137).setIfInBounds 138 (.agg #[.slice Ap kp kp])).setIfInBounds 19 (.pointer (some ⟨B19, 0, none⟩)) ∧ Boxed Y B19 109 (.slice Ap kp kp) ∧ Mag Y Y.heap.size Ap kp (N * g) ∧ Below Z.heap.size Z Y ∧ Z.heap.size ≤ B19) ?_ ?_
  --BEGIN R21
  ·refine wpIn_round_held_drew (S := (fun V => V.cell? ⟨Bb, 0, none⟩ = some (.slice (some ⟨pb, 0, none⟩) kb kb))) (by kernel_rfl) (by kernel_rfl) (by repeat (first | exact (fun ⟨_, _, h⟩ => h) | refine letsOut_then ?_)) ?_ (fun hHeld => ?_)
   ·exact q8
   obtain ⟨Wd, hWd⟩ : ∃ Wd, Z.drew = Wd := ⟨_, rfl⟩
   rw [hWd] at hHeld ⊢
   have HBV : Aside0 (Below Z.heap.size Z Wd) := ⟨by subst hWd; exact below_drew1 (Below.refl _ _)⟩
   clear hWd
   repeat' (first
    | (refine fun (_ : Tg 3) K hK => ?_; go_simp; ((try have hx7 := Aside0.mk (hx7.out.alloc (.cells #[.int .u32 (g : Int)] 22))); have HLIT := Aside0.mk (lst_lit2 HBV.out g 22); obtain ⟨A5, hA5, HLIT⟩ := opaqueA HLIT; rw [hA5]; clear hA5; have HBV := Aside0.mk (below_alloc HBV.out (.cells #[.int .u32 (g : Int)] 22)); obtain ⟨Y, hY, HBV⟩ := opaque0 HBV; rw [hY]; (try rw [hY] at hx7); (try rw [hY] at hx8); (try rw [hY] at hma); (try rw [hY] at hmb); (try rw [hY] at HLIT); (try rw [hY] at hmg); clear hY; (try have r7 := hx7.out.cell); (try have rf7 := hx7.out.frozen); (try have r8 := hx8.out.cell); (try have rf8 := hx8.out.frozen)); refine hK.out _ _ ?_ fun hHeld => ?_; (exact keepAt HBV.out q8); clear hK K; try simp only [PU])
    | (refine fun (_ : Tg 4) K hK => ?_; go_simp; (go_at_call 180; (with_reducible refine (strip_lit HLIT.out hgB (Nat.le_refl _)).mono ?_); rintro e wq ⟨A4, k4, rfl, hmg, hbq⟩; have hk4 : k4 ≤ 1 := (by have := dg_length BB1 1 g (by rw [Nat.pow_one]; exact hgB); rw [hmg.1] at this; exact this); have hmg := Aside0.mk hmg; (try have hx7 := Aside0.mk (boxed_below hx7.out hbq)); have HBV := Aside0.mk (bJoin hbq HBV.out); (try have r7 := hx7.out.cell); (try have rf7 := hx7.out.frozen); (try have r8 := hx8.out.cell); (try have rf8 := hx8.out.frozen)); refine hK.out _ _ ?_ fun hHeld => ?_; (exact keepAt HBV.out q8); clear hK K; try simp only [PU])
    | (refine fun (_ : Tg 6) K hK => ?_; go_simp; (go_at_call 140; (with_reducible refine (mul_calls (HMB.out _ HBV.out) hmg.out (Nat.le_refl _) (by omega)).mono ?_); rintro e wq ⟨Ap, kp, rfl, hma, hbq⟩; have hma := Aside0.mk hma; (try have hx7 := Aside0.mk (boxed_below hx7.out hbq)); have HBV := Aside0.mk (bJoin hbq HBV.out); (try have r7 := hx7.out.cell); (try have rf7 := hx7.out.frozen); (try have r8 := hx8.out.cell); (try have rf8 := hx8.out.frozen)); refine hK.out _ _ ?_ fun hHeld => ?_; (exact keepAt HBV.out q8); clear hK K; try simp only [PU])
    | (refine fun (_ : Tg 7) K hK => ?_; go_simp; ((try have hma := Aside0.mk (hma.out.upA (.cells #[.slice none 0 0] 109))); (try have hmg := Aside0.mk (hmg.out.upA (.cells #[.slice none 0 0] 109))); (try have HLIT := Aside0.mk (lst_upA HLIT.out (below_alloc (Below.refl _ _) (.cells #[.slice none 0 0] 109)))); have hx7 := Aside0.mk (box_new HBV.out 109 (.slice none 0 0)); have hl7 := HBV.out.size; have HBV := Aside0.mk (below_alloc HBV.out (.cells #[.slice none 0 0] 109)); obtain ⟨Y, hY, HBV⟩ := opaque0 HBV; rw [hY]; (try rw [hY] at hx7); (try rw [hY] at hx8); (try rw [hY] at hma); (try rw [hY] at hmb); (try rw [hY] at HLIT); (try rw [hY] at hmg); clear hY; (try have r7 := hx7.out.cell); (try have rf7 := hx7.out.frozen); (try have r8 := hx8.out.cell); (try have rf8 := hx8.out.frozen)); refine hK.out _ _ ?_ fun hHeld => ?_; (exact keepAt HBV.out q8); clear hK K; try simp only [PU])
    | (refine fun (_ : Tg 8) K hK => ?_; go_simp; (have hma := Aside0.mk (hma.out.upS hx7.out (fun d => by simp) 0 (.slice Ap kp kp)); have HBV := hbv_set HBV hx7.out hl7 (.slice Ap kp kp); have hx7 := Aside0.mk (hx7.out.set (.slice Ap kp kp)); obtain ⟨Y, hY, HBV⟩ := opaque0 HBV; rw [hY]; (try rw [hY] at hx7); (try rw [hY] at hx8); (try rw [hY] at hma); (try rw [hY] at hmb); (try rw [hY] at HLIT); (try rw [hY] at hmg); clear hY); refine hK.out _ _ ?_ fun hHeld => ?_; (exact keepAt HBV.out q8); clear hK K; try simp only [PU])
    | (refine tq 0 ?_; try simp only [PU])
    | (refine tq 1 ?_; try simp only [PU])
    | (refine tq 2 ?_; try simp only [PU])
    | (refine tq 5 ?_; try simp only [PU])
    | refine t1 7 ?_
    | refine t1 8 ?_
    | refine t1 6 ?_
    | refine t1 4 ?_
    | refine t1 3 ?_
    | refine t2 3 7 ?_ ?_
    | refine t2 4 7 ?_ ?_
    | refine t2 6 7 ?_ ?_
    | fail)
   all_goals
    refine wpAnyH_done (by kernel_rfl) ?_ _
    dsimp only
    exact ⟨rfl, Ap, kp, _, .slice A5 1 1, .slice A4 k4 k4, .agg #[.slice A4 k4 k4], by simp only [List.setIfInBounds_toArray, List.set_cons_zero, List.set_cons_succ], hx7.out, hma.out, HBV.out, hl7⟩
  --END R21
  intro T Z2 hM
  dsimp only at hM ⊢
  obtain ⟨Ap, kp, B19, v135, v136, v137, hT, x19, ma, hbZ2, l19⟩ := hM
  simp only [List.setIfInBounds_toArray, List.set_cons_zero, List.set_cons_succ] at hT
  subst hT
  refine hK9 _ _ ?_
  clear hK9
  have HJ4 : Aside0 (DJ w z Bb c9 C10 C11 cq pb kb N top next s (L1 + 1) R (some ⟨gb, 0, none⟩) kR (tops BB (M / N) (L1 + 1) (i + 1)) Z2) := ⟨HJ3.out.below hbZ2⟩
  have HK4 : Aside0 (DK W0.heap.size cq own W Z2 ∧ W.heap.size ≤ Z2.heap.size) := ⟨HK3.out.1.below hbZ2 (by have := HK3.out.2; have := HO.out.1; omega), Nat.le_trans HK3.out.2 hbZ2.size⟩
  have HX19 : Aside0 (Boxed Z2 B19 109 (.slice Ap kp kp) ∧ Mag Z2 Z2.heap.size Ap kp (N * g) ∧ W.heap.size ≤ B19) := ⟨x19, ma, Nat.le_trans HK3.out.2 l19⟩
  have n1 : ¬ B19 = cq + 1 + 1 := by have := HK3.out.2; have := HO.out.1; omega
  have n2 : ¬ cq + 1 + 1 = B19 := fun e => n1 e.symm
  have c19 := x19.cell
  have c13 := HJ4.out.b13.cell
  have hil : i < L1 + 1 := by have := HQ.out.2.2.2.2; omega
  have hil' : (i : Int) < (L1 : Int) + 1 := by omega
  have hid : decide ((i : Int) < (L1 : Int) + 1) = true := decide_eq_true (by omega)
  clear x19 ma HJ3 HK3 hbZ2 l19 q8 HMB e1
  obtain ⟨G, hG⟩ : ∃ G, N * g = G := ⟨_, rfl⟩
  have hc1 : R < G → N ≤ G ∧ G - N = N * (R / N) ∧ g - 1 = R / N ∧ 1 ≤ g := by
   intro h
   rw [← hG] at h
   have hg := (guess_right hN0 HG.out.1 HG.out.2).1 h
   rw [← hG, hg, Nat.mul_add, Nat.mul_one]
   exact ⟨Nat.le_add_left _ _, Nat.add_sub_cancel _ _, Nat.add_sub_cancel _ _, Nat.le_add_left _ _⟩
  have hc2 : G ≤ R → G = N * (R / N) ∧ g = R / N := by
   intro h
   rw [← hG] at h
   have hg := (guess_right hN0 HG.out.1 HG.out.2).2 h
   exact ⟨by rw [← hG, ← hg], hg⟩
  have HXN : Aside0 (Boxed Z2 B19 109 (.slice Ap kp kp) ∧ Mag Z2 Z2.heap.size Ap kp G ∧ W.heap.size ≤ B19) := ⟨HX19.out.1, by rw [← hG]; exact HX19.out.2.1, HX19.out.2.2⟩
  clear hG HX19
  have HX19 := HXN
  clear HXN
  by_cases hgt : R < G
  ·obtain ⟨h1, h2, h3, h4⟩ := hc1 hgt
   have HV2 : Aside0 (cmpI (G : Int) (R : Int) = 1 ∧ N ≤ G ∧ G - N = N * (R / N) ∧ g - 1 = R / N) := ⟨by unfold cmpI; rw [if_neg (by omega), if_pos (by omega)], h1, h2, h3⟩
   have e1 : IntKind.u64.wrap ((g : Int) - 1) = ((g - 1 : Nat) : Int) := by rw [IntWalk.u64_in _ (by omega)]; omega
   have e2 : IntKind.u32.wrap ((g - 1 : Nat) : Int) = ((g - 1 : Nat) : Int) := IntWalk.u32_in _ (by omega)
   clear h1 h2 h3 h4 hc1 hc2
   generalize hgg : g - 1 = gg at *
   have HGG : Aside0 (gg = R / N) := ⟨HV2.out.2.2.2⟩
   clear hgg hgt
   gi_wp2_with (first | (refine ⟨trivial, ?_⟩; gi_at_call 182; with_reducible refine ((callsIn_wide.2 (order_any HX19.out.2.1 HJ4.out.mr (Nat.le_refl _) (Below.refl _ _) HV2.out.1)).inRound _).mono ?_; rintro e Z3 ⟨rfl, hbo⟩; have HBO := Aside0.mk hbo; have c19 := keepAt hbo c19; have f19 := (boxed_below HX19.out.1 hbo).frozen; have c13 := keepAt hbo c13; have c8 := (HJ4.out.below hbo).b8.cell; clear hbo) | (refine ⟨trivial, ?_⟩; gi_at_call 192; with_reducible refine ((callsIn_wide.2 (less_fresh (HX19.out.2.1.up HBO.out) (((HJ4.out.below HBO.out).mb).more (by have := (HJ4.out.below HBO.out).row.lt; omega)) (Nat.le_refl _) HV2.out.2.1)).inRound _).mono ?_; rintro e Z4 ⟨Aq, kq, rfl, hfq, hmq, hbl⟩; rw [HV2.out.2.2.1] at hmq; have HBL := Aside0.mk hbl; have HMQ := Aside0.mk hmq; have c19 := keepAt hbl c19; have f19 := (boxed_below (boxed_below HX19.out.1 HBO.out) hbl).frozen; have hx19 := boxed_below (boxed_below HX19.out.1 HBO.out) hbl; have HJ5 := Aside0.mk (((HJ4.out.below HBO.out).below hbl).box hx19 (fun d => by simp) (by have := HX19.out.2.2; have := HO.out.1; omega) (.slice Aq kq kq)); have HFIN := Aside0.mk (And.intro HJ5.out.mr (hmq.upS hx19 (fun d => by simp) 0 (.slice Aq kq kq))); have HK5 := Aside0.mk (((HK4.out.1.below HBO.out (by have := HK4.out.2; have := HO.out.1; omega)).below hbl (by have := HBO.out.size; have := HK4.out.2; have := HO.out.1; omega)).set (o := 0) (b := B19) (.slice Aq kq kq) (by have := HX19.out.2.2; have := HO.out.1; omega) (fun hm => by have := (HO.out.2 _ hm).2; have := HX19.out.2.2; omega)); have HZ5 : Aside0 (W.heap.size ≤ (Z4.setCell ⟨B19, 0, none⟩ (.slice Aq kq kq)).heap.size) := ⟨by have := HBO.out.size; have := hbl.size; have := HK4.out.2; simp; omega⟩; have c13 := keepAt hbl c13; clear hbl hmq hfq hx19) | (refine ⟨trivial, ?_⟩; gi_at_call 192; with_reducible refine ((callsIn_wide.2 (less_fresh HFIN.out.1 HFIN.out.2 (Nat.le_refl _) (Nat.mul_div_le R N))).inRound _).mono ?_; rintro e Z5 ⟨As, ks, rfl, hfs, hms, hbs⟩; rw [rest_right] at hms; have HBS := Aside0.mk hbs; have HMS := Aside0.mk hms; have HFS := Aside0.mk hfs; have c13 := (HJ5.out.below hbs).b13.cell; have f13 := (HJ5.out.below hbs).b13.frozen; have c12 := (HJ5.out.below hbs).b12.cell; have cqi := (HJ5.out.below hbs).row.cell (j := i) (by rw [tops_length]; exact hil); have fqi := (HJ5.out.below hbs).row.frozen i; clear hbs hms hfs))
   refine noGoto_normal ?_
   show KeepsFrom _ _ _ ∧ Rf.Kept _ _ _ _ ∧ _
   have hfr : ∀ c, 0 < ks → As = some ⟨c, 0, none⟩ → cq + 3 ≤ c ∧ c ∉ own := fun c hk e => by
    have h1 := HFS.out c e
    have h2 := HZ5.out
    have h3 := HO.out.1
    exact ⟨by omega, fun hm => by have := (HO.out.2 _ hm).2; omega⟩
   have HJF := ((HJ5.out.below HBS.out).rest HMS.out).digit (fun c hk e => by have := (hfr c hk e).1; omega) i gg
   rw [HGG.out, HQ.out.1, tops_set] at HJF
   have HKF := ((HK5.out.below HBS.out (by have := HZ5.out; have := HO.out.1; omega)).set (o := 0) (b := cq + 1 + 1) (.slice As ks ks) (by omega) (fun hm => by have := (HO.out.2 _ hm).1; omega)).set (o := i) (b := cq) (.int .u32 (gg : Int)) (Nat.le_refl _) (fun hm => by have := (HO.out.2 _ hm).1; omega)
   refine ⟨HKF.kf, HKF.kp, ?_⟩
   rw [HQ.out.2.2.2.1, HGG.out, HQ.out.1]
   exact HJF.di HQ.out.2.2.2.2 HQ.out.2.1 hfr (fun r hr => (HO.out.2 r hr).1)
  ·obtain ⟨h1, h2⟩ := hc2 (by omega)
   obtain ⟨cc, hcc⟩ : ∃ cc, cmpI (G : Int) (R : Int) = cc := ⟨_, rfl⟩
   have hcd : decide (0 < cc) = false := decide_eq_false (by rw [← hcc]; unfold cmpI; split <;> first | omega | (split <;> omega))
   have hcd' : decide (cc > 0) = false := hcd
   have HV2 : Aside0 (cmpI (G : Int) (R : Int) = cc) := ⟨hcc⟩
   have HGG0 : Aside0 (g = R / N) := ⟨h2⟩
   rw [h1] at HX19
   rw [h1] at HV2
   have e2 : IntKind.u32.wrap (g : Int) = (g : Int) := IntWalk.u32_in _ (by omega)
   clear h1 h2 hc1 hc2 hcc hgt
   generalize hgg : g = gg at *
   have HGG : Aside0 (gg = R / N) := HGG0
   clear hgg HGG0
   gi_wp2_with (first | (refine ⟨trivial, ?_⟩; gi_at_call 182; with_reducible refine ((callsIn_wide.2 (order_any HX19.out.2.1 HJ4.out.mr (Nat.le_refl _) (Below.refl _ _) HV2.out)).inRound _).mono ?_; rintro e Z3 ⟨rfl, hbo⟩; have HBO := Aside0.mk hbo; have c19 := keepAt hbo c19; have f19 := (boxed_below HX19.out.1 hbo).frozen; have c13 := keepAt hbo c13; have HJ5 := Aside0.mk (HJ4.out.below hbo); have HFIN := Aside0.mk (And.intro HJ5.out.mr (HX19.out.2.1.up hbo)); have HK5 := Aside0.mk (HK4.out.1.below hbo (by have := HK4.out.2; have := HO.out.1; omega)); have HZ5 : Aside0 (W.heap.size ≤ Z3.heap.size) := ⟨Nat.le_trans HK4.out.2 hbo.size⟩; clear hbo) | (refine ⟨trivial, ?_⟩; gi_at_call 192; with_reducible refine ((callsIn_wide.2 (less_fresh HFIN.out.1 HFIN.out.2 (Nat.le_refl _) (Nat.mul_div_le R N))).inRound _).mono ?_; rintro e Z5 ⟨As, ks, rfl, hfs, hms, hbs⟩; rw [rest_right] at hms; have HBS := Aside0.mk hbs; have HMS := Aside0.mk hms; have HFS := Aside0.mk hfs; have c13 := (HJ5.out.below hbs).b13.cell; have f13 := (HJ5.out.below hbs).b13.frozen; have c12 := (HJ5.out.below hbs).b12.cell; have cqi := (HJ5.out.below hbs).row.cell (j := i) (by rw [tops_length]; exact hil); have fqi := (HJ5.out.below hbs).row.frozen i; clear hbs hms hfs))
   refine noGoto_normal ?_
   show KeepsFrom _ _ _ ∧ Rf.Kept _ _ _ _ ∧ _
   have hfr : ∀ c, 0 < ks → As = some ⟨c, 0, none⟩ → cq + 3 ≤ c ∧ c ∉ own := fun c hk e => by
    have h1 := HFS.out c e
    have h2 := HZ5.out
    have h3 := HO.out.1
    exact ⟨by omega, fun hm => by have := (HO.out.2 _ hm).2; omega⟩
   have HJF := ((HJ5.out.below HBS.out).rest HMS.out).digit (fun c hk e => by have := (hfr c hk e).1; omega) i gg
   rw [HGG.out, HQ.out.1, tops_set] at HJF
   have HKF := ((HK5.out.below HBS.out (by have := HZ5.out; have := HO.out.1; omega)).set (o := 0) (b := cq + 1 + 1) (.slice As ks ks) (by omega) (fun hm => by have := (HO.out.2 _ hm).1; omega)).set (o := i) (b := cq) (.int .u32 (gg : Int)) (Nat.le_refl _) (fun hm => by have := (HO.out.2 _ hm).1; omega)
   refine ⟨HKF.kf, HKF.kp, ?_⟩
   rw [HQ.out.2.2.2.1, HGG.out, HQ.out.1]
   exact HJF.di HQ.out.2.2.2.2 HQ.out.2.1 hfr (fun r hr => (HO.out.2 r hr).1)
 --END BODY
 --BEGIN DONE
 case done =>
  rintro D xs own W hD rfl hI hK
  obtain ⟨r2, r3, sc, sl, b8, b9, b10, b11, b12, mb, ⟨k, Ar, kr, k1, k2, k3, k4, k5, k6⟩, lo, hc, bl⟩ := hI
  obtain rfl := backs_inj k2
  rw [Nat.sub_self, Nat.pow_zero, Nat.div_one] at k4
  rw [Nat.sub_self, tops_full] at k6
  have HW : Aside0 (DJ w z Bb c9 C10 C11 cq pb kb N top next s (L1 + 1) (M % N) Ar kr (digs BB (M / N) (L1 + 1)) W) := ⟨⟨r2, r3, sc, sl, b8, b9, b10, b11, b12, mb, k3, k4, k6, hc, bl⟩⟩
  have HDD : Aside0 (W.heap[D]? = some (.deferred (some [])) ∧ cq + 4 ≤ D) := ⟨hK, by omega⟩
  have HDIV : Aside0 (M % N / s = m % n ∧ M / N = m / n ∧ val BB (digs BB (M / N) (L1 + 1)) = M / N) := ⟨by
   have h0 := HV.out.2.1
   have hv : val BB (digs BB (M / N) (L1 + 1)) = M / N := by
    rw [val_digs BB1]
    refine Nat.mod_eq_of_lt (Nat.lt_of_le_of_lt (Nat.div_le_self _ _) ?_)
    have h := dg_lt_pow BB1 M
    rw [HD.out.2.1.1] at h
    exact Nat.lt_of_lt_of_le h (Nat.pow_le_pow_right (by decide) (by omega))
   refine ⟨?_, ?_, hv⟩
   ·rw [← HMN.out.1, ← HMN.out.2, Nat.mul_mod_mul_right, Nat.mul_div_cancel _ h0]
   ·rw [← HMN.out.1, ← HMN.out.2, Nat.mul_div_mul_right _ _ h0]⟩
  have d13 := k3.cell
  have dsc := sc.cell
  have dsl := sl.cell
  clear r2 r3 sc sl b8 b9 b10 b11 b12 mb k3 k4 k5 k6 bl lo hc k2 hK I0 hcs
  go_wp2
  rename_i K2 hK2
  refine wp_mid (fun T0 T V => ∃ A5 k5 A6 k6 B20 B21, T = ((((((((((T0.setIfInBounds 161 (.agg #[.slice Ar kr kr])).setIfInBounds 162 (.pointer (some ⟨z + 1, 0, none⟩))).setIfInBounds 163 (.slice (some ⟨z, 0, none⟩) 1 1)).setIfInBounds 164 (.pointer (some ⟨z, 0, none⟩))).setIfInBounds 165 (.int .u32 (s : Int))).setIfInBounds 166 (.tuple #[.agg #[.slice A5 k5 k5], .agg #[.slice A6 k6 k6]])).setIfInBounds 160 (.tuple #[.agg #[.slice A5 k5 k5], .agg #[.slice A6 k6 k6]])).setIfInBounds 167 (.agg #[.slice A5 k5 k5])).setIfInBounds 168 (.agg #[.slice A6 k6 k6])).setIfInBounds 20 (.pointer (some ⟨B20, 0, none⟩))).setIfInBounds 21 (.pointer (some ⟨B21, 0, none⟩)) ∧ Boxed V B20 109 (.slice A5 k5 k5) ∧ Boxed V B21 109 (.slice A6 k6 k6) ∧ Mag V V.heap.size A5 k5 (M % N / s) ∧ Below W.heap.size W V ∧ W.heap.size ≤ B20) ?_ ?_
  --BEGIN R28
  ·refine wp_region_held_drew (S := (fun V => V.cell? ⟨cq + 1 + 1, 0, none⟩ = some (.slice Ar kr kr) ∧ V.cell? ⟨z + 1, 0, none⟩ = some (.slice (some ⟨z, 0, none⟩) 1 1) ∧ V.cell? ⟨z, 0, none⟩ = some (.int .u32 (s : Int)))) (by kernel_rfl) ?_ (fun hHeld => ?_)
   ·exact ⟨d13, dsc, dsl⟩
   obtain ⟨Wd, hWd⟩ : ∃ Wd, W.drew = Wd := ⟨_, rfl⟩
   rw [hWd] at hHeld ⊢
   have HBV : Aside0 (Below W.heap.size W Wd) := ⟨by subst hWd; exact below_drew1 (Below.refl _ _)⟩
   clear hWd
   repeat' (first
    | (refine fun (_ : Tg 5) K hK => ?_; go_simp; (go_at_call 215; (with_reducible refine (short_any HW.out.mr (Nat.le_refl _) HV.out.2.1 HV.out.2.2 HBV.out).mono ?_); rintro e wq ⟨A5, k5, A6, k6, rfl, hma, hm6, hbq⟩; have hma := Aside0.mk hma; clear hm6; (try have hx7 := Aside0.mk (boxed_below hx7.out hbq)); (try have hx8 := Aside0.mk (boxed_below hx8.out hbq)); have HBV := Aside0.mk (bJoin hbq HBV.out); (try have r7 := hx7.out.cell); (try have rf7 := hx7.out.frozen); (try have r8 := hx8.out.cell); (try have rf8 := hx8.out.frozen)); refine hK.out _ _ ?_ fun hHeld => ?_; (exact ⟨keepAt HBV.out d13, keepAt HBV.out dsc, keepAt HBV.out dsl⟩); clear hK K; try simp only [PU])
    | (refine fun (_ : Tg 9) K hK => ?_; go_simp; ((try have hma := Aside0.mk (hma.out.upA (.cells #[.slice none 0 0] 109))); (try have hne := Nat.ne_of_gt hx8.out.lt); (try have hx8 := Aside0.mk (hx8.out.alloc (.cells #[.slice none 0 0] 109))); have hx7 := Aside0.mk (box_new HBV.out 109 (.slice none 0 0)); have hl7 := HBV.out.size; have HBV := Aside0.mk (below_alloc HBV.out (.cells #[.slice none 0 0] 109)); obtain ⟨Y, hY, HBV⟩ := opaque0 HBV; rw [hY]; (try rw [hY] at hx7); (try rw [hY] at hx8); (try rw [hY] at hma); (try rw [hY] at hmb); (try rw [hY] at HLIT); (try rw [hY] at hmg); clear hY; (try have r7 := hx7.out.cell); (try have rf7 := hx7.out.frozen); (try have r8 := hx8.out.cell); (try have rf8 := hx8.out.frozen)); refine hK.out _ _ ?_ fun hHeld => ?_; (exact ⟨keepAt HBV.out d13, keepAt HBV.out dsc, keepAt HBV.out dsl⟩); clear hK K; try simp only [PU])
    | (refine fun (_ : Tg 10) K hK => ?_; go_simp; ((try have hma := Aside0.mk (hma.out.upA (.cells #[.slice none 0 0] 109))); (try have hne := Nat.ne_of_lt hx7.out.lt); (try have hx7 := Aside0.mk (hx7.out.alloc (.cells #[.slice none 0 0] 109))); have hx8 := Aside0.mk (box_new HBV.out 109 (.slice none 0 0)); have hl8 := HBV.out.size; have HBV := Aside0.mk (below_alloc HBV.out (.cells #[.slice none 0 0] 109)); obtain ⟨Y, hY, HBV⟩ := opaque0 HBV; rw [hY]; (try rw [hY] at hx7); (try rw [hY] at hx8); (try rw [hY] at hma); (try rw [hY] at hmb); (try rw [hY] at HLIT); (try rw [hY] at hmg); clear hY; (try have r7 := hx7.out.cell); (try have rf7 := hx7.out.frozen); (try have r8 := hx8.out.cell); (try have rf8 := hx8.out.frozen)); refine hK.out _ _ ?_ fun hHeld => ?_; (exact ⟨keepAt HBV.out d13, keepAt HBV.out dsc, keepAt HBV.out dsl⟩); clear hK K; try simp only [PU])
    | (refine fun (_ : Tg 11) K hK => ?_; go_simp; (have hx8 := Aside0.mk (hx8.out.other hne.symm (.slice A5 k5 k5)); have hma := Aside0.mk (hma.out.upS hx7.out (fun d => by simp) 0 (.slice A5 k5 k5)); have HBV := hbv_set HBV hx7.out hl7 (.slice A5 k5 k5); have hx7 := Aside0.mk (hx7.out.set (.slice A5 k5 k5)); obtain ⟨Y, hY, HBV⟩ := opaque0 HBV; rw [hY]; (try rw [hY] at hx7); (try rw [hY] at hx8); (try rw [hY] at hma); (try rw [hY] at hmb); (try rw [hY] at HLIT); (try rw [hY] at hmg); clear hY; (try have r7 := hx7.out.cell); (try have rf7 := hx7.out.frozen); (try have r8 := hx8.out.cell); (try have rf8 := hx8.out.frozen)); refine hK.out _ _ ?_ fun hHeld => ?_; (exact ⟨keepAt HBV.out d13, keepAt HBV.out dsc, keepAt HBV.out dsl⟩); clear hK K; try simp only [PU])
    | (refine fun (_ : Tg 12) K hK => ?_; go_simp; (have hx7 := Aside0.mk (hx7.out.other hne (.slice A6 k6 k6)); have hma := Aside0.mk (hma.out.upS hx8.out (fun d => by simp) 0 (.slice A6 k6 k6)); have HBV := hbv_set HBV hx8.out hl8 (.slice A6 k6 k6); have hx8 := Aside0.mk (hx8.out.set (.slice A6 k6 k6)); obtain ⟨Y, hY, HBV⟩ := opaque0 HBV; rw [hY]; (try rw [hY] at hx7); (try rw [hY] at hx8); (try rw [hY] at hma); (try rw [hY] at hmb); (try rw [hY] at HLIT); (try rw [hY] at hmg); clear hY); refine hK.out _ _ ?_ fun hHeld => ?_; (exact ⟨keepAt HBV.out d13, keepAt HBV.out dsc, keepAt HBV.out dsl⟩); clear hK K; try simp only [PU])
    | (refine tq 0 ?_; try simp only [PU])
    | (refine tq 1 ?_; try simp only [PU])
    | (refine tq 2 ?_; try simp only [PU])
    | (refine tq 3 ?_; try simp only [PU])
    | (refine tq 4 ?_; try simp only [PU])
    | (refine tq 6 ?_; try simp only [PU])
    | (refine tq 7 ?_; try simp only [PU])
    | (refine tq 8 ?_; try simp only [PU])
    | refine t1 10 ?_
    | refine t1 11 ?_
    | refine t1 12 ?_
    | refine t1 9 ?_
    | refine t1 5 ?_
    | refine t3 5 9 10 ?_ ?_ ?_
    | refine t2 9 10 ?_ ?_
    | refine t2 5 10 ?_ ?_
    | refine t2 5 9 ?_ ?_
    | fail)
   all_goals
    refine wpAnyH_done (by kernel_rfl) ?_ _
    dsimp only
    exact ⟨rfl, A5, k5, A6, k6, _, _, by simp only [List.setIfInBounds_toArray, List.set_cons_zero, List.set_cons_succ], hx7.out, hx8.out, hma.out, HBV.out, hl7⟩
  --END R28
  intro T V2 hM
  dsimp only at hM ⊢
  obtain ⟨A5, k5, A6, k6, B20, B21, hT, x20, x21, ma, hbV, l20⟩ := hM
  simp only [List.setIfInBounds_toArray, List.set_cons_zero, List.set_cons_succ] at hT
  subst hT
  refine hK2 _ _ ?_
  clear hK2 d13 dsc dsl
  have HV2 : Aside0 (DJ w z Bb c9 C10 C11 cq pb kb N top next s (L1 + 1) (M % N) Ar kr (digs BB (M / N) (L1 + 1)) V2) := ⟨HW.out.below hbV⟩
  have HX : Aside0 (Boxed V2 B20 109 (.slice A5 k5 k5) ∧ Mag V2 V2.heap.size A5 k5 (m % n) ∧ V2.heap[D]? = some (.deferred (some [])) ∧ cq + 4 ≤ B20) := ⟨x20, by rw [← HDIV.out.1]; exact ma, (hbV.block D (Array.getElem?_eq_some_iff.1 HDD.out.1).1).trans HDD.out.1, by have := (Array.getElem?_eq_some_iff.1 HDD.out.1).1; have := HDD.out.2; omega⟩
  have c20 := x20.cell
  have c12 := HV2.out.b12.cell
  have hl2 : L1 + 1 ≤ 100000 := by omega
  have HLQ : Aside0 (Lst V2 (cq + 1) (some ⟨cq, 0, none⟩) (L1 + 1) (digs BB (M / N) (L1 + 1)) ∧ (∀ d ∈ digs BB (M / N) (L1 + 1), d < BB) ∧ cq + 1 ≤ V2.heap.size) := ⟨by
   have h := HV2.out.row.lst
   rw [digs_length] at h
   exact ⟨h, digs_lt BB1 _ _, HV2.out.row.lt⟩⟩
  clear x20 x21 ma hbV l20
  go_wp2
  refine Code.wp_mono NoPanic.imp ?_
  rename_i K3 hK3
  have g2 := HV2.out.r2.cell
  have gf2 := HV2.out.r2.frozen
  have g3 := HV2.out.r3.cell
  have gf3 := HV2.out.r3.frozen
  refine wp_region_held_drew (S := (fun V => V.cell? ⟨cq + 1, 0, none⟩ = some (.slice (some ⟨cq, 0, none⟩) (L1 + 1) (L1 + 1)) ∧ V.cell? ⟨B20, 0, none⟩ = some (.slice A5 k5 k5))) (by kernel_rfl) ?_ (fun hHeld => ?_)
  ·exact ⟨c12, c20⟩
  obtain ⟨Wd, hWd⟩ : ∃ Wd, V2.drew = Wd := ⟨_, rfl⟩
  rw [hWd] at hHeld ⊢
  have HBV : Aside0 (Below V2.heap.size V2 Wd) := ⟨by subst hWd; exact below_drew1 (Below.refl _ _)⟩
  clear hWd
  refine tp 0 ?_
  try simp only [PU]
  refine tp 3 ?_
  try simp only [PU]
  refine tc 1 fun K hK => ?_
  go_simp
  (go_at_call 180; (with_reducible refine (strip_calls (lst_up HLQ.out.1 HLQ.out.2.2 HBV.out) HLQ.out.2.1 (Nat.le_refl _) hl2 (Nat.le_trans HLQ.out.2.2 HBV.out.size)).mono ?_); rintro e w6 ⟨kQ, rfl, hmQ, hbq⟩; rw [HDIV.out.2.2] at hmQ; have HBV := Aside0.mk (bJoin hbq HBV.out); have g2 := keepAt HBV.out g2; have g3 := keepAt HBV.out g3; have gf2 := (HV2.out.below HBV.out).r2.frozen; have gf3 := (HV2.out.below HBV.out).r3.frozen)
  refine hK.out _ _ ?_ fun hHeld => ?_
  ·(first | exact ⟨keepAt hbq hHeld.1, keepAt hbq hHeld.2⟩ | exact ⟨(World.cell?_setCell_other _ _ _ _ (by first | (simp; done) | (have := HV2.out.hc; simp; omega))).trans hHeld.1, (World.cell?_setCell_other _ _ _ _ (by first | (simp; done) | (have := HV2.out.hc; have := HX.out.2.2.2; simp; omega))).trans hHeld.2⟩)
  clear hK K; try simp only [PU]
  refine tp 2 ?_
  try simp only [PU]
  refine tc 4 fun K hK => ?_
  go_simp
  refine hK.out _ _ ?_ fun hHeld => ?_
  ·(first | exact ⟨keepAt hbq hHeld.1, keepAt hbq hHeld.2⟩ | exact ⟨(World.cell?_setCell_other _ _ _ _ (by first | (simp; done) | (have := HV2.out.hc; simp; omega))).trans hHeld.1, (World.cell?_setCell_other _ _ _ _ (by first | (simp; done) | (have := HV2.out.hc; have := HX.out.2.2.2; simp; omega))).trans hHeld.2⟩)
  clear hK K; try simp only [PU]
  refine tc 5 fun K hK => ?_
  go_simp
  refine hK.out _ _ ?_ fun hHeld => ?_
  ·(first | exact ⟨keepAt hbq hHeld.1, keepAt hbq hHeld.2⟩ | exact ⟨(World.cell?_setCell_other _ _ _ _ (by first | (simp; done) | (have := HV2.out.hc; simp; omega))).trans hHeld.1, (World.cell?_setCell_other _ _ _ _ (by first | (simp; done) | (have := HV2.out.hc; have := HX.out.2.2.2; simp; omega))).trans hHeld.2⟩)
  clear hK K; try simp only [PU]
  refine wpAnyH_done (by kernel_rfl) ?_ _
  refine NoPanic.normal ?_
  refine hK3 _ _ ?_
  go_wp2
  have hDw := (HBV.out.block D (Array.getElem?_eq_some_iff.1 HX.out.2.2.1).1).trans HX.out.2.2.1
  have hDX : ∀ u v : Value, ((w6.setCell ⟨w.heap.size + 1 + 1, 0, none⟩ u).setCell ⟨w.heap.size + 1 + 1 + 1, 0, none⟩ v).heap[D]? = some (.deferred (some [])) := fun u v => ((KeepsOthers.setCell _ _ _).trans (KeepsOthers.setCell _ _ _)).same D _ hDw rfl
  have hcw := HV2.out.hc
  have hDc := HDD.out.2
  have hm5 := HX.out.2.1.up HBV.out
  refine div_end w _ D _ (.slice (some ⟨cq, 0, none⟩) kQ kQ) (.slice A5 k5 k5) _ rfl rfl (by omega) (hDX _ _) ?_ ?_ (divPost_of HDIV.out.2.1 rfl rfl ?_ ?_ ?_)
  ·exact (World.cell?_setCell_other _ _ _ _ (by simp)).trans (World.cell?_setCell_same' _ _ _ (by rw [g2]; rfl))
  ·exact World.cell?_setCell_same' _ _ _ (by rw [World.cell?_setCell_other _ _ _ _ (by simp), g3]; rfl)
  ·refine Mag.more (Mag.putD (Mag.setA (Mag.setA hmQ (hmQ.apart g2 (fun d => by simp)) _ _) (hmQ.apart g3 (fun d => by simp)) _ _) (hDX _ _) _) (by have := HLQ.out.2.2; have := HBV.out.size; simp; omega)
  ·refine Mag.more (Mag.putD (Mag.setA (Mag.setA hm5 (hm5.apart g2 (fun d => by simp)) _ _) (hm5.apart g3 (fun d => by simp)) _ _) (hDX _ _) _) (by simp)
  ·exact (((HV2.out.bl.trans (HBV.out.mono (by have := HLQ.out.2.2; omega))).setCell (by simp; omega) _).setCell (by simp; omega) _).trans (belowK_b (w := w) (Nat.le_refl _) _ D _ _ (by omega) (hDX _ _) rfl rfl)
 --END DONE
/-- div: the quotient and the remainder. -/
theorem div_calls {w : World} {B : Nat} {A1 A2 : Option Addr} {L1 L2 m n : Nat} (h1 : Mag w B A1 L1 m) (h2 : Mag w B A2 L2 n) (hB : B ≤ w.heap.size) (hn : 0 < n) (hs1 : L1 ≤ 40000) (hs2 : L2 ≤ 40000) :
 Calls Tryz.prog 181 #[.agg #[.slice A1 L1 L1], .agg #[.slice A2 L2 L2]] w (DivPost w m n) := by
 by_cases hlt : m < n
 ·exact div_small h1 h2 hB hlt
 ·have h0 : L2 ≠ 0 := fun e => by have := h2.len_zero.1 e; omega
  by_cases hL : L2 = 1
  ·subst hL
   exact div_one h1 h2 hB (by omega)
  ·exact div_many h1 h2 hB (by omega) (by omega) hs1 hs2
end
section
open Go.Proofs.YtnjbinpbkjdjpaaGreatDoor.Rf Go.Proofs.YtnjbinpbkjdjpaaGreatDoorW.PrintLast Go.Proofs.YtnjbinpbkjdjpaaGreatDoorW.PrintMore Go.Proofs.YtnjbinpbkjdjpaaGreatDoorW.PrintWords Go.RowKit Go.Shelf
/-- What lies in memory between two rounds of common. -/
structure CI (w : World) (G y : Nat) (A1 A2 : Option Addr) (L1 L2 x : Nat) (W : World) : Prop where
 b0 : Boxed W w.heap.size 109 (.slice A1 L1 L1)
 b1 : Boxed W (w.heap.size + 1) 109 (.slice A2 L2 L2)
 b2 : Boxed W (w.heap.size + 1 + 1) 109 (.slice none 0 0)
 m1 : Mag W W.heap.size A1 L1 x
 m2 : Mag W W.heap.size A2 L2 y
 g : Nat.gcd x y = G
 bl : Below w.heap.size w W
theorem CI.below {w : World} {G y : Nat} {A1 A2 : Option Addr} {L1 L2 x : Nat} {W X : World} (h : CI w G y A1 A2 L1 L2 x W) (hb : Below W.heap.size W X) : CI w G y A1 A2 L1 L2 x X :=
 ⟨boxed_below h.b0 hb, boxed_below h.b1 hb, boxed_below h.b2 hb, h.m1.up hb, h.m2.up hb, h.g, h.bl.trans (hb.mono h.bl.size)⟩
theorem CI.swap {w : World} {G y : Nat} {A1 A2 : Option Addr} {L1 L2 x : Nat} {X : World} (h : CI w G y A1 A2 L1 L2 x X) {A6 : Option Addr} {k6 : Nat} (hm : Mag X X.heap.size A6 k6 (x % y)) :
 CI w G (x % y) A2 A6 L2 k6 y ((X.setCell ⟨w.heap.size, 0, none⟩ (.slice A2 L2 L2)).setCell ⟨w.heap.size + 1, 0, none⟩ (.slice A6 k6 k6)) := by
 have b1' := h.b1.other (B' := w.heap.size) (by omega) (.slice A2 L2 L2)
 refine ⟨(h.b0.set _).other (by omega) _, b1'.set _, (h.b2.other (by omega) _).other (by omega) _, (h.m2.upS h.b0 (fun d => by simp) _ _).upS b1' (fun d => by simp) _ _, (hm.upS h.b0 (fun d => by simp) _ _).upS b1' (fun d => by simp) _ _, ?_, (h.bl.setCell (p := ⟨w.heap.size, 0, none⟩) (Nat.le_refl _) _).setCell (by simp) _⟩
 rw [← h.g, Nat.gcd_comm y, Nat.gcd_comm x, ← Nat.gcd_rec]
theorem common_calls {w : World} {B : Nat} {A1 A2 : Option Addr} {L1 L2 x y : Nat} (h1 : Mag w B A1 L1 x) (h2 : Mag w B A2 L2 y) (hB : B ≤ w.heap.size) (hs1 : L1 ≤ 40000) (hs2 : L2 ≤ 40000) :
 Calls Tryz.prog 126 #[.agg #[.slice A1 L1 L1], .agg #[.slice A2 L2 L2]] w fun e w' => ∃ A k, e = .returned (.agg #[.slice A k k]) ∧ Mag w' w'.heap.size A k (Nat.gcd x y) ∧ Below w.heap.size w w' := by
 obtain ⟨G, hG⟩ : ∃ G, Nat.gcd x y = G := ⟨_, rfl⟩
 have H0 : Aside0 (Mag w B A1 L1 x ∧ Mag w B A2 L2 y) := ⟨h1, h2⟩
 rw [hG]
 go_enter Tryz.func126, Tryz.ntmps126
 go_wp2_with fail
 have I0 : Aside0 (CI w G y A1 A2 L1 L2 x (((w.alloc (.cells #[.slice A1 L1 L1] 109)).alloc (.cells #[.slice A2 L2 L2] 109)).alloc (.cells #[.slice none 0 0] 109))) := ⟨by
  have hb : Below w.heap.size w (((w.alloc (.cells #[.slice A1 L1 L1] 109)).alloc (.cells #[.slice A2 L2 L2] 109)).alloc (.cells #[.slice none 0 0] 109)) := by repeat (first | exact Below.refl _ _ | apply below_alloc)
  exact ⟨((boxed_at w _ _ _ rfl).alloc _).alloc _, (boxed_at (w.alloc _) _ _ _ (by simp)).alloc _, boxed_at ((w.alloc _).alloc _) _ _ _ (by simp), (H0.out.1.keep hB hb).more (Nat.le_trans hB hb.size), (H0.out.2.keep hB hb).more (Nat.le_trans hB hb.size), hG, hb⟩⟩
 clear h1 h2 hG H0
 go_loopg [] y (fun k W => ∃ A1 A2 L1 L2 x, L1 ≤ 40000 ∧ L2 ≤ 40000 ∧ Aside0 (CI w G k A1 A2 L1 L2 x W))
 case atStart => exact ⟨A1, A2, L1, L2, x, hs1, hs2, I0⟩
 case round =>
  obtain ⟨A1, A2, L1, L2, x, hs1, hs2, HI⟩ := hrel
  have c0 := HI.out.b0.cell
  have c1 := HI.out.b1.cell
  by_cases hk : gk = 0
  ·have HZ : Aside0 (decide (gk = 0) = true ∧ x = G) := ⟨decide_eq_true hk, by have := HI.out.g; rw [hk, Nat.gcd_zero_right] at this; exact this⟩
   clear hk
   go_wp2_with (go_at_call 74; (with_reducible refine (isZero_any HI.out.m2 (Nat.le_refl _) (Below.refl _ _) HZ.out.1).mono ?_); rintro e wq ⟨rfl, hbq⟩; have c0 := keepAt hbq c0; have c2 := (HI.out.below hbq).b2.cell; have f2 := (HI.out.below hbq).b2.frozen; have HQ := Aside0.mk (HI.out.below hbq))
   refine bodyPost_ret (v := .agg #[.slice A1 L1 L1]) (by simp [results, Tryz.results126, go_sem, c2]) rfl ⟨A1, L1, rfl, ?_, HQ.out.bl.setCell (by simp; omega) _⟩
   rw [← HZ.out.2]
   exact HQ.out.m1.upS HQ.out.b2 (fun d => by simp) _ _
  ·have HZ : Aside0 (decide (gk = 0) = false ∧ 0 < gk) := ⟨decide_eq_false hk, by omega⟩
   clear hk
   go_wp2_with (first
    | (go_at_call 74; (with_reducible refine (isZero_any HI.out.m2 (Nat.le_refl _) (Below.refl _ _) HZ.out.1).mono ?_); rintro e wq ⟨rfl, hbq⟩; have c0 := keepAt hbq c0; have c1 := keepAt hbq c1; have HQ := Aside0.mk (HI.out.below hbq))
    | (go_at_call 181; (with_reducible refine (div_calls HQ.out.m1 HQ.out.m2 (Nat.le_refl _) HZ.out.2 hs1 hs2).mono ?_); rintro e wd ⟨A5, k5, A6, k6, rfl, hm5, hm6, hbd⟩; have c0 := keepAt hbd c0; have c1 := keepAt hbd c1; have HD := Aside0.mk (HQ.out.below hbd); have HM6 := Aside0.mk hm6; clear hm5 hm6 hbd))
   have hk6 : k6 ≤ L2 := by
    have h1 := dg_lt_pow BB1 gk
    rw [HI.out.m2.1] at h1
    have h2 := dg_length BB1 L2 (x % gk) (Nat.lt_trans (Nat.mod_lt _ HZ.out.2) h1)
    rw [HM6.out.1] at h2
    exact h2
   have HE : Aside0 (CI w G gk A1 A2 L1 L2 x ((wd.alloc (.cells #[.slice A5 k5 k5] 109)).alloc (.cells #[.slice A6 k6 k6] 109)) ∧ Mag ((wd.alloc (.cells #[.slice A5 k5 k5] 109)).alloc (.cells #[.slice A6 k6 k6] 109)) ((wd.alloc (.cells #[.slice A5 k5 k5] 109)).alloc (.cells #[.slice A6 k6 k6] 109)).heap.size A6 k6 (x % gk) ∧ Boxed ((wd.alloc (.cells #[.slice A5 k5 k5] 109)).alloc (.cells #[.slice A6 k6 k6] 109)) (wd.heap.size + 1) 109 (.slice A6 k6 k6)) := ⟨by
    have hb : Below wd.heap.size wd ((wd.alloc (.cells #[.slice A5 k5 k5] 109)).alloc (.cells #[.slice A6 k6 k6] 109)) := by repeat (first | exact Below.refl _ _ | apply below_alloc)
    exact ⟨HD.out.below hb, HM6.out.up hb, boxed_at (wd.alloc _) _ _ _ (by simp)⟩⟩
   obtain ⟨bt, hbt⟩ : ∃ bt, wd.heap.size + 1 = bt := ⟨_, rfl⟩
   have n1 : ¬ w.heap.size = bt := by have := HD.out.b2.lt; omega
   have n2 : ¬ bt = w.heap.size := fun e => n1 e.symm
   obtain ⟨Wd, hWd⟩ : ∃ Wd, ((wd.alloc (.cells #[.slice A5 k5 k5] 109)).alloc (.cells #[.slice A6 k6 k6] 109)) = Wd := ⟨_, rfl⟩
   rw [hWd, hbt] at HE
   rw [hWd, hbt]
   clear hWd hbt c0 c1
   have c0 := HE.out.1.b0.cell
   have f0 := HE.out.1.b0.frozen
   have c1 := HE.out.1.b1.cell
   have f1 := HE.out.1.b1.frozen
   have c6 := HE.out.2.2.cell
   refine wp_region_held_drew (S := (fun _ => True)) (by kernel_rfl) ?_ (fun hHeld => ?_)
   ·trivial
   refine wpAnyH_ready (rs := [0, 1]) (by kernel_rfl) (by simp) ?_
   refine AllReadyH.cons rfl (fun K hK => ?_) (AllReadyH.cons rfl (fun K hK => ?_) (AllReadyH.nil))
   ·go_simp
    refine hK.out _ _ ?_ fun hHeld => ?_
    ·trivial
    clear hK K; try simp only [PU]
    refine wpAnyH_ready (rs := [1, 2]) (by kernel_rfl) (by simp) ?_
    refine AllReadyH.cons rfl (fun K hK => ?_) (AllReadyH.cons rfl (fun K hK => ?_) (AllReadyH.nil))
    ·go_simp
     refine hK.out _ _ ?_ fun hHeld => ?_
     ·trivial
     clear hK K; try simp only [PU]
     refine tc 2 fun K hK => ?_
     go_simp
     refine hK.out _ _ ?_ fun hHeld => ?_
     ·trivial
     clear hK K; try simp only [PU]
     refine tc 3 fun K hK => ?_
     go_simp
     refine hK.out _ _ ?_ fun hHeld => ?_
     ·trivial
     clear hK K; try simp only [PU]
     refine wpAnyH_done (by kernel_rfl) ?_ _
     go_wp2
     have HS := (HE.out.1.swap HE.out.2.1).below (below_drew1 (Below.refl _ _))
     go_roundg (x % gk)
     case measure => exact Nat.mod_lt _ HZ.out.2
     case rel => exact ⟨A2, A6, L2, k6, gk, hs2, by omega, ⟨HS⟩⟩
    ·go_simp
     refine hK.out _ _ ?_ fun hHeld => ?_
     ·trivial
     clear hK K; try simp only [PU]
     refine tc 1 fun K hK => ?_
     go_simp
     refine hK.out _ _ ?_ fun hHeld => ?_
     ·trivial
     clear hK K; try simp only [PU]
     refine tc 3 fun K hK => ?_
     go_simp
     refine hK.out _ _ ?_ fun hHeld => ?_
     ·trivial
     clear hK K; try simp only [PU]
     refine wpAnyH_done (by kernel_rfl) ?_ _
     go_wp2
     have HS := (HE.out.1.swap HE.out.2.1).below (below_drew1 (Below.refl _ _))
     go_roundg (x % gk)
     case measure => exact Nat.mod_lt _ HZ.out.2
     case rel => exact ⟨A2, A6, L2, k6, gk, hs2, by omega, ⟨HS⟩⟩
   ·go_simp
    refine hK.out _ _ ?_ fun hHeld => ?_
    ·trivial
    clear hK K; try simp only [PU]
    refine tc 0 fun K hK => ?_
    go_simp
    refine hK.out _ _ ?_ fun hHeld => ?_
    ·trivial
    clear hK K; try simp only [PU]
    refine tc 2 fun K hK => ?_
    go_simp
    refine hK.out _ _ ?_ fun hHeld => ?_
    ·trivial
    clear hK K; try simp only [PU]
    refine tc 3 fun K hK => ?_
    go_simp
    refine hK.out _ _ ?_ fun hHeld => ?_
    ·trivial
    clear hK K; try simp only [PU]
    refine wpAnyH_done (by kernel_rfl) ?_ _
    go_wp2
    have HS := (HE.out.1.swap HE.out.2.1).below (below_drew1 (Below.refl _ _))
    go_roundg (x % gk)
    case measure => exact Nat.mod_lt _ HZ.out.2
    case rel => exact ⟨A2, A6, L2, k6, gk, hs2, by omega, ⟨HS⟩⟩
end
section
open Go.Lib Go.Proofs.YtnjbinpbkjdjpaaGreatDoorW.PrintLast Go.Proofs.YtnjbinpbkjdjpaaGreatDoorW.PrintMore Go.Proofs.YtnjbinpbkjdjpaaGreatDoorW.PrintWords Go.RowKit Go.Shelf
theorem Mag.len {w : World} {B : Nat} {A : Option Addr} {L n k : Nat} (h : Mag w B A L n) (hn : n < 10 ^ (9 * k)) : L ≤ k := by
 have h1 := dg_length BB1 k n (by show n < (10 ^ 9) ^ k; rw [← Nat.pow_mul]; exact hn)
 rw [h.1] at h1
 exact h1
/-- An integer of fewer than k digits, or of k. -/
def Dig (k : Nat) (x : Int) : Prop := x.natAbs < 10 ^ k
theorem Dig.more {j k : Nat} {x : Int} (h : Dig j x) (hjk : j ≤ k) : Dig k x := Nat.lt_of_lt_of_le h (Nat.pow_le_pow_right (by decide) hjk)
theorem Dig.len {w : World} {B : Nat} {A : Option Addr} {L k : Nat} {x : Int} (h : Dig k x) (hm : Mag w B A L x.natAbs) (j : Nat) (hk : k ≤ 9 * j) : L ≤ j := hm.len (h.more hk)
theorem Dig.add {j k : Nat} {x y : Int} (hx : Dig j x) (hy : Dig k y) (m : Nat) (h1 : j < m) (h2 : k < m) : Dig m (x + y) := by
 have a := hx.more (k := m - 1) (by omega)
 have b := hy.more (k := m - 1) (by omega)
 unfold Dig at *
 have e : 10 ^ m = 10 ^ (m - 1) * 10 := by rw [← Nat.pow_succ]; congr 1; omega
 omega
theorem Dig.neg {j : Nat} {x : Int} (hx : Dig j x) : Dig j (-x) := by unfold Dig at *; rwa [Int.natAbs_neg]
theorem Dig.sub {j k : Nat} {x y : Int} (hx : Dig j x) (hy : Dig k y) (m : Nat) (h1 : j < m) (h2 : k < m) : Dig m (x - y) := by
 rw [Int.sub_eq_add_neg]; exact hx.add hy.neg m h1 h2
theorem Dig.mul {j k : Nat} {x y : Int} (hx : Dig j x) (hy : Dig k y) : Dig (j + k) (x * y) := by
 unfold Dig at *
 rw [Int.natAbs_mul, Nat.pow_add]
 exact Nat.mul_lt_mul_of_lt_of_lt hx hy
theorem intI_dig {s : ByteArray} (h : checkI s = 0) : Dig 120 (intI s) := by
 obtain ⟨h1, h2⟩ := check_ok h
 unfold Dig
 rw [intI_abs]
 have hd : DG (bodyB s).data.toList := isDig_of (by unfold digitsB at h1; simp only [Bool.and_eq_true] at h1; exact h1.1)
 have h3 := dv_lt _ hd
 refine Nat.lt_of_lt_of_le h3 (Nat.pow_le_pow_right (by decide) ?_)
 have : (bodyB s).data.toList.length = (bodyB s).size := by simp
 omega
theorem op2_plus {x y : Int} (hx : Dig 1000 x) (hy : Dig 1000 y) : Op2 138 x y (x + y) := fun W A1 A2 L1 L2 h1 h2 =>
 plus_calls h1 h2 (Nat.le_refl _) (by have := hx.len h1 112 (by omega); omega) (by have := hy.len h2 112 (by omega); omega)
theorem op2_times {x y : Int} (hx : Dig 1000 x) (hy : Dig 1000 y) : Op2 71 x y (x * y) := fun W A1 A2 L1 L2 h1 h2 =>
 times_calls h1 h2 (Nat.le_refl _) (by have := hx.len h1 112 (by omega); have := hy.len h2 112 (by omega); omega)
/-- What an operation on two integers answers: the string and the error. -/
def biE (a b : ByteArray) : Int := firstI [checkI a, checkI b]
theorem biE_zero {a b : ByteArray} (h : biE a b = 0) : checkI a = 0 ∧ checkI b = 0 := by
 unfold biE firstI firstI firstI at h
 split at h
 ·rename_i h1
  split at h
  ·rename_i h2; exact ⟨h1, h2⟩
  ·rename_i h2; exact absurd h h2
 ·rename_i h1; exact absurd h h1
end
section
theorem over_pos {m n : Nat} (hn : 0 < n) (x : Int) (hx : x = m) : x / (n : Int) = (m / n : Nat) ∧ x % (n : Int) = (m % n : Nat) := by
 subst hx
 exact ⟨by rw [Int.natCast_ediv], by rw [Int.natCast_emod]⟩
theorem over_neg {m n : Nat} (hn : 0 < n) (x : Int) (hx : x = -(m : Int)) :
 (m % n = 0 → x / (n : Int) = -((m / n : Nat) : Int) ∧ x % (n : Int) = 0) ∧ (m % n ≠ 0 → x / (n : Int) = -((m / n + 1 : Nat) : Int) ∧ x % (n : Int) = ((n - m % n : Nat) : Int)) := by
 subst hx
 have hd := Nat.mod_add_div m n
 have hr := Nat.mod_lt m hn
 have hn' : (0 : Int) < (n : Int) := by omega
 obtain ⟨q, hq⟩ : ∃ q, m / n = q := ⟨_, rfl⟩
 obtain ⟨r, hr'⟩ : ∃ r, m % n = r := ⟨_, rfl⟩
 rw [hq, hr'] at hd
 rw [hr'] at hr
 rw [hq, hr']
 have hd' : (r : Int) + (n : Int) * (q : Int) = (m : Int) := by rw [← hd]; simp
 constructor
 ·intro h0
  refine (Int.ediv_emod_unique hn').2 ⟨?_, by omega, by omega⟩
  rw [Int.mul_neg, ← hd', h0]; simp
 ·intro h0
  refine (Int.ediv_emod_unique hn').2 ⟨?_, by omega, by omega⟩
  rw [Int.mul_neg, ← hd', Int.natCast_add, Int.mul_add, Int.natCast_sub (by omega)]
  simp; omega
/-- What over computes with magnitudes. -/
theorem over_law {x y : Int} (hy : y ≠ 0) {m n : Nat} (hm : x.natAbs = m) (hn : y.natAbs = n) :
 ((¬ x < 0 ∨ m % n = 0) → ((!(decide (x < 0) == decide (y < 0))) && decide (m / n ≠ 0)) = decide (x / y < 0) ∧ (x / y).natAbs = m / n ∧ (x % y).natAbs = m % n) ∧
 ((x < 0 ∧ m % n ≠ 0) → ((!(decide (x < 0) == decide (y < 0))) && decide (m / n + 1 ≠ 0)) = decide (x / y < 0) ∧ (x / y).natAbs = m / n + 1 ∧ (x % y).natAbs = n - m % n) ∧ 0 ≤ x % y := by
 have hn0 : 0 < n := by omega
 have hnn := Int.emod_nonneg x hy
 have key : ∀ q : Int, (y < 0 → x / y = -q) → (¬ y < 0 → x / y = q) → (x / y).natAbs = q.natAbs ∧ decide (x / y < 0) = if y < 0 then decide (0 < q) else decide (q < 0) := by
  intro q h1 h2
  by_cases h : y < 0
  ·rw [h1 h, if_pos h]; exact ⟨by omega, by rw [decide_eq_decide]; omega⟩
  ·rw [h2 h, if_neg h]; exact ⟨rfl, rfl⟩
 have hyn : (y < 0 → y = -(n : Int)) ∧ (¬ y < 0 → y = (n : Int)) := ⟨by omega, by omega⟩
 have e1 : (y < 0 → x / y = -(x / (n : Int))) ∧ (¬ y < 0 → x / y = x / (n : Int)) := ⟨fun h => by rw [hyn.1 h, Int.ediv_neg], fun h => by rw [← hyn.2 h]⟩
 have e2 : x % y = x % (n : Int) := by
  by_cases h : y < 0
  ·rw [hyn.1 h, Int.emod_neg]
  ·rw [← hyn.2 h]
 obtain ⟨k1, k2⟩ := key _ e1.1 e1.2
 obtain ⟨q, hq⟩ : ∃ q, m / n = q := ⟨_, rfl⟩
 rw [k1, k2, e2]
 by_cases hx : x < 0
 ·obtain ⟨p1, p2⟩ := over_neg hn0 x (show x = -(m : Int) by omega)
  rw [hq] at p1 p2 ⊢
  refine ⟨fun h => ?_, fun h => ?_, by rw [← e2]; exact hnn⟩
  ·have h0 : m % n = 0 := h.elim (fun h => absurd hx h) id
   obtain ⟨a1, a2⟩ := p1 h0
   rw [a1, a2, h0]
   refine ⟨?_, by omega, rfl⟩
   by_cases h : y < 0
   ·rw [if_pos h]; first | (simp [hx, h]; done) | (simp [hx, h]; omega) | (simp [hx, h]; rw [Bool.eq_iff_iff]; simp; done) | (simp [hx, h]; rw [Bool.eq_iff_iff]; simp; omega)
   ·rw [if_neg h]; first | (simp [hx, h]; done) | (simp [hx, h]; omega) | (simp [hx, h]; rw [Bool.eq_iff_iff]; simp; done) | (simp [hx, h]; rw [Bool.eq_iff_iff]; simp; omega)
  ·obtain ⟨a1, a2⟩ := p2 h.2
   rw [a1, a2]
   refine ⟨?_, by omega, by omega⟩
   by_cases h : y < 0
   ·rw [if_pos h]; first | (simp [hx, h]; done) | (simp [hx, h]; omega) | (simp [hx, h]; rw [Bool.eq_iff_iff]; simp; done) | (simp [hx, h]; rw [Bool.eq_iff_iff]; simp; omega)
   ·rw [if_neg h]; first | (simp [hx, h]; done) | (simp [hx, h]; omega) | (simp [hx, h]; rw [Bool.eq_iff_iff]; simp; done) | (simp [hx, h]; rw [Bool.eq_iff_iff]; simp; omega)
 ·obtain ⟨a1, a2⟩ := over_pos hn0 x (show x = (m : Int) by omega)
  rw [hq] at a1 ⊢
  refine ⟨fun _ => ?_, fun h => absurd h.1 hx, by rw [← e2]; exact hnn⟩
  rw [a1, a2]
  refine ⟨?_, by omega, by omega⟩
  by_cases h : y < 0
  ·rw [if_pos h]; first | (simp [hx, h]; done) | (simp [hx, h]; omega) | (simp [hx, h]; rw [Bool.eq_iff_iff]; simp; done) | (simp [hx, h]; rw [Bool.eq_iff_iff]; simp; omega)
  ·rw [if_neg h]; first | (simp [hx, h]; done) | (simp [hx, h]; omega) | (simp [hx, h]; rw [Bool.eq_iff_iff]; simp; done) | (simp [hx, h]; rw [Bool.eq_iff_iff]; simp; omega)
end
end Go.Proofs.YtnjbinpbkjdjpaaGreatDoor.Nm
