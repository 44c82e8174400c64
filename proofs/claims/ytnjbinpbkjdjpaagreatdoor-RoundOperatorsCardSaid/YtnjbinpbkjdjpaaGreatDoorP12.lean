import Derived.Test.YtnjbinpbkjdjpaaGreatDoorP11
import Derived.Laws.StructEq
import Derived.Test.YtnjbinpbkjdjpaaGreatDoorPw
import Derived.Test.YtnjbinpbkjdjpaaGreatDoorP9
import Derived.Test.YtnjbinpbkjdjpaaGreatDoorP10
/- Own text: contracts and laws on which the card rests (GaP GaQ GaR GaS FaG GaC). -/
set_option linter.unusedVariables false
set_option linter.unusedSimpArgs false
set_option maxRecDepth 1000000
set_option maxHeartbeats 16000000
namespace Go.Proofs.YtnjbinpbkjdjpaaGreatDoor.Nm
section
open Go.Proofs.YtnjbinpbkjdjpaaGreatDoor.Rf Go.Proofs.YtnjbinpbkjdjpaaGreatDoorW.PrintLast Go.Proofs.YtnjbinpbkjdjpaaGreatDoorW.PrintMore Go.Proofs.YtnjbinpbkjdjpaaGreatDoorW.PrintWords Go.RowKit Go.Shelf Ieee
/-- The exact number of two finite float64 words. -/
def cxC (s : Bool) (r : Nat) (t : Bool) (q : Nat) : CN := ⟨exS s r, exP r, exQ r, exS t q, exP q, exQ q⟩
theorem cxC_ok {s t : Bool} {r q : Nat} (hr : r < 9218868437227405312) (hq : q < 9218868437227405312) : (cxC s r t q).ok 3000 :=
 ⟨(ex_sz hr).1, (ex_sz hr).2.1, (ex_sz hr).2.2, (ex_sz hq).1, (ex_sz hq).2.1, (ex_sz hq).2.2⟩
abbrev WX (w : World) (z : CN) (e : Ending) (w' : World) : Prop := ∃ a, e = .returned (.tuple #[aV z a, .int .i64 0]) ∧ P2 w' a z ∧ Below w.heap.size w w'
theorem neq_bools (W : World) : (binOp .neq 205 (.agg #[.bool true, .bool true]) (.agg #[.bool true, .bool true])).run Tryz.prog W = .ok (.bool false) W := by kernel_rfl
theorem wide_good (s t : Bool) {r q : Nat} (hr : r < 9218868437227405312) (hq : q < 9218868437227405312) (w : World) :
 Calls Tryz.prog 104 #[.complex .f64 (S64 s + r) (S64 t + q)] w fun e w' => WX w (cxC s r t q) e w' := by
 have HFA := Aside0.mk (isFinite_calls (s := s) (r := r) (by omega))
 have HFB := Aside0.mk (isFinite_calls (s := t) (r := q) (by omega))
 rw [decide_eq_true hr] at HFA
 rw [decide_eq_true hq] at HFB
 have HXA : Aside0 (∀ W, Calls Tryz.prog 64 #[.float .f64 (S64 s + r)] W fun e w' => QX W (cxC s r t q).s1 (cxC s r t q).p1 (cxC s r t q).q1 e w') := ⟨fun W => exactly_calls s hr W⟩
 have HXB : Aside0 (∀ W, Calls Tryz.prog 64 #[.float .f64 (S64 t + q)] W fun e w' => QX W (cxC s r t q).s2 (cxC s r t q).p2 (cxC s r t q).q2 e w') := ⟨fun W => exactly_calls t hq W⟩
 have hnb := neq_bools
 clear hr hq
 unfold QX qV at *
 generalize cxC s r t q = z at *
 generalize S64 s + r = x at *
 generalize S64 t + q = y at *
 go_enter Tryz.func104, Tryz.ntmps104
 go_upto_region 4 with (first | (go_at_call 63; (with_reducible refine (HFA.out _).mono ?_); rintro e W3 ⟨rfl, hwq⟩; rw [hwq]; clear hwq) | (go_at_call 63; (with_reducible refine (HFB.out _).mono ?_); rintro e W3 ⟨rfl, hwq⟩; rw [hwq]; clear hwq))
 obtain ⟨W0, hW0⟩ : ∃ W0, (w.alloc (.cells #[.bool false, .slice none 0 0, .slice none 0 0, .bool false, .slice none 0 0, .slice none 0 0] 148)).alloc (.cells #[.bool true, .bool true] 205) = W0 := ⟨_, rfl⟩
 have HO : Aside0 (PF W0 w.heap.size zC zA ∧ Below w.heap.size w W0) := ⟨by
  subst hW0
  have b1 := below_alloc (Below.refl w.heap.size w) (.cells #[.bool false, .slice none 0 0, .slice none 0 0, .bool false, .slice none 0 0, .slice none 0 0] 148)
  have h1 : PF (w.alloc (.cells #[.bool false, .slice none 0 0, .slice none 0 0, .bool false, .slice none 0 0, .slice none 0 0] 148)) w.heap.size zC zA := heap_alloc_new w _
  have b2 := below_alloc (Below.refl _ (w.alloc (.cells #[.bool false, .slice none 0 0, .slice none 0 0, .bool false, .slice none 0 0, .slice none 0 0] 148))) (.cells #[.bool true, .bool true] 205)
  exact ⟨h1.below b2, b1.trans (b2.mono (by simp))⟩⟩
 rw [hW0]
 clear hW0
 go_wp2_with (first | (go_at_call 64; (with_reducible refine (HXA.out _).mono ?_); rintro e W1 ⟨A1, k1, c1, A2, k2, c2, rfl, hn, hb⟩; have HN1 := Aside0.mk hn; have HO1 := Aside0.mk (And.intro (HO.out.1.below hb) (HO.out.2.trans (hb.mono HO.out.2.size))); clear hn hb) | (go_at_call 64; (with_reducible refine (HXB.out _).mono ?_); rintro e W2 ⟨A3, k3, c3, A4, k4, c4, rfl, hn, hb⟩; have HN2 := Aside0.mk hn; have HN3 := Aside0.mk (HN1.out.below hb); have HO2 := Aside0.mk (And.intro (HO1.out.1.below hb) (HO1.out.2.trans (hb.mono HO1.out.2.size))); clear hn; obtain ⟨r0, r1, r2, r3, r4, r5⟩ := (HO1.out.1.below hb).cells; have f0 := (HO1.out.1.below hb).fr 0; have f1 := (HO1.out.1.below hb).fr 1; have f2 := (HO1.out.1.below hb).fr 2; have f3 := (HO1.out.1.below hb).fr 3; have f4 := (HO1.out.1.below hb).fr 4; have f5 := (HO1.out.1.below hb).fr 5; clear hb))
 refine p_ret2 (z := z) (a := ⟨A1, k1, c1, A2, k2, c2, A3, k3, c3, A4, k4, c4⟩) Tryz.results104 rfl rfl (HO2.out.1.put6 z.p1 z.q1 z.p2 z.q2) ⟨_, rfl, HO2.out.1.p6 ⟨HN3.out, HN2.out⟩, below_put6 (B := w.heap.size) HO2.out.2 (Nat.le_refl _)⟩
theorem from128_good (s t : Bool) {r q : Nat} (hr : r < 9218868437227405312) (hq : q < 9218868437227405312) (w : World) (hE : EN w) :
 Calls Tryz.prog 37 #[.complex .f64 (S64 s + r) (S64 t + q)] w fun e w' => EO w (cxC s r t q) e w' := by
 have HW := Aside0.mk (fun W => wide_good s t hr hq W)
 have hok := cxC_ok (s := s) (t := t) hr hq
 have HEX : Aside0 (∀ W a, Below w.heap.size w W → P2 W a (cxC s r t q) → Calls Tryz.prog 105 #[aV (cxC s r t q) a] W fun e w' => EO W (cxC s r t q) e w') := ⟨fun W a hb p => exact_calls p (hok.more (by omega)) (hE.below hb)⟩
 clear hr hq hok hE
 unfold EO at *
 generalize cxC s r t q = z at *
 generalize S64 s + r = x at *
 generalize S64 t + q = y at *
 generalize exA z = t1 at *
 generalize exB z = t2 at *
 generalize exR z = te at *
 have HO : Aside0 (EF (w.alloc (.cells #[.string ⟨#[]⟩, .string ⟨#[]⟩] 57)) w.heap.size ⟨#[]⟩ ⟨#[]⟩ ∧ Below w.heap.size w (w.alloc (.cells #[.string ⟨#[]⟩, .string ⟨#[]⟩] 57))) := ⟨⟨heap_alloc_new w _, below_alloc (Below.refl _ _) _⟩⟩
 go_enter Tryz.func37, Tryz.ntmps37
 go_upto_region 4 with (go_at_call 104; (with_reducible refine (HW.out _).mono ?_); rintro e W1 ⟨a, rfl, hp, hb⟩; have HP1 := Aside0.mk hp; have HO1 := Aside0.mk (And.intro (HO.out.1.below hb) (HO.out.2.trans (hb.mono HO.out.2.size))); clear hp hb)
 have HO2 : Aside0 (P2 (W1.alloc (.cells #[.bool z.s1, .slice a.A1 a.L1 a.c1, .slice a.A2 a.L2 a.c2, .bool z.s2, .slice a.A3 a.L3 a.c3, .slice a.A4 a.L4 a.c4] 148)) a z ∧ EF (W1.alloc (.cells #[.bool z.s1, .slice a.A1 a.L1 a.c1, .slice a.A2 a.L2 a.c2, .bool z.s2, .slice a.A3 a.L3 a.c3, .slice a.A4 a.L4 a.c4] 148)) w.heap.size ⟨#[]⟩ ⟨#[]⟩ ∧ Below w.heap.size w (W1.alloc (.cells #[.bool z.s1, .slice a.A1 a.L1 a.c1, .slice a.A2 a.L2 a.c2, .bool z.s2, .slice a.A3 a.L3 a.c3, .slice a.A4 a.L4 a.c4] 148))) := ⟨by
  have b2 := below_alloc (Below.refl _ W1) (.cells #[.bool z.s1, .slice a.A1 a.L1 a.c1, .slice a.A2 a.L2 a.c2, .bool z.s2, .slice a.A3 a.L3 a.c3, .slice a.A4 a.L4 a.c4] 148)
  exact ⟨HP1.out.below b2, HO1.out.1.below b2, HO1.out.2.trans (b2.mono HO1.out.2.size)⟩⟩
 go_wp2_with (go_at_call 105; (with_reducible refine (HEX.out _ _ HO2.out.2.2 HO2.out.1).mono ?_); rintro e W3 ⟨rfl, hb⟩; have HO3 := Aside0.mk (And.intro (HO2.out.2.1.below hb) (HO2.out.2.2.trans (hb.mono HO2.out.2.2.size))); clear hb; have r0 := HO3.out.1.cell0; have r1 := HO3.out.1.cell1; have r2 := HO3.out.1.fr 0; have r3 := HO3.out.1.fr 1)
 exact e_ret2 Tryz.results37 rfl rfl (HO3.out.1.put _ _) ⟨rfl, (HO3.out.2.setCell (p := ⟨w.heap.size, 0, none⟩) (Nat.le_refl _) _).setCell (p := ⟨w.heap.size, 1, none⟩) (Nat.le_refl _) _⟩
theorem run_f2f {P : Program} {src dst : FloatKind} {b r : Nat} (w : World) (h : floatToFloatBits src b dst = some r) : (Conv.floatToFloat src b dst).run P w = .ok (.float dst r) w := by
 unfold floatToFloatBits at h
 split at h
 ·rename_i e; cases h
  simp [Conv.floatToFloat, e]
 ·rename_i ne
  split at h
  ·cases h
  ·rename_i sg he; cases h
   simp [Conv.floatToFloat, ne, he]
  ·rename_i sg m e he
   split at h
   ·cases h
   ·rename_i ho; cases h
    simp [Conv.floatToFloat, ne, he, ho]
theorem conv_cx (s t : Bool) {r q : Nat} (hr : r < 2139095040) (hq : q < 2139095040) (W : World) :
 (convert 55 64 (.complex .f32 (S32 s + r) (S32 t + q))).run Tryz.prog W = .ok (.complex .f64 (S64 s + w32 r) (S64 t + w32 q)) W := by
 have h1 := run_f2f (P := Tryz.prog) W ((w32_lt hr).2 s)
 have h2 := run_f2f (P := Tryz.prog) W ((w32_lt hq).2 t)
 simp [convert, run_underlying Tryz.underlying55, run_underlying Tryz.underlying64, Conv.complexToComplex, h1, h2]
/-- What to64 answers. -/
def sxE (z : CN) : Int := firstI [nrE z.s1 z.p1 z.q1, nrE z.s2 z.p2 z.q2]
def sxA (z : CN) : Nat := if sxE z = 0 then nrW z.s1 z.p1 z.q1 else 0
def sxB (z : CN) : Nat := if sxE z = 0 then nrW z.s2 z.p2 z.q2 else 0
abbrev SO (w : World) (z : CN) (e : Ending) (w' : World) : Prop := e = .returned (.tuple #[.complex .f32 (sxA z) (sxB z), .int .i64 (sxE z)]) ∧ Below w.heap.size w w'
theorem to64_calls {w : World} {z : CN} {a : AD} (h : P2 w a z) (hz : z.ok 90000) : Calls Tryz.prog 110 #[aV z a] w fun e w' => SO w z e w' := by
 have HN1 : Aside0 (∀ W, N2 W a.A1 a.L1 a.c1 z.p1 a.A2 a.L2 a.c2 z.q1 → Calls Tryz.prog 65 #[.agg #[.bool z.s1, .slice a.A1 a.L1 a.c1, .slice a.A2 a.L2 a.c2]] W fun e w' => NrO W z.s1 z.p1 z.q1 e w') := ⟨fun W hn => nearest_calls hn hz.a1 hz.a2 hz.a3⟩
 have HN2 : Aside0 (∀ W, N2 W a.A3 a.L3 a.c3 z.p2 a.A4 a.L4 a.c4 z.q2 → Calls Tryz.prog 65 #[.agg #[.bool z.s2, .slice a.A3 a.L3 a.c3, .slice a.A4 a.L4 a.c4]] W fun e w' => NrO W z.s2 z.p2 z.q2 e w') := ⟨fun W hn => nearest_calls hn hz.b1 hz.b2 hz.b3⟩
 have hF : firstI [nrE z.s1 z.p1 z.q1, nrE z.s2 z.p2 z.q2] = sxE z := rfl
 clear hz
 unfold SO sxA sxB
 unfold NrO at HN1 HN2
 generalize nrW z.s1 z.p1 z.q1 = t1 at *
 generalize nrW z.s2 z.p2 z.q2 = t2 at *
 generalize nrE z.s1 z.p1 z.q1 = e1 at *
 generalize nrE z.s2 z.p2 z.q2 = e2 at *
 by_cases hx : sxE z = 0
 ·rw [if_pos hx, if_pos hx, hx]
  rw [hx] at hF
  have HF := Aside0.mk hF
  clear hF hx
  go_enter Tryz.func110, Tryz.ntmps110
  go_upto_region 1 with fail
  obtain ⟨W0, hW0⟩ : ∃ W0, (w.alloc (.cells #[.bool z.s1, .slice a.A1 a.L1 a.c1, .slice a.A2 a.L2 a.c2, .bool z.s2, .slice a.A3 a.L3 a.c3, .slice a.A4 a.L4 a.c4] 148)) = W0 := ⟨_, rfl⟩
  have HO : Aside0 (PF W0 w.heap.size z a ∧ P2 W0 a z ∧ Below w.heap.size w W0) := ⟨by
   subst hW0
   have b1 := below_alloc (Below.refl w.heap.size w) (.cells #[.bool z.s1, .slice a.A1 a.L1 a.c1, .slice a.A2 a.L2 a.c2, .bool z.s2, .slice a.A3 a.L3 a.c3, .slice a.A4 a.L4 a.c4] 148)
   exact ⟨heap_alloc_new w _, h.below b1, b1⟩⟩
  rw [hW0]
  clear hW0 h
  obtain ⟨q0, q1, q2, q3, q4, q5⟩ := HO.out.1.cells
  go_wp2_with (first | (go_at_call 65; (with_reducible refine (HN1.out _ HO.out.2.1.n1).mono ?_); rintro e W1 ⟨rfl, hb⟩; have HO1 := Aside0.mk (And.intro (HO.out.1.below hb) (And.intro (HO.out.2.1.below hb) (HO.out.2.2.trans (hb.mono HO.out.2.2.size)))); clear hb; obtain ⟨q0, q1, q2, q3, q4, q5⟩ := HO1.out.1.cells) | (go_at_call 65; (with_reducible refine (HN2.out _ HO1.out.2.1.n2).mono ?_); rintro e W2 ⟨rfl, hb⟩; have HB2 := Aside0.mk (HO1.out.2.2.trans (hb.mono HO1.out.2.2.size)); clear hb) | (go_at_call 108; (with_reducible refine (qfirst2_ret _ _ _ HF.out _ _ (by simp) _).mono ?_); rintro e wx ⟨rfl, hwx⟩; rw [hwx]; clear hwx wx))
  go_ret2
  exact ⟨rfl, below_alloc HB2.out _⟩
 ·rw [if_neg hx, if_neg hx]
  have hne : (sxE z != 0) = true := by simp [hx]
  generalize sxE z = k at *
  have HF := Aside0.mk hF
  clear hF hx
  go_enter Tryz.func110, Tryz.ntmps110
  go_upto_region 1 with fail
  obtain ⟨W0, hW0⟩ : ∃ W0, (w.alloc (.cells #[.bool z.s1, .slice a.A1 a.L1 a.c1, .slice a.A2 a.L2 a.c2, .bool z.s2, .slice a.A3 a.L3 a.c3, .slice a.A4 a.L4 a.c4] 148)) = W0 := ⟨_, rfl⟩
  have HO : Aside0 (PF W0 w.heap.size z a ∧ P2 W0 a z ∧ Below w.heap.size w W0) := ⟨by
   subst hW0
   have b1 := below_alloc (Below.refl w.heap.size w) (.cells #[.bool z.s1, .slice a.A1 a.L1 a.c1, .slice a.A2 a.L2 a.c2, .bool z.s2, .slice a.A3 a.L3 a.c3, .slice a.A4 a.L4 a.c4] 148)
   exact ⟨heap_alloc_new w _, h.below b1, b1⟩⟩
  rw [hW0]
  clear hW0 h
  obtain ⟨q0, q1, q2, q3, q4, q5⟩ := HO.out.1.cells
  go_wp2_with (first | (go_at_call 65; (with_reducible refine (HN1.out _ HO.out.2.1.n1).mono ?_); rintro e W1 ⟨rfl, hb⟩; have HO1 := Aside0.mk (And.intro (HO.out.1.below hb) (And.intro (HO.out.2.1.below hb) (HO.out.2.2.trans (hb.mono HO.out.2.2.size)))); clear hb; obtain ⟨q0, q1, q2, q3, q4, q5⟩ := HO1.out.1.cells) | (go_at_call 65; (with_reducible refine (HN2.out _ HO1.out.2.1.n2).mono ?_); rintro e W2 ⟨rfl, hb⟩; have HB2 := Aside0.mk (HO1.out.2.2.trans (hb.mono HO1.out.2.2.size)); clear hb) | (go_at_call 108; (with_reducible refine (qfirst2_ret _ _ _ HF.out _ _ (by simp) _).mono ?_); rintro e wx ⟨rfl, hwx⟩; rw [hwx]; clear hwx wx))
  go_ret2
  exact ⟨rfl, below_alloc HB2.out _⟩
theorem mulR_good {a0 a1 b0 b1 : Nat} (h0 : a0 < 4294967296) (h1 : a1 < 4294967296) (h2 : b0 < 4294967296) (h3 : b1 < 4294967296) (f0 : fin32 a0 = true) (f1 : fin32 a1 = true) (f2 : fin32 b0 = true) (f3 : fin32 b1 = true) (w : World) :
 Calls Tryz.prog 39 #[.complex .f32 a0 a1, .complex .f32 b0 b1] w fun e w' => SO w (mulC (cxC (neg32 a0) (w32 (a0 % 2147483648)) (neg32 a1) (w32 (a1 % 2147483648))) (cxC (neg32 b0) (w32 (b0 % 2147483648)) (neg32 b1) (w32 (b1 % 2147483648)))) e w' := by
 have g0 := of_decide_eq_true f0
 have g1 := of_decide_eq_true f1
 have g2 := of_decide_eq_true f2
 have g3 := of_decide_eq_true f3
 have c1 := conv_cx (neg32 a0) (neg32 a1) g0 g1
 have c2 := conv_cx (neg32 b0) (neg32 b1) g2 g3
 rw [← split32 h0, ← split32 h1] at c1
 rw [← split32 h2, ← split32 h3] at c2
 have k0 := (w32_lt g0).1
 have k1 := (w32_lt g1).1
 have k2 := (w32_lt g2).1
 have k3 := (w32_lt g3).1
 have HW1 := Aside0.mk (fun W => wide_good (neg32 a0) (neg32 a1) k0 k1 W)
 have HW2 := Aside0.mk (fun W => wide_good (neg32 b0) (neg32 b1) k2 k3 W)
 have o1 := cxC_ok (s := neg32 a0) (t := neg32 a1) k0 k1
 have o2 := cxC_ok (s := neg32 b0) (t := neg32 b1) k2 k3
 generalize cxC (neg32 a0) (w32 (a0 % 2147483648)) (neg32 a1) (w32 (a1 % 2147483648)) = z at *
 generalize cxC (neg32 b0) (w32 (b0 % 2147483648)) (neg32 b1) (w32 (b1 % 2147483648)) = y at *
 have HTI : Aside0 (∀ W a c, P2 W a z → P2 W c y → Calls Tryz.prog 109 #[aV z a, aV y c] W fun e w' => PX W (mulC z y) e w') := ⟨fun W a c p q => pTimes_calls p q (o1.more (by omega)) (o2.more (by omega))⟩
 have o3 := mulC_ok o1 o2 13000 (by omega)
 have HSO : Aside0 (∀ W a, P2 W a (mulC z y) → Calls Tryz.prog 110 #[aV (mulC z y) a] W fun e w' => SO W (mulC z y) e w') := ⟨fun W a p => to64_calls p (o3.more (by omega))⟩
 have F0 : Aside0 (firstI [0, 0] = 0) := ⟨rfl⟩
 clear h0 h1 h2 h3 f0 f1 f2 f3 g0 g1 g2 g3 k0 k1 k2 k3 o1 o2 o3
 unfold PX SO at *
 generalize mulC z y = r at *
 generalize S64 (neg32 a0) + w32 (a0 % 2147483648) = u0 at *
 generalize S64 (neg32 a1) + w32 (a1 % 2147483648) = u1 at *
 generalize S64 (neg32 b0) + w32 (b0 % 2147483648) = u2 at *
 generalize S64 (neg32 b1) + w32 (b1 % 2147483648) = u3 at *
 generalize sxA r = t1 at *
 generalize sxB r = t2 at *
 generalize sxE r = te at *
 go_enter Tryz.func39, Tryz.ntmps39
 go_upto_region 2 with (go_at_call 104; (with_reducible refine (HW1.out _).mono ?_); rintro e W1 ⟨a, rfl, hp, hb⟩; have HP1 := Aside0.mk hp; have HB1 := Aside0.mk hb; clear hp hb)
 have b2 := below_alloc (Below.refl W1.heap.size W1) (.cells #[.bool z.s1, .slice a.A1 a.L1 a.c1, .slice a.A2 a.L2 a.c2, .bool z.s2, .slice a.A3 a.L3 a.c3, .slice a.A4 a.L4 a.c4] 148)
 have HX : Aside0 (PF (W1.alloc (.cells #[.bool z.s1, .slice a.A1 a.L1 a.c1, .slice a.A2 a.L2 a.c2, .bool z.s2, .slice a.A3 a.L3 a.c3, .slice a.A4 a.L4 a.c4] 148)) W1.heap.size z a ∧ P2 (W1.alloc (.cells #[.bool z.s1, .slice a.A1 a.L1 a.c1, .slice a.A2 a.L2 a.c2, .bool z.s2, .slice a.A3 a.L3 a.c3, .slice a.A4 a.L4 a.c4] 148)) a z ∧ Below w.heap.size w (W1.alloc (.cells #[.bool z.s1, .slice a.A1 a.L1 a.c1, .slice a.A2 a.L2 a.c2, .bool z.s2, .slice a.A3 a.L3 a.c3, .slice a.A4 a.L4 a.c4] 148))) := ⟨heap_alloc_new W1 _, HP1.out.below b2, HB1.out.trans (b2.mono HB1.out.size)⟩
 obtain ⟨X, hX⟩ : ∃ X, W1.alloc (.cells #[.bool z.s1, .slice a.A1 a.L1 a.c1, .slice a.A2 a.L2 a.c2, .bool z.s2, .slice a.A3 a.L3 a.c3, .slice a.A4 a.L4 a.c4] 148) = X := ⟨_, rfl⟩
 obtain ⟨g1, hg1⟩ : ∃ g1, W1.heap.size = g1 := ⟨_, rfl⟩
 rw [hX, hg1] at HX
 rw [hX, hg1]
 clear hX hg1 b2
 go_upto_region 3 with (go_at_call 104; (with_reducible refine (HW2.out _).mono ?_); rintro e W2 ⟨c, rfl, hp, hb⟩; have HP2 := Aside0.mk hp; have HB2 := Aside0.mk hb; clear hp hb)
 have b2 := below_alloc (Below.refl W2.heap.size W2) (.cells #[.bool y.s1, .slice c.A1 c.L1 c.c1, .slice c.A2 c.L2 c.c2, .bool y.s2, .slice c.A3 c.L3 c.c3, .slice c.A4 c.L4 c.c4] 148)
 have HY : Aside0 (PF (W2.alloc (.cells #[.bool y.s1, .slice c.A1 c.L1 c.c1, .slice c.A2 c.L2 c.c2, .bool y.s2, .slice c.A3 c.L3 c.c3, .slice c.A4 c.L4 c.c4] 148)) g1 z a ∧ PF (W2.alloc (.cells #[.bool y.s1, .slice c.A1 c.L1 c.c1, .slice c.A2 c.L2 c.c2, .bool y.s2, .slice c.A3 c.L3 c.c3, .slice c.A4 c.L4 c.c4] 148)) W2.heap.size y c ∧ P2 (W2.alloc (.cells #[.bool y.s1, .slice c.A1 c.L1 c.c1, .slice c.A2 c.L2 c.c2, .bool y.s2, .slice c.A3 c.L3 c.c3, .slice c.A4 c.L4 c.c4] 148)) a z ∧ P2 (W2.alloc (.cells #[.bool y.s1, .slice c.A1 c.L1 c.c1, .slice c.A2 c.L2 c.c2, .bool y.s2, .slice c.A3 c.L3 c.c3, .slice c.A4 c.L4 c.c4] 148)) c y ∧ Below w.heap.size w (W2.alloc (.cells #[.bool y.s1, .slice c.A1 c.L1 c.c1, .slice c.A2 c.L2 c.c2, .bool y.s2, .slice c.A3 c.L3 c.c3, .slice c.A4 c.L4 c.c4] 148))) :=
  ⟨(HX.out.1.below HB2.out).below b2, heap_alloc_new W2 _, (HX.out.2.1.below HB2.out).below b2, HP2.out.below b2, (HX.out.2.2.trans (HB2.out.mono HX.out.2.2.size)).trans (b2.mono (HX.out.2.2.trans (HB2.out.mono HX.out.2.2.size)).size)⟩
 obtain ⟨Y, hY⟩ : ∃ Y, W2.alloc (.cells #[.bool y.s1, .slice c.A1 c.L1 c.c1, .slice c.A2 c.L2 c.c2, .bool y.s2, .slice c.A3 c.L3 c.c3, .slice c.A4 c.L4 c.c4] 148) = Y := ⟨_, rfl⟩
 obtain ⟨g2, hg2⟩ : ∃ g2, W2.heap.size = g2 := ⟨_, rfl⟩
 rw [hY, hg2] at HY
 rw [hY, hg2]
 clear hY hg2 b2
 go_upto_region 6 with (go_at_call 108; (with_reducible refine (qfirst2_ret _ _ _ F0.out _ _ (by simp) _).mono ?_); rintro e wx ⟨rfl, hwx⟩; rw [hwx]; clear hwx wx)
 obtain ⟨Z, hZ⟩ : ∃ Z, Y.alloc (.cells #[.int .i64 0, .int .i64 0] 26) = Z := ⟨_, rfl⟩
 have HO4 : Aside0 (PF Z g1 z a ∧ PF Z g2 y c ∧ P2 Z a z ∧ P2 Z c y ∧ Below w.heap.size w Z) := ⟨by
  subst hZ
  have b2 := below_alloc (Below.refl Y.heap.size Y) (.cells #[.int .i64 0, .int .i64 0] 26)
  exact ⟨HY.out.1.below b2, HY.out.2.1.below b2, HY.out.2.2.1.below b2, HY.out.2.2.2.1.below b2, HY.out.2.2.2.2.trans (b2.mono HY.out.2.2.2.2.size)⟩⟩
 rw [hZ]
 clear hZ
 obtain ⟨q0, q1, q2, q3, q4, q5⟩ := HO4.out.1.cells
 obtain ⟨p0, p1, p2, p3, p4, p5⟩ := HO4.out.2.1.cells
 go_wp2_with (first | (go_at_call 109; (with_reducible refine (HTI.out _ _ _ HO4.out.2.2.1 HO4.out.2.2.2.1).mono ?_); rintro e W5 ⟨rd, rfl, hp, hb⟩; have HR := Aside0.mk hp; have HB5 := Aside0.mk (HO4.out.2.2.2.2.trans (hb.mono HO4.out.2.2.2.2.size)); clear hp hb) | (go_at_call 110; (with_reducible refine (HSO.out _ _ HR.out).mono ?_); rintro e W6 ⟨rfl, hb⟩; have HB6 := Aside0.mk (HB5.out.trans (hb.mono HB5.out.size)); clear hb))
 go_ret2
 exact ⟨rfl, HB6.out⟩
theorem eql_str (d : Nat) (a b : ByteArray) (W : World) : (Op.equalIn (d + 1) 9 (.string a) (.string b)).run Tryz.prog W = .ok (a == b) W := by
 simp [Op.equalIn, run_underlying Tryz.underlying9]
theorem eql_ex (a b c d : ByteArray) (W : World) : (binOp .eql 57 (.agg #[.string a, .string b]) (.agg #[.string c, .string d])).run Tryz.prog W = .ok (.bool ((a == c) && (b == d))) W := by
 have h : (Op.equalIn 10000 57 (.agg #[.string a, .string b]) (.agg #[.string c, .string d])).run Tryz.prog W = .ok ((a == c) && (b == d)) W :=
  eqA_of (P := Tryz.prog) (d := 9999) Tryz.underlying57 (by kernel_rfl) (eqf_cons (by rfl) (a := .string a) (b := .string c) (by kernel_rfl) (by kernel_rfl) (eql_str 9998 a c W) (eqf_last (by rfl) (a := .string b) (b := .string d) (by kernel_rfl) (by kernel_rfl) (eql_str 9998 b d W)))
 simp [binOp, Op.equal, Op.maxDepth, h]
theorem neq_ex (a b c d : ByteArray) (W : World) : (binOp .neq 57 (.agg #[.string a, .string b]) (.agg #[.string c, .string d])).run Tryz.prog W = .ok (.bool !((a == c) && (b == d))) W := by
 have h : (Op.equalIn 10000 57 (.agg #[.string a, .string b]) (.agg #[.string c, .string d])).run Tryz.prog W = .ok ((a == c) && (b == d)) W :=
  eqA_of (P := Tryz.prog) (d := 9999) Tryz.underlying57 (by kernel_rfl) (eqf_cons (by rfl) (a := .string a) (b := .string c) (by kernel_rfl) (by kernel_rfl) (eql_str 9998 a c W) (eqf_last (by rfl) (a := .string b) (b := .string d) (by kernel_rfl) (by kernel_rfl) (eql_str 9998 b d W)))
 simp [binOp, Op.equal, Op.maxDepth, h]
/-- A result that lies in a variable of type Exact. -/
theorem e_ret1 {fn : Func} {i b : Nat} {Z : World} {T : Array Value} {R : Ending → World → Prop} {x y : ByteArray} (hres : fn.results = #[.cell i 57]) (hT : T[i]?.getD undef = .pointer (some ⟨b, 0, none⟩))
 (o : EF Z b x y) (hR : R (.returned (.agg #[.string x, .string y])) Z) : bodyPost Tryz.prog fn R Exit.ret { tmps := T, defers := [] } Z := by
 have k0 := o.cell0
 have k1 := o.cell1
 exact bodyPost_ret (v := .agg #[.string x, .string y]) (by simp [results, hres, go_sem, hT, k0, k1]) rfl hR
theorem when2_calls (b : Bool) (e : Int) (w : World) :
 Calls Tryz.prog 115 #[.bool b, .int .i64 e] w fun r w' => r = .returned (.int .i64 (if b = true then e else 0)) ∧ w' = w := by
 cases b <;> (go_enter Tryz.func115, Tryz.ntmps115; go_wp2; go_ret; exact ⟨by simp, rfl⟩)
theorem zero_calls (w : World) : Calls Tryz.prog 116 #[] w fun e w' => e = .returned (.agg #[.string ⟨#[48, 47, 49]⟩, .string ⟨#[48, 47, 49]⟩]) ∧ Below w.heap.size w w' := by
 go_enter Tryz.func116, Tryz.ntmps116
 go_wp2
 exact e_ret1 Tryz.results116 rfl (heap_alloc_new w _) ⟨rfl, below_alloc (Below.refl _ _) _⟩
def cjC (y : CN) : CN := { y with s2 := !y.s2 }
/-- The quotient by the square of the absolute value. -/
def ovC (r : CN) (s : Bool) (p q : Nat) : CN := ⟨!(r.s1 == s), r.p1 * q, r.q1 * p, !(r.s2 == s), r.p2 * q, r.q2 * p⟩
def dvC (z y : CN) : CN := ovC (mulC z (cjC y)) (nmS y) (nmP y) (nmQ y)
theorem cjC_ok {y : CN} {k : Nat} (h : y.ok k) : (cjC y).ok k := ⟨h.a1, h.a2, h.a3, h.b1, h.b2, h.b3⟩
theorem nmP_sum (y : CN) : nmP y = y.p1 * y.p1 * (y.q2 * y.q2) + y.p2 * y.p2 * (y.q1 * y.q1) := by
 unfold nmP plN
 simp
theorem zero_str2 {x : ByteArray} (h : checkR x = 0) (h0 : (numR x).natAbs = 0) : x = ⟨#[48, 47, 49]⟩ := by
 have f := Frc.of h
 have e : numR x = 0 := by omega
 rw [e] at f
 exact f.inj frc_zero (by simp)
theorem nm_pos {x y : ByteArray} (h : ckX x y = 0) (hz : ((x == ⟨#[48, 47, 49]⟩) && (y == ⟨#[48, 47, 49]⟩)) = false) : 0 < nmP (ofS x y) := by
 obtain ⟨c1, c2⟩ := ckX_zero h
 have hok := ofS_ok h
 rw [nmP_sum]
 by_cases h1 : (ofS x y).p1 = 0
 ·by_cases h2 : (ofS x y).p2 = 0
  ·exfalso
   rw [zero_str2 c1 h1, zero_str2 c2 h2] at hz
   revert hz
   decide
  ·have := Nat.mul_pos (Nat.mul_pos (Nat.pos_of_ne_zero h2) (Nat.pos_of_ne_zero h2)) (Nat.mul_pos hok.a3 hok.a3)
   omega
 ·have := Nat.mul_pos (Nat.mul_pos (Nat.pos_of_ne_zero h1) (Nat.pos_of_ne_zero h1)) (Nat.mul_pos hok.b3 hok.b3)
  omega
theorem ovC_ok {r : CN} {s : Bool} {p q : Nat} {j k : Nat} (h : r.ok j) (hp : Sz k p) (hq : Sz k q) (h0 : 0 < p) : (ovC r s p q).ok (j + k) :=
 ⟨h.a1.mul hq, h.a2.mul hp, Nat.mul_pos h.a3 h0, h.b1.mul hq, h.b2.mul hp, Nat.mul_pos h.b3 h0⟩
theorem EF.other {W : World} {b c : Nat} {x y : ByteArray} (h : EF W b x y) (hne : b ≠ c) (o : Nat) (u : Value) : EF (W.setCell ⟨c, o, none⟩ u) b x y := by
 unfold EF at *
 rw [← h]
 simp only [World.setCell]
 rw [Array.getElem?_modify, if_neg (fun e => hne e.symm)]
theorem EF.put6 {W : World} {b c : Nat} {x y : ByteArray} (h : EF W b x y) (hne : b ≠ c) {g : Bool} {B1 : Option Addr} {K1 d1 : Nat} {B2 : Option Addr} {K2 d2 : Nat} {g2 : Bool} {B3 : Option Addr} {K3 d3 : Nat} {B4 : Option Addr} {K4 d4 : Nat} : EF (Nm.put6 W c g B1 K1 d1 B2 K2 d2 g2 B3 K3 d3 B4 K4 d4) b x y :=
 (((((h.other hne 0 _).other hne 1 _).other hne 2 _).other hne 3 _).other hne 4 _).other hne 5 _
theorem QF.put6 {W : World} {b c : Nat} {s : Bool} {A1 : Option Addr} {L1 e1 : Nat} {A2 : Option Addr} {L2 e2 : Nat} (h : QF W b s A1 L1 e1 A2 L2 e2) (hne : b ≠ c) {g : Bool} {B1 : Option Addr} {K1 d1 : Nat} {B2 : Option Addr} {K2 d2 : Nat} {g2 : Bool} {B3 : Option Addr} {K3 d3 : Nat} {B4 : Option Addr} {K4 d4 : Nat} : QF (Nm.put6 W c g B1 K1 d1 B2 K2 d2 g2 B3 K3 d3 B4 K4 d4) b s A1 L1 e1 A2 L2 e2 :=
 (((((h.other hne 0 _).other hne 1 _).other hne 2 _).other hne 3 _).other hne 4 _).other hne 5 _
theorem qf_ne {W : World} {b c : Nat} {s : Bool} {A1 : Option Addr} {L1 c1 : Nat} {A2 : Option Addr} {L2 c2 : Nat} {x y : ByteArray} (h : QF W b s A1 L1 c1 A2 L2 c2) (he : EF W c x y) : b ≠ c := by
 rintro rfl
 have := h.cell0
 rw [he.cell0] at this
 cases this
theorem divX_good {a1 a2 b1 b2 : ByteArray} (ha1 : a1.size ≤ 10000) (ha2 : a2.size ≤ 10000) (hb1 : b1.size ≤ 10000) (hb2 : b2.size ≤ 10000) (h1 : ckX a1 a2 = 0) (h2 : ckX b1 b2 = 0) (hz : ((b1 == ⟨#[48, 47, 49]⟩) && (b2 == ⟨#[48, 47, 49]⟩)) = false) (w : World) (hE : EN w) :
 Calls Tryz.prog 46 #[.agg #[.string a1, .string a2], .agg #[.string b1, .string b2]] w fun e w' => EO w (dvC (ofS a1 a2) (ofS b1 b2)) e w' := by
 have HPX : Aside0 (∀ W, Below w.heap.size w W → _) := ⟨fun W hb => parts2_good ha1 ha2 hb1 hb2 h1 h2 (hE.below hb)⟩
 have heq := eql_ex b1 b2 ⟨#[48, 47, 49]⟩ ⟨#[48, 47, 49]⟩
 rw [hz] at heq
 have F0 : Aside0 (firstI [0, 0] = 0) := ⟨rfl⟩
 have k1 := ofS_ok h1
 have k2 := ofS_ok h2
 have np := nm_pos h2 hz
 have HZ0 : Aside0 (zS (two a1 b1) (two a2 b2) 0 = ofS a1 a2 ∧ zS (two a1 b1) (two a2 b2) 1 = ofS b1 b2) := ⟨rfl, rfl⟩
 clear ha1 ha2 hb1 hb2 h1 h2 hz
 unfold dvC
 generalize ofS a1 a2 = z at *
 generalize ofS b1 b2 = y at *
 generalize zS (two a1 b1) (two a2 b2) = zz at *
 obtain ⟨m1, m2, m3⟩ := nm_sz k2 2000 (by omega)
 have o2 := mulC_ok k1 (cjC_ok k2) 2000 (by omega)
 have o3 := ovC_ok (s := nmS y) o2 m1 m2 np
 have HNM : Aside0 (∀ W a, P2 W a y → Calls Tryz.prog 114 #[aV y a] W fun e w' => QX W (nmS y) (nmP y) (nmQ y) e w') := ⟨fun W a hp => norm_calls hp (k2.more (by omega))⟩
 have HOV1 : Aside0 (∀ W A1 L1 c1 A2 L2 c2 A3 L3 c3 A4 L4 c4, N2 W A1 L1 c1 (mulC z (cjC y)).p1 A2 L2 c2 (mulC z (cjC y)).q1 → N2 W A3 L3 c3 (nmP y) A4 L4 c4 (nmQ y) → Calls Tryz.prog 117 #[qV (mulC z (cjC y)).s1 A1 L1 c1 A2 L2 c2, qV (nmS y) A3 L3 c3 A4 L4 c4] W fun e w' => QX W (ovC (mulC z (cjC y)) (nmS y) (nmP y) (nmQ y)).s1 (ovC (mulC z (cjC y)) (nmS y) (nmP y) (nmQ y)).p1 (ovC (mulC z (cjC y)) (nmS y) (nmP y) (nmQ y)).q1 e w') := ⟨fun W A1 L1 c1 A2 L2 c2 A3 L3 c3 A4 L4 c4 p q => qOver_calls p q (o2.a1.more (by omega)) (o2.a2.more (by omega)) (m1.more (by omega)) (m2.more (by omega))⟩
 have HOV2 : Aside0 (∀ W A1 L1 c1 A2 L2 c2 A3 L3 c3 A4 L4 c4, N2 W A1 L1 c1 (mulC z (cjC y)).p2 A2 L2 c2 (mulC z (cjC y)).q2 → N2 W A3 L3 c3 (nmP y) A4 L4 c4 (nmQ y) → Calls Tryz.prog 117 #[qV (mulC z (cjC y)).s2 A1 L1 c1 A2 L2 c2, qV (nmS y) A3 L3 c3 A4 L4 c4] W fun e w' => QX W (ovC (mulC z (cjC y)) (nmS y) (nmP y) (nmQ y)).s2 (ovC (mulC z (cjC y)) (nmS y) (nmP y) (nmQ y)).p2 (ovC (mulC z (cjC y)) (nmS y) (nmP y) (nmQ y)).q2 e w') := ⟨fun W A1 L1 c1 A2 L2 c2 A3 L3 c3 A4 L4 c4 p q => qOver_calls p q (o2.b1.more (by omega)) (o2.b2.more (by omega)) (m1.more (by omega)) (m2.more (by omega))⟩
 have HEX : Aside0 (∀ W B1 j1 d1 B2 j2 d2 B3 j3 d3 B4 j4 d4, Below w.heap.size w W → N2 W B1 j1 d1 (ovC (mulC z (cjC y)) (nmS y) (nmP y) (nmQ y)).p1 B2 j2 d2 (ovC (mulC z (cjC y)) (nmS y) (nmP y) (nmQ y)).q1 → N2 W B3 j3 d3 (ovC (mulC z (cjC y)) (nmS y) (nmP y) (nmQ y)).p2 B4 j4 d4 (ovC (mulC z (cjC y)) (nmS y) (nmP y) (nmQ y)).q2 → Calls Tryz.prog 105 #[.agg #[.bool (ovC (mulC z (cjC y)) (nmS y) (nmP y) (nmQ y)).s1, .slice B1 j1 d1, .slice B2 j2 d2, .bool (ovC (mulC z (cjC y)) (nmS y) (nmP y) (nmQ y)).s2, .slice B3 j3 d3, .slice B4 j4 d4]] W fun e w' => EO W (ovC (mulC z (cjC y)) (nmS y) (nmP y) (nmQ y)) e w') := ⟨fun W B1 j1 d1 B2 j2 d2 B3 j3 d3 B4 j4 d4 hb p q => exact_calls (a := ⟨B1, j1, d1, B2, j2, d2, B3, j3, d3, B4, j4, d4⟩) ⟨p, q⟩ (o3.more (by omega)) (hE.below hb)⟩
 have HTI : Aside0 (∀ W (a c : AD) A5 k5 c5 A6 k6 c6, P2 W a z → N2 W c.A1 c.L1 c.c1 y.p1 c.A2 c.L2 c.c2 y.q1 → N2 W A5 k5 c5 y.p2 A6 k6 c6 y.q2 → Calls Tryz.prog 109 #[aV z a, .agg #[.bool y.s1, .slice c.A1 c.L1 c.c1, .slice c.A2 c.L2 c.c2, .bool (!y.s2), .slice A5 k5 c5, .slice A6 k6 c6]] W fun e w' => PX W (mulC z (cjC y)) e w') := ⟨fun W a c A5 k5 c5 A6 k6 c6 p q q2 => pTimes_calls (y := cjC y) (c := ⟨c.A1, c.L1, c.c1, c.A2, c.L2, c.c2, A5, k5, c5, A6, k6, c6⟩) p ⟨q, q2⟩ (k1.more (by omega)) ((cjC_ok k2).more (by omega))⟩
 have HOPP : Aside0 (∀ W A1 L1 c1 A2 L2 c2, N2 W A1 L1 c1 y.p2 A2 L2 c2 y.q2 → Calls Tryz.prog 92 #[qV y.s2 A1 L1 c1 A2 L2 c2] W fun e w' => QX W (!y.s2) y.p2 y.q2 e w') := ⟨fun W A1 L1 c1 A2 L2 c2 hn => qOpposite_calls hn⟩
 clear k1 k2 np m1 m2 m3 o2 o3 hE
 unfold PX QX EO qV at *
 generalize ovC (mulC z (cjC y)) (nmS y) (nmP y) (nmQ y) = rr at *
 generalize mulC z (cjC y) = r at *
 generalize exA rr = t1 at *
 generalize exB rr = t2 at *
 generalize exR rr = te at *
 generalize nmS y = ns at *
 generalize nmP y = np at *
 generalize nmQ y = nq at *
 go_enter Tryz.func46, Tryz.ntmps46
 go_upto_region 1 with fail
 obtain ⟨W0, hW0⟩ : ∃ W0, dvW w a1 a2 b1 b2 = W0 := ⟨_, rfl⟩
 have HO := Aside0.mk (dv_start (w := w) (a1 := a1) (a2 := a2) (b1 := b1) (b2 := b2))
 have HPA := Aside0.mk (HPX.out (dvW w a1 a2 b1 b2) HO.out.bl)
 unfold dvW at hW0 HO HPA
 rw [hW0] at HO HPA ⊢
 clear hW0 HPX
 have p0 := HO.out.e1.cell0
 have p1 := HO.out.e1.cell1
 have p2 := HO.out.e2.cell0
 have p3 := HO.out.e2.cell1
 go_upto_region 2 with (go_at_call 113; (with_reducible refine (HPA.out _ rfl _ rfl).mono ?_); rintro e W1 ⟨b, cap, ad, rfl, hps, hb1⟩; have HPS := Aside0.mk hps; have HO1 := Aside0.mk (HO.out.below hb1); clear hps hb1)
 clear p0 p1 p2 p3 HO HPA
 have KP : Aside0 (∀ V, Below W1.heap.size W1 V → (fun V => V.cell? ⟨w.heap.size + 1, 0, none⟩ = some (.string b1) ∧ V.cell? ⟨w.heap.size + 1, 1, none⟩ = some (.string b2)) V) := ⟨fun V hb => ⟨(HO1.out.e2.below hb).cell0, (HO1.out.e2.below hb).cell1⟩⟩
 rename_i Q' K hK
 refine wq KP fun hHeld => ?_
 refine tp 0 ?_
 try simp only [PU]
 refine tp 1 ?_
 try simp only [PU]
 refine tc 2 fun K hK => ?_
 go_simp
 (go_at_call 116; (with_reducible refine (zero_calls _).mono ?_); rintro e V1 ⟨rfl, hbq⟩; have HBN : Aside0 (Below W1.heap.size W1 V1) := ⟨by first | exact HBC.out.trans (hbq.mono HBC.out.size) | exact (below_drew1 (Below.refl _ _)).trans hbq⟩; (try clear HBC); have HBC := HBN; clear HBN)
 refine hK.out _ _ ?_ fun hHeld => ?_
 ·exact KP.out _ HBC.out
 clear hK K; try simp only [PU]
 refine tp 3 ?_
 try simp only [PU]
 refine tc 4 fun K hK => ?_
 go_simp
 (go_at_call 115; (with_reducible refine (when2_calls _ _ _).mono ?_); rintro e V2 ⟨rfl, hww⟩; rw [hww]; clear hww V2)
 refine hK.out _ _ ?_ fun hHeld => ?_
 ·exact KP.out _ HBC.out
 clear hK K; try simp only [PU]
 refine tc 5 fun K hK => ?_
 go_simp
 (have HBN : Aside0 (Below W1.heap.size W1 (V1.alloc (.cells #[.int .i64 0, .int .i64 0] 26))) := ⟨below_alloc HBC.out _⟩; clear HBC; have HBC := HBN; clear HBN)
 refine hK.out _ _ ?_ fun hHeld => ?_
 ·exact KP.out _ HBC.out
 clear hK K; try simp only [PU]
 refine tc 6 fun K hK => ?_
 go_simp
 (go_at_call 108; (with_reducible refine (qfirst2_ret _ _ 0 F0.out _ _ (by simp) _).mono ?_); rintro e V3 ⟨rfl, hww⟩; rw [hww]; clear hww V3)
 refine hK.out _ _ ?_ fun hHeld => ?_
 ·exact KP.out _ HBC.out
 clear hK K; try simp only [PU]
 refine tp 7 ?_
 try simp only [PU]
 refine wpAnyH_done (by kernel_rfl) ?_ _
 refine hK _ _ ?_
 clear hK KP hHeld
 have HO2 := Aside0.mk (HO1.out.below HBC.out)
 have HPS2 := Aside0.mk (HPS.out.below HBC.out)
 obtain ⟨W2, hW2⟩ : ∃ W2, V1.alloc (.cells #[.int .i64 0, .int .i64 0] 26) = W2 := ⟨_, rfl⟩
 rw [hW2] at HO2 HPS2 ⊢
 clear hW2 HO1 HPS HBC
 obtain ⟨a, ha⟩ : ∃ a, ad 0 = a := ⟨_, rfl⟩
 obtain ⟨c, hc⟩ : ∃ c, ad 1 = c := ⟨_, rfl⟩
 have HQ : Aside0 (P2 W2 a z ∧ P2 W2 c y ∧ b < W2.heap.size ∧ b ≠ w.heap.size + 2) := ⟨by
  have q0 := HPS2.out.p 0 (by decide)
  have q1 := HPS2.out.p 1 (by decide)
  rw [HZ0.out.1, ha] at q0
  rw [HZ0.out.2, hc] at q1
  exact ⟨q0, q1, HPS2.out.lt, ps_ne HPS2.out (by decide) HO2.out.e3⟩⟩
 have KC : Aside0 (∀ V, Below W2.heap.size W2 V → ((V.cell? ⟨b, 0, none⟩ = some (.bool z.s1) ∧ V.cell? ⟨b, 1, none⟩ = some (.slice a.A1 a.L1 a.c1) ∧ V.cell? ⟨b, 2, none⟩ = some (.slice a.A2 a.L2 a.c2) ∧ V.cell? ⟨b, 3, none⟩ = some (.bool z.s2) ∧ V.cell? ⟨b, 4, none⟩ = some (.slice a.A3 a.L3 a.c3) ∧ V.cell? ⟨b, 5, none⟩ = some (.slice a.A4 a.L4 a.c4)) ∧ (V.cell? ⟨b, 6, none⟩ = some (.bool y.s1) ∧ V.cell? ⟨b, 7, none⟩ = some (.slice c.A1 c.L1 c.c1) ∧ V.cell? ⟨b, 8, none⟩ = some (.slice c.A2 c.L2 c.c2) ∧ V.cell? ⟨b, 9, none⟩ = some (.bool y.s2) ∧ V.cell? ⟨b, 10, none⟩ = some (.slice c.A3 c.L3 c.c3) ∧ V.cell? ⟨b, 11, none⟩ = some (.slice c.A4 c.L4 c.c4)))) := ⟨fun V hb => by
  have q0 := (HPS2.out.below hb).c 0 (by decide)
  have q1 := (HPS2.out.below hb).c 1 (by decide)
  rw [HZ0.out.1, ha] at q0
  rw [HZ0.out.2, hc] at q1
  exact ⟨q0, q1⟩⟩
 clear HPS2 ha hc HZ0
 obtain ⟨_, q0, q1, q2, q3, q4, q5⟩ := KC.out _ (Below.refl _ _)
 have hbl := HQ.out.2.2.1
 go_upto_region 6 with (go_at_call 114; (with_reducible refine (HNM.out _ _ HQ.out.2.1).mono ?_); rintro e W3 ⟨A1, k1, c1, A2, k2, c2, rfl, hn, hb3⟩; have HN := Aside0.mk hn; have HB3 := Aside0.mk hb3; clear hn hb3)
 clear q0 q1 q2 q3 q4 q5 hbl
 obtain ⟨W4, hW4⟩ : ∃ W4, W3.alloc (.cells #[.bool ns, .slice A1 k1 c1, .slice A2 k2 c2] 102) = W4 := ⟨_, rfl⟩
 obtain ⟨nb, hnb⟩ : ∃ nb, W3.heap.size = nb := ⟨_, rfl⟩
 have HQ4 : Aside0 (QF W4 nb ns A1 k1 c1 A2 k2 c2 ∧ N2 W4 A1 k1 c1 np A2 k2 c2 nq ∧ DV w a1 a2 b1 b2 W4 ∧ b < W4.heap.size) := ⟨by
  subst hW4 hnb
  have b2 := below_alloc (Below.refl W3.heap.size W3) (.cells #[.bool ns, .slice A1 k1 c1, .slice A2 k2 c2] 102)
  exact ⟨QF.new _ _ rfl _ _ _ _ _ _ _, HN.out.below b2, (HO2.out.below HB3.out).below b2, Nat.lt_of_lt_of_le HQ.out.2.2.1 (Nat.le_trans HB3.out.size b2.size)⟩⟩
 have HB4 : Aside0 (Below W2.heap.size W2 W4) := ⟨by
  subst hW4
  exact below_alloc HB3.out _⟩
 rw [hW4, hnb]
 clear hW4 hnb HN HB3
 have HQ5 : Aside0 (P2 W4 a z ∧ P2 W4 c y ∧ b ≠ w.heap.size + 2 ∧ nb < W4.heap.size) := ⟨HQ.out.1.below HB4.out, HQ.out.2.1.below HB4.out, HQ.out.2.2.2, HQ4.out.1.lt⟩
 have KP : Aside0 (∀ V, Below W4.heap.size W4 V → (fun V => (V.cell? ⟨b, 0, none⟩ = some (.bool z.s1) ∧ V.cell? ⟨b, 1, none⟩ = some (.slice a.A1 a.L1 a.c1) ∧ V.cell? ⟨b, 2, none⟩ = some (.slice a.A2 a.L2 a.c2) ∧ V.cell? ⟨b, 3, none⟩ = some (.bool z.s2) ∧ V.cell? ⟨b, 4, none⟩ = some (.slice a.A3 a.L3 a.c3) ∧ V.cell? ⟨b, 5, none⟩ = some (.slice a.A4 a.L4 a.c4)) ∧ (V.cell? ⟨b, 6, none⟩ = some (.bool y.s1) ∧ V.cell? ⟨b, 7, none⟩ = some (.slice c.A1 c.L1 c.c1) ∧ V.cell? ⟨b, 8, none⟩ = some (.slice c.A2 c.L2 c.c2) ∧ V.cell? ⟨b, 9, none⟩ = some (.bool y.s2) ∧ V.cell? ⟨b, 10, none⟩ = some (.slice c.A3 c.L3 c.c3) ∧ V.cell? ⟨b, 11, none⟩ = some (.slice c.A4 c.L4 c.c4))) V) := ⟨fun V hb => KC.out V (HB4.out.trans (hb.mono HB4.out.size))⟩
 clear HQ HO2
 rename_i Q' K hK
 refine wq KP fun hHeld => ?_
 (obtain ⟨Z, hZ⟩ : ∃ Z, W4.drew = Z := ⟨_, rfl⟩; have HBC : Aside0 (Below W4.heap.size W4 Z) := (by subst hZ; exact ⟨below_drew1 (Below.refl _ _)⟩); rw [hZ] at hHeld ⊢; clear hZ)
 refine tp 0 ?_
 try simp only [PU]
 refine tp 1 ?_
 try simp only [PU]
 refine tp 2 ?_
 try simp only [PU]
 refine tp 3 ?_
 try simp only [PU]
 refine tp 4 ?_
 try simp only [PU]
 refine tp 5 ?_
 try simp only [PU]
 refine tp 6 ?_
 try simp only [PU]
 refine tp 7 ?_
 try simp only [PU]
 refine tp 8 ?_
 try simp only [PU]
 refine tp 9 ?_
 try simp only [PU]
 refine tp 10 ?_
 try simp only [PU]
 refine wpAnyH_ready (rs := [11, 14]) (by kernel_rfl) (by simp) ?_
 refine AllReadyH.cons rfl (fun K hK => ?_) (AllReadyH.cons rfl (fun K hK => ?_) (AllReadyH.nil))
 focus
  go_simp
  (go_at_call 92; (with_reducible refine (HOPP.out _ _ _ _ _ _ _ (HQ5.out.2.1.below HBC.out).n2).mono ?_); rintro e V1 ⟨A5, k5, c5, A6, k6, c6, rfl, hn, hbq⟩; have HOP := Aside0.mk hn; clear hn; (try (have HPN2 : Aside0 (PF V1 bd zC zA ∧ W4.heap.size ≤ bd) := ⟨HPN.out.1.below hbq, HPN.out.2⟩; clear HPN; have HPN := HPN2; clear HPN2; obtain ⟨r0, r1, r2, r3, r4, r5⟩ := HPN.out.1.cells; have f0 := HPN.out.1.fr 0; have f1 := HPN.out.1.fr 1; have f2 := HPN.out.1.fr 2; have f3 := HPN.out.1.fr 3; have f4 := HPN.out.1.fr 4; have f5 := HPN.out.1.fr 5)); have HBN : Aside0 (Below W4.heap.size W4 V1) := ⟨by first | exact HBC.out.trans (hbq.mono HBC.out.size) | exact (below_drew1 (Below.refl _ _)).trans hbq⟩; (try clear HBC); have HBC := HBN; clear HBN)
  refine hK.out _ _ ?_ fun hHeld => ?_
  ·(first | (simp only [cell_set HNE.out]; exact hHeld) | exact KP.out _ HBC.out)
  clear hK K; try simp only [PU]
  refine tp 12 ?_
  try simp only [PU]
  refine wpAnyH_ready (rs := [13, 14]) (by kernel_rfl) (by simp) ?_
  refine AllReadyH.cons rfl (fun K hK => ?_) (AllReadyH.cons rfl (fun K hK => ?_) (AllReadyH.nil))
  focus
   go_simp
   (go_at_call 109; (with_reducible refine (HTI.out _ a c _ _ _ _ _ _ (HQ5.out.1.below HBC.out) (HQ5.out.2.1.below HBC.out).n1 HOP.out).mono ?_); rintro e V2 ⟨rd, rfl, hp, hbq⟩; have HR := Aside0.mk hp; clear hp; (try (have HPN2 : Aside0 (PF V2 bd zC zA ∧ W4.heap.size ≤ bd) := ⟨HPN.out.1.below hbq, HPN.out.2⟩; clear HPN; have HPN := HPN2; clear HPN2; obtain ⟨r0, r1, r2, r3, r4, r5⟩ := HPN.out.1.cells; have f0 := HPN.out.1.fr 0; have f1 := HPN.out.1.fr 1; have f2 := HPN.out.1.fr 2; have f3 := HPN.out.1.fr 3; have f4 := HPN.out.1.fr 4; have f5 := HPN.out.1.fr 5)); have HBN : Aside0 (Below W4.heap.size W4 V2) := ⟨by first | exact HBC.out.trans (hbq.mono HBC.out.size) | exact (below_drew1 (Below.refl _ _)).trans hbq⟩; (try clear HBC); have HBC := HBN; clear HBN)
   refine hK.out _ _ ?_ fun hHeld => ?_
   ·(first | (simp only [cell_set HNE.out]; exact hHeld) | exact KP.out _ HBC.out)
   clear hK K; try simp only [PU]
   refine tc 14 fun K hK => ?_
   go_simp
   (first | (obtain ⟨Y, hY⟩ : ∃ Y, V2.alloc (.cells #[.bool false, .slice none 0 0, .slice none 0 0, .bool false, .slice none 0 0, .slice none 0 0] 148) = Y := ⟨_, rfl⟩; obtain ⟨bd, hbd⟩ : ∃ bd, V2.heap.size = bd := ⟨_, rfl⟩; have hbq : Below V2.heap.size V2 Y := (by subst hY; exact below_alloc (Below.refl _ _) _); have HPN : Aside0 (PF Y bd zC zA ∧ W4.heap.size ≤ bd) := (by subst hY hbd; exact ⟨heap_alloc_new _ _, HBC.out.size⟩); (try (have HR2 := Aside0.mk (HR.out.below hbq); clear HR; have HR := HR2; clear HR2)); (try (have HOP2 := Aside0.mk (HOP.out.below hbq); clear HOP; have HOP := HOP2; clear HOP2)); have HBN : Aside0 (Below W4.heap.size W4 Y) := ⟨HBC.out.trans (hbq.mono HBC.out.size)⟩; clear HBC; have HBC := HBN; clear HBN; have HNE : Aside0 (b ≠ bd) := (by have := HPN.out.2; have := HQ4.out.2.2.2; exact ⟨by omega⟩); rw [hY, hbd]; clear hY hbd; obtain ⟨r0, r1, r2, r3, r4, r5⟩ := HPN.out.1.cells; have f0 := HPN.out.1.fr 0; have f1 := HPN.out.1.fr 1; have f2 := HPN.out.1.fr 2; have f3 := HPN.out.1.fr 3; have f4 := HPN.out.1.fr 4; have f5 := HPN.out.1.fr 5) | (obtain ⟨Y, hY⟩ : ∃ Y, V1.alloc (.cells #[.bool false, .slice none 0 0, .slice none 0 0, .bool false, .slice none 0 0, .slice none 0 0] 148) = Y := ⟨_, rfl⟩; obtain ⟨bd, hbd⟩ : ∃ bd, V1.heap.size = bd := ⟨_, rfl⟩; have hbq : Below V1.heap.size V1 Y := (by subst hY; exact below_alloc (Below.refl _ _) _); have HPN : Aside0 (PF Y bd zC zA ∧ W4.heap.size ≤ bd) := (by subst hY hbd; exact ⟨heap_alloc_new _ _, HBC.out.size⟩); (try (have HR2 := Aside0.mk (HR.out.below hbq); clear HR; have HR := HR2; clear HR2)); (try (have HOP2 := Aside0.mk (HOP.out.below hbq); clear HOP; have HOP := HOP2; clear HOP2)); have HBN : Aside0 (Below W4.heap.size W4 Y) := ⟨HBC.out.trans (hbq.mono HBC.out.size)⟩; clear HBC; have HBC := HBN; clear HBN; have HNE : Aside0 (b ≠ bd) := (by have := HPN.out.2; have := HQ4.out.2.2.2; exact ⟨by omega⟩); rw [hY, hbd]; clear hY hbd; obtain ⟨r0, r1, r2, r3, r4, r5⟩ := HPN.out.1.cells; have f0 := HPN.out.1.fr 0; have f1 := HPN.out.1.fr 1; have f2 := HPN.out.1.fr 2; have f3 := HPN.out.1.fr 3; have f4 := HPN.out.1.fr 4; have f5 := HPN.out.1.fr 5) | (obtain ⟨Y, hY⟩ : ∃ Y, Z.alloc (.cells #[.bool false, .slice none 0 0, .slice none 0 0, .bool false, .slice none 0 0, .slice none 0 0] 148) = Y := ⟨_, rfl⟩; obtain ⟨bd, hbd⟩ : ∃ bd, Z.heap.size = bd := ⟨_, rfl⟩; have hbq : Below Z.heap.size Z Y := (by subst hY; exact below_alloc (Below.refl _ _) _); have HPN : Aside0 (PF Y bd zC zA ∧ W4.heap.size ≤ bd) := (by subst hY hbd; exact ⟨heap_alloc_new _ _, HBC.out.size⟩); (try (have HR2 := Aside0.mk (HR.out.below hbq); clear HR; have HR := HR2; clear HR2)); (try (have HOP2 := Aside0.mk (HOP.out.below hbq); clear HOP; have HOP := HOP2; clear HOP2)); have HBN : Aside0 (Below W4.heap.size W4 Y) := ⟨HBC.out.trans (hbq.mono HBC.out.size)⟩; clear HBC; have HBC := HBN; clear HBN; have HNE : Aside0 (b ≠ bd) := (by have := HPN.out.2; have := HQ4.out.2.2.2; exact ⟨by omega⟩); rw [hY, hbd]; clear hY hbd; obtain ⟨r0, r1, r2, r3, r4, r5⟩ := HPN.out.1.cells; have f0 := HPN.out.1.fr 0; have f1 := HPN.out.1.fr 1; have f2 := HPN.out.1.fr 2; have f3 := HPN.out.1.fr 3; have f4 := HPN.out.1.fr 4; have f5 := HPN.out.1.fr 5))
   refine hK.out _ _ ?_ fun hHeld => ?_
   ·(first | (simp only [cell_set HNE.out]; exact hHeld) | exact KP.out _ HBC.out)
   clear hK K; try simp only [PU]
   refine tc 15 fun K hK => ?_
   go_simp
   refine hK.out _ _ ?_ fun hHeld => ?_
   ·(first | (simp only [cell_set HNE.out]; exact hHeld) | exact KP.out _ HBC.out)
   clear hK K; try simp only [PU]
   refine wpAnyH_done (by kernel_rfl) ?_ _
  rotate_left
  focus
   go_simp
   (first | (obtain ⟨Y, hY⟩ : ∃ Y, V2.alloc (.cells #[.bool false, .slice none 0 0, .slice none 0 0, .bool false, .slice none 0 0, .slice none 0 0] 148) = Y := ⟨_, rfl⟩; obtain ⟨bd, hbd⟩ : ∃ bd, V2.heap.size = bd := ⟨_, rfl⟩; have hbq : Below V2.heap.size V2 Y := (by subst hY; exact below_alloc (Below.refl _ _) _); have HPN : Aside0 (PF Y bd zC zA ∧ W4.heap.size ≤ bd) := (by subst hY hbd; exact ⟨heap_alloc_new _ _, HBC.out.size⟩); (try (have HR2 := Aside0.mk (HR.out.below hbq); clear HR; have HR := HR2; clear HR2)); (try (have HOP2 := Aside0.mk (HOP.out.below hbq); clear HOP; have HOP := HOP2; clear HOP2)); have HBN : Aside0 (Below W4.heap.size W4 Y) := ⟨HBC.out.trans (hbq.mono HBC.out.size)⟩; clear HBC; have HBC := HBN; clear HBN; have HNE : Aside0 (b ≠ bd) := (by have := HPN.out.2; have := HQ4.out.2.2.2; exact ⟨by omega⟩); rw [hY, hbd]; clear hY hbd; obtain ⟨r0, r1, r2, r3, r4, r5⟩ := HPN.out.1.cells; have f0 := HPN.out.1.fr 0; have f1 := HPN.out.1.fr 1; have f2 := HPN.out.1.fr 2; have f3 := HPN.out.1.fr 3; have f4 := HPN.out.1.fr 4; have f5 := HPN.out.1.fr 5) | (obtain ⟨Y, hY⟩ : ∃ Y, V1.alloc (.cells #[.bool false, .slice none 0 0, .slice none 0 0, .bool false, .slice none 0 0, .slice none 0 0] 148) = Y := ⟨_, rfl⟩; obtain ⟨bd, hbd⟩ : ∃ bd, V1.heap.size = bd := ⟨_, rfl⟩; have hbq : Below V1.heap.size V1 Y := (by subst hY; exact below_alloc (Below.refl _ _) _); have HPN : Aside0 (PF Y bd zC zA ∧ W4.heap.size ≤ bd) := (by subst hY hbd; exact ⟨heap_alloc_new _ _, HBC.out.size⟩); (try (have HR2 := Aside0.mk (HR.out.below hbq); clear HR; have HR := HR2; clear HR2)); (try (have HOP2 := Aside0.mk (HOP.out.below hbq); clear HOP; have HOP := HOP2; clear HOP2)); have HBN : Aside0 (Below W4.heap.size W4 Y) := ⟨HBC.out.trans (hbq.mono HBC.out.size)⟩; clear HBC; have HBC := HBN; clear HBN; have HNE : Aside0 (b ≠ bd) := (by have := HPN.out.2; have := HQ4.out.2.2.2; exact ⟨by omega⟩); rw [hY, hbd]; clear hY hbd; obtain ⟨r0, r1, r2, r3, r4, r5⟩ := HPN.out.1.cells; have f0 := HPN.out.1.fr 0; have f1 := HPN.out.1.fr 1; have f2 := HPN.out.1.fr 2; have f3 := HPN.out.1.fr 3; have f4 := HPN.out.1.fr 4; have f5 := HPN.out.1.fr 5) | (obtain ⟨Y, hY⟩ : ∃ Y, Z.alloc (.cells #[.bool false, .slice none 0 0, .slice none 0 0, .bool false, .slice none 0 0, .slice none 0 0] 148) = Y := ⟨_, rfl⟩; obtain ⟨bd, hbd⟩ : ∃ bd, Z.heap.size = bd := ⟨_, rfl⟩; have hbq : Below Z.heap.size Z Y := (by subst hY; exact below_alloc (Below.refl _ _) _); have HPN : Aside0 (PF Y bd zC zA ∧ W4.heap.size ≤ bd) := (by subst hY hbd; exact ⟨heap_alloc_new _ _, HBC.out.size⟩); (try (have HR2 := Aside0.mk (HR.out.below hbq); clear HR; have HR := HR2; clear HR2)); (try (have HOP2 := Aside0.mk (HOP.out.below hbq); clear HOP; have HOP := HOP2; clear HOP2)); have HBN : Aside0 (Below W4.heap.size W4 Y) := ⟨HBC.out.trans (hbq.mono HBC.out.size)⟩; clear HBC; have HBC := HBN; clear HBN; have HNE : Aside0 (b ≠ bd) := (by have := HPN.out.2; have := HQ4.out.2.2.2; exact ⟨by omega⟩); rw [hY, hbd]; clear hY hbd; obtain ⟨r0, r1, r2, r3, r4, r5⟩ := HPN.out.1.cells; have f0 := HPN.out.1.fr 0; have f1 := HPN.out.1.fr 1; have f2 := HPN.out.1.fr 2; have f3 := HPN.out.1.fr 3; have f4 := HPN.out.1.fr 4; have f5 := HPN.out.1.fr 5))
   refine hK.out _ _ ?_ fun hHeld => ?_
   ·(first | (simp only [cell_set HNE.out]; exact hHeld) | exact KP.out _ HBC.out)
   clear hK K; try simp only [PU]
   refine tc 13 fun K hK => ?_
   go_simp
   (go_at_call 109; (with_reducible refine (HTI.out _ a c _ _ _ _ _ _ (HQ5.out.1.below HBC.out) (HQ5.out.2.1.below HBC.out).n1 HOP.out).mono ?_); rintro e V2 ⟨rd, rfl, hp, hbq⟩; have HR := Aside0.mk hp; clear hp; (try (have HPN2 : Aside0 (PF V2 bd zC zA ∧ W4.heap.size ≤ bd) := ⟨HPN.out.1.below hbq, HPN.out.2⟩; clear HPN; have HPN := HPN2; clear HPN2; obtain ⟨r0, r1, r2, r3, r4, r5⟩ := HPN.out.1.cells; have f0 := HPN.out.1.fr 0; have f1 := HPN.out.1.fr 1; have f2 := HPN.out.1.fr 2; have f3 := HPN.out.1.fr 3; have f4 := HPN.out.1.fr 4; have f5 := HPN.out.1.fr 5)); have HBN : Aside0 (Below W4.heap.size W4 V2) := ⟨by first | exact HBC.out.trans (hbq.mono HBC.out.size) | exact (below_drew1 (Below.refl _ _)).trans hbq⟩; (try clear HBC); have HBC := HBN; clear HBN)
   refine hK.out _ _ ?_ fun hHeld => ?_
   ·(first | (simp only [cell_set HNE.out]; exact hHeld) | exact KP.out _ HBC.out)
   clear hK K; try simp only [PU]
   refine tc 15 fun K hK => ?_
   go_simp
   refine hK.out _ _ ?_ fun hHeld => ?_
   ·(first | (simp only [cell_set HNE.out]; exact hHeld) | exact KP.out _ HBC.out)
   clear hK K; try simp only [PU]
   refine wpAnyH_done (by kernel_rfl) ?_ _
 rotate_left 2
 focus
  go_simp
  (first | (obtain ⟨Y, hY⟩ : ∃ Y, V2.alloc (.cells #[.bool false, .slice none 0 0, .slice none 0 0, .bool false, .slice none 0 0, .slice none 0 0] 148) = Y := ⟨_, rfl⟩; obtain ⟨bd, hbd⟩ : ∃ bd, V2.heap.size = bd := ⟨_, rfl⟩; have hbq : Below V2.heap.size V2 Y := (by subst hY; exact below_alloc (Below.refl _ _) _); have HPN : Aside0 (PF Y bd zC zA ∧ W4.heap.size ≤ bd) := (by subst hY hbd; exact ⟨heap_alloc_new _ _, HBC.out.size⟩); (try (have HR2 := Aside0.mk (HR.out.below hbq); clear HR; have HR := HR2; clear HR2)); (try (have HOP2 := Aside0.mk (HOP.out.below hbq); clear HOP; have HOP := HOP2; clear HOP2)); have HBN : Aside0 (Below W4.heap.size W4 Y) := ⟨HBC.out.trans (hbq.mono HBC.out.size)⟩; clear HBC; have HBC := HBN; clear HBN; have HNE : Aside0 (b ≠ bd) := (by have := HPN.out.2; have := HQ4.out.2.2.2; exact ⟨by omega⟩); rw [hY, hbd]; clear hY hbd; obtain ⟨r0, r1, r2, r3, r4, r5⟩ := HPN.out.1.cells; have f0 := HPN.out.1.fr 0; have f1 := HPN.out.1.fr 1; have f2 := HPN.out.1.fr 2; have f3 := HPN.out.1.fr 3; have f4 := HPN.out.1.fr 4; have f5 := HPN.out.1.fr 5) | (obtain ⟨Y, hY⟩ : ∃ Y, V1.alloc (.cells #[.bool false, .slice none 0 0, .slice none 0 0, .bool false, .slice none 0 0, .slice none 0 0] 148) = Y := ⟨_, rfl⟩; obtain ⟨bd, hbd⟩ : ∃ bd, V1.heap.size = bd := ⟨_, rfl⟩; have hbq : Below V1.heap.size V1 Y := (by subst hY; exact below_alloc (Below.refl _ _) _); have HPN : Aside0 (PF Y bd zC zA ∧ W4.heap.size ≤ bd) := (by subst hY hbd; exact ⟨heap_alloc_new _ _, HBC.out.size⟩); (try (have HR2 := Aside0.mk (HR.out.below hbq); clear HR; have HR := HR2; clear HR2)); (try (have HOP2 := Aside0.mk (HOP.out.below hbq); clear HOP; have HOP := HOP2; clear HOP2)); have HBN : Aside0 (Below W4.heap.size W4 Y) := ⟨HBC.out.trans (hbq.mono HBC.out.size)⟩; clear HBC; have HBC := HBN; clear HBN; have HNE : Aside0 (b ≠ bd) := (by have := HPN.out.2; have := HQ4.out.2.2.2; exact ⟨by omega⟩); rw [hY, hbd]; clear hY hbd; obtain ⟨r0, r1, r2, r3, r4, r5⟩ := HPN.out.1.cells; have f0 := HPN.out.1.fr 0; have f1 := HPN.out.1.fr 1; have f2 := HPN.out.1.fr 2; have f3 := HPN.out.1.fr 3; have f4 := HPN.out.1.fr 4; have f5 := HPN.out.1.fr 5) | (obtain ⟨Y, hY⟩ : ∃ Y, Z.alloc (.cells #[.bool false, .slice none 0 0, .slice none 0 0, .bool false, .slice none 0 0, .slice none 0 0] 148) = Y := ⟨_, rfl⟩; obtain ⟨bd, hbd⟩ : ∃ bd, Z.heap.size = bd := ⟨_, rfl⟩; have hbq : Below Z.heap.size Z Y := (by subst hY; exact below_alloc (Below.refl _ _) _); have HPN : Aside0 (PF Y bd zC zA ∧ W4.heap.size ≤ bd) := (by subst hY hbd; exact ⟨heap_alloc_new _ _, HBC.out.size⟩); (try (have HR2 := Aside0.mk (HR.out.below hbq); clear HR; have HR := HR2; clear HR2)); (try (have HOP2 := Aside0.mk (HOP.out.below hbq); clear HOP; have HOP := HOP2; clear HOP2)); have HBN : Aside0 (Below W4.heap.size W4 Y) := ⟨HBC.out.trans (hbq.mono HBC.out.size)⟩; clear HBC; have HBC := HBN; clear HBN; have HNE : Aside0 (b ≠ bd) := (by have := HPN.out.2; have := HQ4.out.2.2.2; exact ⟨by omega⟩); rw [hY, hbd]; clear hY hbd; obtain ⟨r0, r1, r2, r3, r4, r5⟩ := HPN.out.1.cells; have f0 := HPN.out.1.fr 0; have f1 := HPN.out.1.fr 1; have f2 := HPN.out.1.fr 2; have f3 := HPN.out.1.fr 3; have f4 := HPN.out.1.fr 4; have f5 := HPN.out.1.fr 5))
  refine hK.out _ _ ?_ fun hHeld => ?_
  ·(first | (simp only [cell_set HNE.out]; exact hHeld) | exact KP.out _ HBC.out)
  clear hK K; try simp only [PU]
  refine tc 11 fun K hK => ?_
  go_simp
  (go_at_call 92; (with_reducible refine (HOPP.out _ _ _ _ _ _ _ (HQ5.out.2.1.below HBC.out).n2).mono ?_); rintro e V1 ⟨A5, k5, c5, A6, k6, c6, rfl, hn, hbq⟩; have HOP := Aside0.mk hn; clear hn; (try (have HPN2 : Aside0 (PF V1 bd zC zA ∧ W4.heap.size ≤ bd) := ⟨HPN.out.1.below hbq, HPN.out.2⟩; clear HPN; have HPN := HPN2; clear HPN2; obtain ⟨r0, r1, r2, r3, r4, r5⟩ := HPN.out.1.cells; have f0 := HPN.out.1.fr 0; have f1 := HPN.out.1.fr 1; have f2 := HPN.out.1.fr 2; have f3 := HPN.out.1.fr 3; have f4 := HPN.out.1.fr 4; have f5 := HPN.out.1.fr 5)); have HBN : Aside0 (Below W4.heap.size W4 V1) := ⟨by first | exact HBC.out.trans (hbq.mono HBC.out.size) | exact (below_drew1 (Below.refl _ _)).trans hbq⟩; (try clear HBC); have HBC := HBN; clear HBN)
  refine hK.out _ _ ?_ fun hHeld => ?_
  ·(first | (simp only [cell_set HNE.out]; exact hHeld) | exact KP.out _ HBC.out)
  clear hK K; try simp only [PU]
  refine tp 12 ?_
  try simp only [PU]
  refine tc 13 fun K hK => ?_
  go_simp
  (go_at_call 109; (with_reducible refine (HTI.out _ a c _ _ _ _ _ _ (HQ5.out.1.below HBC.out) (HQ5.out.2.1.below HBC.out).n1 HOP.out).mono ?_); rintro e V2 ⟨rd, rfl, hp, hbq⟩; have HR := Aside0.mk hp; clear hp; (try (have HPN2 : Aside0 (PF V2 bd zC zA ∧ W4.heap.size ≤ bd) := ⟨HPN.out.1.below hbq, HPN.out.2⟩; clear HPN; have HPN := HPN2; clear HPN2; obtain ⟨r0, r1, r2, r3, r4, r5⟩ := HPN.out.1.cells; have f0 := HPN.out.1.fr 0; have f1 := HPN.out.1.fr 1; have f2 := HPN.out.1.fr 2; have f3 := HPN.out.1.fr 3; have f4 := HPN.out.1.fr 4; have f5 := HPN.out.1.fr 5)); have HBN : Aside0 (Below W4.heap.size W4 V2) := ⟨by first | exact HBC.out.trans (hbq.mono HBC.out.size) | exact (below_drew1 (Below.refl _ _)).trans hbq⟩; (try clear HBC); have HBC := HBN; clear HBN)
  refine hK.out _ _ ?_ fun hHeld => ?_
  ·(first | (simp only [cell_set HNE.out]; exact hHeld) | exact KP.out _ HBC.out)
  clear hK K; try simp only [PU]
  refine tc 15 fun K hK => ?_
  go_simp
  refine hK.out _ _ ?_ fun hHeld => ?_
  ·(first | (simp only [cell_set HNE.out]; exact hHeld) | exact KP.out _ HBC.out)
  clear hK K; try simp only [PU]
  refine wpAnyH_done (by kernel_rfl) ?_ _
 all_goals
  refine hK _ _ ?_
  clear hK
  obtain ⟨nlt, elt⟩ : nb < W4.heap.size ∧ w.heap.size + 2 < W4.heap.size := ⟨HQ4.out.1.lt, HQ4.out.2.2.1.e3.lt⟩
  have hle := HPN.out.2
  have hn5 := N2.below HQ4.out.2.1 HBC.out
  have HF := Aside0.mk (And.intro (HPN.out.1.put6 (g := r.s1) (B1 := rd.A1) (K1 := rd.L1) (d1 := rd.c1) (B2 := rd.A2) (K2 := rd.L2) (d2 := rd.c2) (g2 := r.s2) (B3 := rd.A3) (K3 := rd.L3) (d3 := rd.c3) (B4 := rd.A4) (K4 := rd.L4) (d4 := rd.c4) r.p1 r.q1 r.p2 r.q2) (And.intro (HPN.out.1.p6 (g := r.s1) (B1 := rd.A1) (K1 := rd.L1) (d1 := rd.c1) (B2 := rd.A2) (K2 := rd.L2) (d2 := rd.c2) (g2 := r.s2) (B3 := rd.A3) (K3 := rd.L3) (d3 := rd.c3) (B4 := rd.A4) (K4 := rd.L4) (d4 := rd.c4) HR.out)
   (And.intro ((HQ4.out.1.below HBC.out).put6 (c := bd) (by omega) (g := r.s1) (B1 := rd.A1) (K1 := rd.L1) (d1 := rd.c1) (B2 := rd.A2) (K2 := rd.L2) (d2 := rd.c2) (g2 := r.s2) (B3 := rd.A3) (K3 := rd.L3) (d3 := rd.c3) (B4 := rd.A4) (K4 := rd.L4) (d4 := rd.c4))
   (And.intro (N2.mk (HPN.out.1.nn6 (g := r.s1) (B1 := rd.A1) (K1 := rd.L1) (d1 := rd.c1) (B2 := rd.A2) (K2 := rd.L2) (d2 := rd.c2) (g2 := r.s2) (B3 := rd.A3) (K3 := rd.L3) (d3 := rd.c3) (B4 := rd.A4) (K4 := rd.L4) (d4 := rd.c4) hn5.m1) (HPN.out.1.nn6 (g := r.s1) (B1 := rd.A1) (K1 := rd.L1) (d1 := rd.c1) (B2 := rd.A2) (K2 := rd.L2) (d2 := rd.c2) (g2 := r.s2) (B3 := rd.A3) (K3 := rd.L3) (d3 := rd.c3) (B4 := rd.A4) (K4 := rd.L4) (d4 := rd.c4) hn5.m2))
   (And.intro ((HQ4.out.2.2.1.below HBC.out).e3.put6 (c := bd) (by omega) (g := r.s1) (B1 := rd.A1) (K1 := rd.L1) (d1 := rd.c1) (B2 := rd.A2) (K2 := rd.L2) (d2 := rd.c2) (g2 := r.s2) (B3 := rd.A3) (K3 := rd.L3) (d3 := rd.c3) (B4 := rd.A4) (K4 := rd.L4) (d4 := rd.c4)) (below_put6 (b := bd) (HQ4.out.2.2.1.below HBC.out).bl (by omega) (g := r.s1) (B1 := rd.A1) (K1 := rd.L1) (d1 := rd.c1) (B2 := rd.A2) (K2 := rd.L2) (d2 := rd.c2) (g2 := r.s2) (B3 := rd.A3) (K3 := rd.L3) (d3 := rd.c3) (B4 := rd.A4) (K4 := rd.L4) (d4 := rd.c4)))))))
  have HNE2 : Aside0 (bd ≠ w.heap.size + 2 ∧ nb ≠ w.heap.size + 2) := ⟨⟨by omega, qf_ne HF.out.2.2.1 HF.out.2.2.2.2.1⟩⟩
  clear hn5 hle nlt elt
  clear HPN HR HBC HQ4 HQ5 HB4 KC KP HNE hHeld
  (try clear HOP)
  clear r0 r1 r2 r3 r4 r5 f0 f1 f2 f3 f4 f5
  unfold Nm.put6 at HF
  (first | (obtain ⟨W5, hW5⟩ : ∃ W5, (((((V2.setCell ⟨bd, 0, none⟩ (.bool r.s1)).setCell ⟨bd, 1, none⟩ (.slice rd.A1 rd.L1 rd.c1)).setCell ⟨bd, 2, none⟩ (.slice rd.A2 rd.L2 rd.c2)).setCell ⟨bd, 3, none⟩ (.bool r.s2)).setCell ⟨bd, 4, none⟩ (.slice rd.A3 rd.L3 rd.c3)).setCell ⟨bd, 5, none⟩ (.slice rd.A4 rd.L4 rd.c4) = W5 := ⟨_, rfl⟩; rw [hW5] at HF ⊢; clear hW5) | (obtain ⟨W5, hW5⟩ : ∃ W5, (((((Y.setCell ⟨bd, 0, none⟩ (.bool r.s1)).setCell ⟨bd, 1, none⟩ (.slice rd.A1 rd.L1 rd.c1)).setCell ⟨bd, 2, none⟩ (.slice rd.A2 rd.L2 rd.c2)).setCell ⟨bd, 3, none⟩ (.bool r.s2)).setCell ⟨bd, 4, none⟩ (.slice rd.A3 rd.L3 rd.c3)).setCell ⟨bd, 5, none⟩ (.slice rd.A4 rd.L4 rd.c4) = W5 := ⟨_, rfl⟩; rw [hW5] at HF ⊢; clear hW5))
  go_upto_region 7 with fail
  have KP : Aside0 (∀ V, Below W5.heap.size W5 V → (fun V => (V.cell? ⟨bd, 0, none⟩ = some (.bool r.s1) ∧ V.cell? ⟨bd, 1, none⟩ = some (.slice rd.A1 rd.L1 rd.c1) ∧ V.cell? ⟨bd, 2, none⟩ = some (.slice rd.A2 rd.L2 rd.c2) ∧ V.cell? ⟨bd, 3, none⟩ = some (.bool r.s2) ∧ V.cell? ⟨bd, 4, none⟩ = some (.slice rd.A3 rd.L3 rd.c3) ∧ V.cell? ⟨bd, 5, none⟩ = some (.slice rd.A4 rd.L4 rd.c4)) ∧ V.cell? ⟨nb, 0, none⟩ = some (.bool ns) ∧ V.cell? ⟨nb, 1, none⟩ = some (.slice A1 k1 c1) ∧ V.cell? ⟨nb, 2, none⟩ = some (.slice A2 k2 c2)) V) := ⟨fun V hb => ⟨(HF.out.1.below hb).cells, (HF.out.2.2.1.below hb).cell0, (HF.out.2.2.1.below hb).cell1, (HF.out.2.2.1.below hb).cell2⟩⟩
  rename_i Q' K hK
  refine wq KP fun hHeld => ?_
  (obtain ⟨Z5, hZ⟩ : ∃ Z5, W5.drew = Z5 := ⟨_, rfl⟩; have HBC : Aside0 (Below W5.heap.size W5 Z5) := (by subst hZ; exact ⟨below_drew1 (Below.refl _ _)⟩); rw [hZ] at hHeld ⊢; clear hZ)
  refine tp 0 ?_
  try simp only [PU]
  refine tp 1 ?_
  try simp only [PU]
  refine tp 2 ?_
  try simp only [PU]
  refine tp 4 ?_
  try simp only [PU]
  refine tp 5 ?_
  try simp only [PU]
  refine tp 6 ?_
  try simp only [PU]
  refine tc 3 fun K hK => ?_
  go_simp
  (go_at_call 117; (with_reducible refine (HOV1.out _ _ _ _ _ _ _ _ _ _ _ _ _ (HF.out.2.1.below HBC.out).n1 (HF.out.2.2.2.1.below HBC.out)).mono ?_); rintro e V6 ⟨B1, j1, d1, B2, j2, d2, rfl, hn, hbq⟩; have R1 := Aside0.mk hn; clear hn; have HBN : Aside0 (Below W5.heap.size W5 V6) := ⟨by first | exact HBC.out.trans (hbq.mono HBC.out.size) | exact (below_drew1 (Below.refl _ _)).trans hbq⟩; (try clear HBC); have HBC := HBN; clear HBN)
  refine hK.out _ _ ?_ fun hHeld => ?_
  ·(first | (simp only [cell_set HNE2.out.1, cell_set HNE2.out.2]; exact hHeld) | exact KP.out _ HBC.out)
  clear hK K; try simp only [PU]
  refine tc 7 fun K hK => ?_
  go_simp
  (go_at_call 117; (with_reducible refine (HOV2.out _ _ _ _ _ _ _ _ _ _ _ _ _ (HF.out.2.1.below HBC.out).n2 (HF.out.2.2.2.1.below HBC.out)).mono ?_); rintro e V7 ⟨B3, j3, d3, B4, j4, d4, rfl, hn, hbq⟩; have R2 := Aside0.mk hn; have R3 := Aside0.mk (R1.out.below hbq); clear hn; have HBN : Aside0 (Below W5.heap.size W5 V7) := ⟨by first | exact HBC.out.trans (hbq.mono HBC.out.size) | exact (below_drew1 (Below.refl _ _)).trans hbq⟩; (try clear HBC); have HBC := HBN; clear HBN)
  refine hK.out _ _ ?_ fun hHeld => ?_
  ·(first | (simp only [cell_set HNE2.out.1, cell_set HNE2.out.2]; exact hHeld) | exact KP.out _ HBC.out)
  clear hK K; try simp only [PU]
  refine tp 8 ?_
  try simp only [PU]
  refine tc 9 fun K hK => ?_
  go_simp
  (go_at_call 105; (with_reducible refine (HEX.out _ _ _ _ _ _ _ _ _ _ _ _ _ (HF.out.2.2.2.2.2.trans (HBC.out.mono HF.out.2.2.2.2.2.size)) R3.out R2.out).mono ?_); rintro e V8 ⟨rfl, hbq⟩; have HBN : Aside0 (Below W5.heap.size W5 V8) := ⟨by first | exact HBC.out.trans (hbq.mono HBC.out.size) | exact (below_drew1 (Below.refl _ _)).trans hbq⟩; (try clear HBC); have HBC := HBN; clear HBN; have he := HF.out.2.2.2.2.1.below HBC.out; have r0 := he.cell0; have r1 := he.cell1; have r2 := he.fr 0; have r3 := he.fr 1; clear he)
  refine hK.out _ _ ?_ fun hHeld => ?_
  ·(first | (simp only [cell_set HNE2.out.1, cell_set HNE2.out.2]; exact hHeld) | exact KP.out _ HBC.out)
  clear hK K; try simp only [PU]
  refine tp 10 ?_
  try simp only [PU]
  refine tp 11 ?_
  try simp only [PU]
  refine tc 12 fun K hK => ?_
  go_simp
  refine hK.out _ _ ?_ fun hHeld => ?_
  ·(first | (simp only [cell_set HNE2.out.1, cell_set HNE2.out.2]; exact hHeld) | exact KP.out _ HBC.out)
  clear hK K; try simp only [PU]
  refine tp 13 ?_
  try simp only [PU]
  refine wpAnyH_done (by kernel_rfl) ?_ _
  refine hK _ _ ?_
  clear hK
  go_wp2
  have he := HF.out.2.2.2.2.1.below HBC.out
  exact e_ret2 Tryz.results46 rfl rfl (he.put _ _) ⟨rfl, ((HF.out.2.2.2.2.2.trans (HBC.out.mono HF.out.2.2.2.2.2.size)).setCell (p := ⟨w.heap.size + 2, 0, none⟩) (show w.heap.size ≤ w.heap.size + 2 by omega) _).setCell (p := ⟨w.heap.size + 2, 1, none⟩) (show w.heap.size ≤ w.heap.size + 2 by omega) _⟩
end
section
open Ieee
/-- A rung with its sign. -/
def sr (s : Bool) (r : Nat) : Int := if s then -(r : Int) else r
/-- A finite float32 in units of the least number. -/
def uu (r : Nat) : Nat := sg32 r * 2 ^ (pl32 r + 149).toNat
theorem uu_low {r : Nat} (h : r < 8388608) : uu r = r := by unfold uu sg32 pl32; rw [if_pos h, if_pos h]; simp
theorem uu_high {r : Nat} (h : ¬ r < 8388608) : uu r = (8388608 + r % 8388608) * 2 ^ (r / 8388608 - 1) := by
 unfold uu sg32 pl32; rw [if_neg h, if_neg h]
 rw [show ((((r / 8388608 : Nat) : Int) - 150 + 149).toNat) = r / 8388608 - 1 by omega]
theorem uu_mono {r q : Nat} (h : r < q) : uu r < uu q := by
 by_cases hr : r < 8388608
 ·rw [uu_low hr]
  by_cases hq : q < 8388608
  ·rw [uu_low hq]; exact h
  ·rw [uu_high hq]
   have : 8388608 + q % 8388608 ≤ (8388608 + q % 8388608) * 2 ^ (q / 8388608 - 1) := Nat.le_mul_of_pos_right _ (pp _)
   omega
 ·have hq : ¬ q < 8388608 := by omega
  rw [uu_high hr, uu_high hq]
  obtain ⟨X, hX⟩ : ∃ X, r / 8388608 = X := ⟨_, rfl⟩
  obtain ⟨Y, hY⟩ : ∃ Y, q / 8388608 = Y := ⟨_, rfl⟩
  rw [hX, hY]
  by_cases hXY : X = Y
  ·subst hXY
   exact Nat.mul_lt_mul_of_pos_right (by omega) (pp _)
  ·have h1 : (8388608 + r % 8388608) * 2 ^ (X - 1) < 16777216 * 2 ^ (X - 1) := Nat.mul_lt_mul_of_pos_right (by omega) (pp _)
   have h2 : 16777216 * 2 ^ (X - 1) = 8388608 * 2 ^ X := by
    rw [show X = (X - 1) + 1 by omega, Nat.pow_succ, Nat.add_sub_cancel]; omega
   have h3 : 8388608 * 2 ^ X ≤ 8388608 * 2 ^ (Y - 1) := Nat.mul_le_mul_left _ (Nat.pow_le_pow_right (by decide) (by omega))
   have h4 : 8388608 * 2 ^ (Y - 1) ≤ (8388608 + q % 8388608) * 2 ^ (Y - 1) := Nat.mul_le_mul_right _ (by omega)
   omega
theorem uu_zero {r : Nat} : uu r = 0 ↔ r = 0 := by
 constructor
 ·intro h
  rcases Nat.eq_zero_or_pos r with h0 | h0
  ·exact h0
  ·have := uu_mono h0; omega
 ·rintro rfl; decide
theorem scale_lt {x y C a b : Nat} (hC : 0 < C) (h1 : x * C = a) (h2 : y * C = b) : (x < y ↔ a < b) := by
 subst h1 h2
 exact ⟨fun h => Nat.mul_lt_mul_of_pos_right h hC, fun h => Nat.lt_of_mul_lt_mul_right h⟩
theorem uu_lt {r q : Nat} : uu r < uu q ↔ r < q := by
 constructor
 ·intro h
  rcases Nat.lt_trichotomy r q with h1 | h1 | h1
  ·exact h1
  ·subst h1; omega
  ·have := uu_mono h1; omega
 ·exact uu_mono
theorem cmp_signs {s t : Bool} {x y r q : Nat} (h1 : x < y ↔ r < q) (h2 : y < x ↔ q < r) (h3 : x = 0 ↔ r = 0) (h4 : y = 0 ↔ q = 0) : compare (sr s x) (sr t y) = compare (sr s r) (sr t q) := by
 rcases Int.lt_trichotomy (sr s r) (sr t q) with h | h | h
 ·rw [cpi_lt h, cpi_lt]
  unfold sr at *
  cases s <;> cases t <;> simp at * <;> omega
 ·rw [cpi_eq h, cpi_eq]
  unfold sr at *
  cases s <;> cases t <;> simp at * <;> omega
 ·rw [cpi_gt h, cpi_gt]
  unfold sr at *
  cases s <;> cases t <;> simp at * <;> omega
theorem ord32 {s t : Bool} {r q : Nat} (hr : r < 2139095040) (hq : q < 2139095040) : single.order (S32 s + r) (S32 t + q) = some (compare (sr s r) (sr t q)) := by
 unfold Format.order
 rw [read32 s hr, read32 t hq]
 show some (compare (signed s (sg32 r) (pl32 r - min (pl32 r) (pl32 q)).toNat) (signed t (sg32 q) (pl32 q - min (pl32 r) (pl32 q)).toNat)) = _
 have a1 := pl32_ge r
 have a2 := pl32_ge q
 have e1 : sg32 r <<< (pl32 r - min (pl32 r) (pl32 q)).toNat * 2 ^ (min (pl32 r) (pl32 q) + 149).toNat = uu r := by
  rw [Nat.shiftLeft_eq, Nat.mul_assoc, ← Nat.pow_add]
  unfold uu
  congr 2
  omega
 have e2 : sg32 q <<< (pl32 q - min (pl32 r) (pl32 q)).toNat * 2 ^ (min (pl32 r) (pl32 q) + 149).toNat = uu q := by
  rw [Nat.shiftLeft_eq, Nat.mul_assoc, ← Nat.pow_add]
  unfold uu
  congr 2
  omega
 have hC : 0 < 2 ^ (min (pl32 r) (pl32 q) + 149).toNat := pp _
 generalize 2 ^ (min (pl32 r) (pl32 q) + 149).toNat = C at *
 unfold signed
 generalize sg32 r <<< (pl32 r - min (pl32 r) (pl32 q)).toNat = x at *
 generalize sg32 q <<< (pl32 q - min (pl32 r) (pl32 q)).toNat = y at *
 show some (compare (sr s x) (sr t y)) = _
 have z : ∀ {x a : Nat}, x * C = a → (x = 0 ↔ a = 0) := fun {x a} h => by
  subst h
  constructor
  ·rintro rfl; exact Nat.zero_mul _
  ·intro h; rcases Nat.mul_eq_zero.1 h with h | h <;> omega
 rw [cmp_signs ((scale_lt hC e1 e2).trans uu_lt) ((scale_lt hC e2 e1).trans uu_lt) ((z e1).trans uu_zero) ((z e2).trans uu_zero)]
/-- Words that stand for finite numbers. -/
def sw (b : Nat) : Int := sr (neg32 b) (b % 2147483648)
theorem ord32_w {a b : Nat} (ha : a < 4294967296) (hb : b < 4294967296) (fa : fin32 a = true) (fb : fin32 b = true) : FloatKind.f32.format.order a b = some (compare (sw a) (sw b)) := by
 have h := ord32 (s := neg32 a) (t := neg32 b) (of_decide_eq_true fa) (of_decide_eq_true fb)
 rw [← split32 ha, ← split32 hb] at h
 exact h
end
section
open Go.Proofs.YtnjbinpbkjdjpaaGreatDoor.Rf Go.Proofs.YtnjbinpbkjdjpaaGreatDoorW.PrintLast Go.Proofs.YtnjbinpbkjdjpaaGreatDoorW.PrintMore Go.Proofs.YtnjbinpbkjdjpaaGreatDoorW.PrintWords Go.RowKit Go.Shelf Ieee
/-- The table of operations in memory. -/
def OpsAt (W : World) (b : Nat) : Prop := W.heap[b]? = some (.cells #[.int .i64 16, .func (.func 118) #[] #[], .int .i64 17, .func (.func 80) #[] #[], .int .i64 18, .func (.func 129) #[] #[], .int .i64 19, .func (.func 117) #[] #[]] 95 (0, 0))
theorem OpsAt.lt {W : World} {b : Nat} (h : OpsAt W b) : b < W.heap.size := (Array.getElem?_eq_some_iff.1 h).1
theorem OpsAt.below {W X : World} {b : Nat} (h : OpsAt W b) (hb : Below W.heap.size W X) : OpsAt X b := (hb.block b h.lt).trans h
theorem OpsAt.cell {W : World} {b : Nat} (h : OpsAt W b) (i : Nat) : W.cell? ⟨b, i, none⟩ = (#[.int .i64 16, .func (.func 118) #[] #[], .int .i64 17, .func (.func 80) #[] #[], .int .i64 18, .func (.func 129) #[] #[], .int .i64 19, .func (.func 117) #[] #[]] : Array Value)[i]? := by rw [Lib.cell_of_heap h]
theorem operations_calls (w : World) : Calls Tryz.prog 61 #[] w fun e w' => ∃ b, e = .returned (.slice (some ⟨b, 0, none⟩) 4 4) ∧ OpsAt w' b ∧ Below w.heap.size w w' := by
 go_enter Tryz.func61, Tryz.ntmps61
 go_wp2
 go_ret
 exact ⟨w.heap.size, rfl, heap_alloc_new w _, below_alloc (Below.refl _ _) _⟩
/-- The place of an operation. -/
def opI (op : Int) : Int := if op = 16 then 0 else if op = 17 then 1 else if op = 18 then 2 else if op = 19 then 3 else -1
theorem index_calls {w : World} {b p : Nat} {op : Int} (ho : OpsAt w b) (hc : w.cell? ⟨p, 0, none⟩ = some (.int .i64 op)) (hp : p < w.heap.size) :
 Calls Tryz.prog 60 #[.slice (some ⟨b, 0, none⟩) 4 4, .func (.func 62) #[] #[.pointer (some ⟨p, 0, none⟩)]] w fun e w' => e = .returned (.int .i64 (opI op)) ∧ Below w.heap.size w w' := by
 have HO := Aside0.mk ho
 have HC := Aside0.mk (And.intro hc hp)
 clear ho hc hp
 go_enter Tryz.func60, Tryz.ntmps60
 go_wp2_with fail
 go_loopw [8] (fun v8 W => ∃ i : Nat, v8 = .int .i64 (i : Int) ∧ i ≤ 4 ∧ Aside0 (∀ j : Nat, j < i → op ≠ 16 + (j : Int)) ∧ Aside0 (Below w.heap.size w W)) (fun v8 _ => 4 - (intOf v8).toNat)
 case atStart => exact ⟨0, rfl, by omega, ⟨fun j hj => by omega⟩, ⟨Below.refl _ _⟩⟩
 case round =>
  obtain ⟨i, rfl, hi, hz, HB⟩ := hrel
  by_cases hlt : i < 4
  ·have ho2 := HO.out.below HB.out
   have q0 := ho2.cell (2 * i)
   have q1 := ho2.cell (2 * i + 1)
   clear ho2
   have qp : wr.cell? ⟨p, 0, none⟩ = some (.int .i64 op) := (HB.out.cell (p := ⟨p, 0, none⟩) HC.out.2).trans HC.out.1
   have hplt : p < wr.heap.size := Nat.lt_of_lt_of_le HC.out.2 HB.out.size
   have hstep : op ≠ 16 + (i : Int) → Aside0 (∀ j : Nat, j < i + 1 → op ≠ 16 + (j : Int)) := fun h => ⟨fun j hj => by
    rcases Nat.lt_or_eq_of_le (Nat.le_of_lt_succ hj) with h1 | h1
    ·exact hz.out j h1
    ·subst h1; exact h⟩
   obtain rfl | rfl | rfl | rfl : i = 0 ∨ i = 1 ∨ i = 2 ∨ i = 3 := by omega
   ·skip
    simp only [Nat.reduceMul, Nat.reduceAdd] at q0 q1
    by_cases hop : op = 16
    ·have hb : ((16 : Int) == op) = true := by rw [beq_iff_eq]; omega
     clear hstep
     go_wp2
     go_ret
     exact ⟨by rw [hop]; rfl, HB.out.trans ((below_alloc (Below.refl _ _) _).mono HB.out.size)⟩
    ·have hb : ((16 : Int) == op) = false := by rw [beq_eq_false_iff_ne]; omega
     have HS := hstep (by omega)
     clear hstep
     go_wp2
     go_roundw
     case rel => exact ⟨1, by first | rfl | go_num, by omega, HS, ⟨HB.out.trans ((below_alloc (Below.refl _ _) _).mono HB.out.size)⟩⟩
     case measure => simp [intOf]
   ·skip
    simp only [Nat.reduceMul, Nat.reduceAdd] at q0 q1
    by_cases hop : op = 17
    ·have hb : ((17 : Int) == op) = true := by rw [beq_iff_eq]; omega
     clear hstep
     go_wp2
     go_ret
     exact ⟨by rw [hop]; rfl, HB.out.trans ((below_alloc (Below.refl _ _) _).mono HB.out.size)⟩
    ·have hb : ((17 : Int) == op) = false := by rw [beq_eq_false_iff_ne]; omega
     have HS := hstep (by omega)
     clear hstep
     go_wp2
     go_roundw
     case rel => exact ⟨2, by first | rfl | go_num, by omega, HS, ⟨HB.out.trans ((below_alloc (Below.refl _ _) _).mono HB.out.size)⟩⟩
     case measure => simp [intOf]
   ·skip
    simp only [Nat.reduceMul, Nat.reduceAdd] at q0 q1
    by_cases hop : op = 18
    ·have hb : ((18 : Int) == op) = true := by rw [beq_iff_eq]; omega
     clear hstep
     go_wp2
     go_ret
     exact ⟨by rw [hop]; rfl, HB.out.trans ((below_alloc (Below.refl _ _) _).mono HB.out.size)⟩
    ·have hb : ((18 : Int) == op) = false := by rw [beq_eq_false_iff_ne]; omega
     have HS := hstep (by omega)
     clear hstep
     go_wp2
     go_roundw
     case rel => exact ⟨3, by first | rfl | go_num, by omega, HS, ⟨HB.out.trans ((below_alloc (Below.refl _ _) _).mono HB.out.size)⟩⟩
     case measure => simp [intOf]
   ·skip
    simp only [Nat.reduceMul, Nat.reduceAdd] at q0 q1
    by_cases hop : op = 19
    ·have hb : ((19 : Int) == op) = true := by rw [beq_iff_eq]; omega
     clear hstep
     go_wp2
     go_ret
     exact ⟨by rw [hop]; rfl, HB.out.trans ((below_alloc (Below.refl _ _) _).mono HB.out.size)⟩
    ·have hb : ((19 : Int) == op) = false := by rw [beq_eq_false_iff_ne]; omega
     have HS := hstep (by omega)
     clear hstep
     go_wp2
     go_roundw
     case rel => exact ⟨4, by first | rfl | go_num, by omega, HS, ⟨HB.out.trans ((below_alloc (Below.refl _ _) _).mono HB.out.size)⟩⟩
     case measure => simp [intOf]
  ·obtain rfl : i = 4 := by omega
   go_wp2
   go_ret
   refine ⟨?_, HB.out⟩
   have h0 := hz.out 0 (by omega)
   have h1 := hz.out 1 (by omega)
   have h2 := hz.out 2 (by omega)
   have h3 := hz.out 3 (by omega)
   unfold opI
   rw [if_neg (by omega), if_neg (by omega), if_neg (by omega), if_neg (by omega)]
   rfl
end
end Go.Proofs.YtnjbinpbkjdjpaaGreatDoor.Nm
