import Derived.Test.YtillgofjlpjbcaaGreatDoorU6
/- Own text: contracts and laws on which the card rests (NnQ NnR NnS NnT NnU NoA). -/
set_option linter.unusedVariables false
set_option linter.unusedSimpArgs false
set_option maxRecDepth 1000000
set_option maxHeartbeats 16000000
namespace Go.Proofs.YtillgofjlpjbcaaGreatDoor.Nm
section
open Go.Lib Go.Proofs.YtillgofjlpjbcaaGreatDoorW.PrintLast Go.Proofs.YtillgofjlpjbcaaGreatDoorW.PrintMore Go.Proofs.YtillgofjlpjbcaaGreatDoorW.PrintWords Go.RowKit Go.Shelf
/-- What text of a fraction answers. -/
def ftE (p q : Int) : Int := firstI [wrE p, wrE q]
def ftS (p q : Int) : ByteArray := if ftE p q = 0 then wrS p ++ ⟨#[47]⟩ ++ wrS q else ⟨#[]⟩
theorem wrS_size (x : Int) : (wrS x).size ≤ 130 := by
 unfold wrS lenI
 split
 ·show (#[] : Array UInt8).size ≤ _; simp
 ·rename_i h
  show (Lib.itoa x).toArray.size ≤ _
  rw [itoa_abs]
  simp
  split <;> simp <;> omega
theorem ftext_calls {w : World} {B : Nat} {A1 A2 : Option Addr} {L1 L2 : Nat} {p q : Int} (h1 : Mag w B A1 L1 p.natAbs) (h2 : Mag w B A2 L2 q.natAbs) (hB : B ≤ w.heap.size) (htab : Tens w) :
 Calls Tryz.prog 123 #[fV A1 L1 p A2 L2 q] w fun e w' => e = .returned (.tuple #[.string (ftS p q), .int .i64 (ftE p q)]) ∧ Below w.heap.size w w' := by
 have HW1 : ∀ W, Below w.heap.size w W → Calls Tryz.prog 91 #[iV A1 L1 p] W fun e w' => e = .returned (.tuple #[.string (wrS p), .int .i64 (wrE p)]) ∧ Below W.heap.size W w' := fun W hb => written_calls (h1.keep hB hb) (Nat.le_trans hB hb.size) (htab.below hb)
 have HW2 : ∀ W, Below w.heap.size w W → Calls Tryz.prog 91 #[iV A2 L2 q] W fun e w' => e = .returned (.tuple #[.string (wrS q), .int .i64 (wrE q)]) ∧ Below W.heap.size W w' := fun W hb => written_calls (h2.keep hB hb) (Nat.le_trans hB hb.size) (htab.below hb)
 have hs1 := wrS_size p
 have hs2 := wrS_size q
 unfold ftS
 obtain ⟨E, hE⟩ : ∃ E, ftE p q = E := ⟨_, rfl⟩
 rw [hE]
 unfold ftE at hE
 unfold fV
 unfold iV at *
 generalize wrS p = P at *
 generalize wrE p = E1 at *
 generalize wrS q = Q at *
 generalize wrE q = E2 at *
 generalize decide (p < 0) = f at *
 generalize decide (q < 0) = g at *
 have HF := Aside0.mk hE
 have HW1 := Aside0.mk HW1
 have HW2 := Aside0.mk HW2
 have HB := Aside0.mk (Below.refl w.heap.size w)
 clear h1 h2 htab hE
 by_cases h : E = 0
 ·subst h
  rw [if_pos rfl]
  go_enter Tryz.func123, Tryz.ntmps123
  go_wp2_with (first
   | (go_at_call 91; ((with_reducible refine (HW1.out _ bl).mono ?_); rintro e w1 ⟨rfl, hb1⟩; obtain ⟨hc1, hf1⟩ := bcell hb1; have z1_0 : (w.heap.size) < w1.heap.size := zb hb1; have nB1 : Aside0 (Below w.heap.size w w1) := sb hb1; clear HB; have HB := nB1; clear nB1; clear HW1))
   | (go_at_call 91; ((with_reducible refine (HW2.out _ bl).mono ?_); rintro e w2 ⟨rfl, hb2⟩; obtain ⟨hc2, hf2⟩ := bcell hb2; have z2_0 : (w.heap.size) < w2.heap.size := zb hb2; have nB2 : Aside0 (Below w.heap.size w w2) := sb hb2; clear HB; have HB := nB2; clear nB2))
   | (go_at_call 88; (with_reducible refine (first2_ret _ _ 0 HF.out _ _ (by simp) _).mono ?_); rintro e w' ⟨rfl, rfl⟩))
  go_ret2
  exact ⟨rfl, bl⟩
 ·rw [if_neg h]
  have hbe : (E != 0) = true := by simp [h]
  go_enter Tryz.func123, Tryz.ntmps123
  go_wp2_with (first
   | (go_at_call 91; ((with_reducible refine (HW1.out _ bl).mono ?_); rintro e w1 ⟨rfl, hb1⟩; obtain ⟨hc1, hf1⟩ := bcell hb1; have z1_0 : (w.heap.size) < w1.heap.size := zb hb1; have nB1 : Aside0 (Below w.heap.size w w1) := sb hb1; clear HB; have HB := nB1; clear nB1; clear HW1))
   | (go_at_call 91; ((with_reducible refine (HW2.out _ bl).mono ?_); rintro e w2 ⟨rfl, hb2⟩; obtain ⟨hc2, hf2⟩ := bcell hb2; have z2_0 : (w.heap.size) < w2.heap.size := zb hb2; have nB2 : Aside0 (Below w.heap.size w w2) := sb hb2; clear HB; have HB := nB2; clear nB2))
   | (go_at_call 88; (with_reducible refine (first2_ret _ _ E HF.out _ _ (by simp) _).mono ?_); rintro e w' ⟨rfl, rfl⟩))
  go_ret2
  exact ⟨rfl, bl⟩
/-- What a function of two fractions does. -/
def OpF (F : FuncId) (p q r s y z : Int) : Prop :=
 ∀ (W : World) (A1 A2 A3 A4 : Option Addr) (L1 L2 L3 L4 : Nat), Mag W W.heap.size A1 L1 p.natAbs → Mag W W.heap.size A2 L2 q.natAbs → Mag W W.heap.size A3 L3 r.natAbs → Mag W W.heap.size A4 L4 s.natAbs →
  Calls Tryz.prog F #[fV A1 L1 p A2 L2 q, fV A3 L3 r A4 L4 s] W fun e w' => ∃ A k A' k', e = .returned (fV A k y A' k' z) ∧ Mag w' w'.heap.size A k y.natAbs ∧ Mag w' w'.heap.size A' k' z.natAbs ∧ Below W.heap.size W w'
theorem times_at {w : World} {A1 A2 : Option Addr} {L1 L2 : Nat} {x y : Int} (h1 : Mag w w.heap.size A1 L1 x.natAbs) (h2 : Mag w w.heap.size A2 L2 y.natAbs) (hx : Dig 1000 x) (hy : Dig 1000 y) : ∀ W, Below w.heap.size w W →
 Calls Tryz.prog 85 #[iV A1 L1 x, iV A2 L2 y] W fun e w' => ∃ A k, e = .returned (iV A k (x * y)) ∧ Mag w' w'.heap.size A k (x * y).natAbs ∧ Below W.heap.size W w' :=
 fun W hb => op2_times hx hy W A1 A2 L1 L2 (h1.up hb) (h2.up hb)
theorem opF_mul {p q r s : Int} (hp : Dig 1000 p) (hq : Dig 1000 q) (hr : Dig 1000 r) (hs : Dig 1000 s) : OpF 105 p q r s (p * r) (q * s) := by
 intro w A1 A2 A3 A4 L1 L2 L3 L4 h1 h2 h3 h4
 have T1 := times_at h1 h3 hp hr
 have T2 := times_at h2 h4 hq hs
 unfold fV
 unfold fV iV at *
 generalize decide (p * r < 0) = g1 at *
 generalize (p * r).natAbs = n1 at *
 generalize decide (q * s < 0) = g2 at *
 generalize (q * s).natAbs = n2 at *
 generalize decide (p < 0) = f1 at *
 generalize decide (q < 0) = f2 at *
 generalize decide (r < 0) = f3 at *
 generalize decide (s < 0) = f4 at *
 have T1 := Aside0.mk T1
 have T2 := Aside0.mk T2
 clear h1 h2 h3 h4 hp hq hr hs
 go_enter Tryz.func105, Tryz.ntmps105
 go_wp2_with fail
 obtain ⟨wr, hwr⟩ : ∃ wr, (((w.alloc (.cells #[.slice A1 L1 L1, .bool f1, .slice A2 L2 L2, .bool f2] 116)).alloc (.cells #[.slice A3 L3 L3, .bool f3, .slice A4 L4 L4, .bool f4] 116)).alloc (.cells #[.slice none 0 0, .bool false, .slice none 0 0, .bool false] 116)) = wr := ⟨_, rfl⟩
 have HF : FB wr w.heap.size A1 L1 f1 A2 L2 f2 ∧ FB wr (w.heap.size + 1) A3 L3 f3 A4 L4 f4 ∧ FB wr (w.heap.size + 1 + 1) none 0 false none 0 false := by
  subst hwr
  refine ⟨((FB.new w _ _ _ _ _ _).alloc _).alloc _, FB.alloc ?_ _, ?_⟩
  ·have h := FB.new (w.alloc (.cells #[.slice A1 L1 L1, .bool f1, .slice A2 L2 L2, .bool f2] 116)) A3 L3 f3 A4 L4 f4
   simpa using h
  ·have h := FB.new ((w.alloc (.cells #[.slice A1 L1 L1, .bool f1, .slice A2 L2 L2, .bool f2] 116)).alloc (.cells #[.slice A3 L3 L3, .bool f3, .slice A4 L4 L4, .bool f4] 116)) none 0 false none 0 false
   simpa using h
 have HX : Aside0 (wr.cell? ⟨w.heap.size, 0, none⟩ = some (.slice A1 L1 L1) ∧ wr.cell? ⟨w.heap.size, 1, none⟩ = some (.bool f1) ∧ wr.cell? ⟨w.heap.size, 2, none⟩ = some (.slice A2 L2 L2) ∧ wr.cell? ⟨w.heap.size, 3, none⟩ = some (.bool f2) ∧ wr.cell? ⟨w.heap.size + 1, 0, none⟩ = some (.slice A3 L3 L3) ∧ wr.cell? ⟨w.heap.size + 1, 1, none⟩ = some (.bool f3) ∧ wr.cell? ⟨w.heap.size + 1, 2, none⟩ = some (.slice A4 L4 L4) ∧ wr.cell? ⟨w.heap.size + 1, 3, none⟩ = some (.bool f4)) :=
  ⟨HF.1.cell0, HF.1.cell1, HF.1.cell2, HF.1.cell3, HF.2.1.cell0, HF.2.1.cell1, HF.2.1.cell2, HF.2.1.cell3⟩
 have HO := Aside0.mk HF.2.2
 have HA : Aside0 (Below w.heap.size w wr ∧ w.heap.size + 3 ≤ wr.heap.size) := ⟨by subst hwr; repeat (first | exact Below.refl _ _ | apply below_alloc), by subst hwr; simp⟩
 rw [hwr]
 clear hwr HF
 rename_i Q' K hK
 have KP : Aside0 (∀ V, Below (w.heap.size + 2) wr V → (fun V => V.cell? ⟨w.heap.size, 0, none⟩ = some (.slice A1 L1 L1) ∧ V.cell? ⟨w.heap.size, 1, none⟩ = some (.bool f1) ∧ V.cell? ⟨w.heap.size, 2, none⟩ = some (.slice A2 L2 L2) ∧ V.cell? ⟨w.heap.size, 3, none⟩ = some (.bool f2) ∧ V.cell? ⟨w.heap.size + 1, 0, none⟩ = some (.slice A3 L3 L3) ∧ V.cell? ⟨w.heap.size + 1, 1, none⟩ = some (.bool f3) ∧ V.cell? ⟨w.heap.size + 1, 2, none⟩ = some (.slice A4 L4 L4) ∧ V.cell? ⟨w.heap.size + 1, 3, none⟩ = some (.bool f4) ∧ Below (w.heap.size + 2) wr V) V) := ⟨fun V hBB => ⟨keepB hBB (by omega) HX.out.1, keepB hBB (by omega) HX.out.2.1, keepB hBB (by omega) HX.out.2.2.1, keepB hBB (by omega) HX.out.2.2.2.1, keepB hBB (by omega) HX.out.2.2.2.2.1, keepB hBB (by omega) HX.out.2.2.2.2.2.1, keepB hBB (by omega) HX.out.2.2.2.2.2.2.1, keepB hBB (by omega) HX.out.2.2.2.2.2.2.2, hBB⟩⟩
 refine wq KP fun hHeld => ?_
 refine tp 0 ?_
 try simp only [PU]
 refine tp 1 ?_
 try simp only [PU]
 refine tp 2 ?_
 try simp only [PU]
 refine tp 3 ?_
 try simp only [PU]
 refine tp 5 ?_
 try simp only [PU]
 refine tp 6 ?_
 try simp only [PU]
 refine tp 7 ?_
 try simp only [PU]
 refine tp 8 ?_
 try simp only [PU]
 refine tc 4 fun K hK => ?_
 go_simp
 (go_at_call 85; (with_reducible refine (T1.out _ (HA.out.1.trans (hHeld.2.2.2.2.2.2.2.2.mono (by omega)))).mono ?_); rintro e wm ⟨A5, k5, rfl, hm5, hbq⟩; have HO := Aside0.mk ((HO.out.below (below_drew1 (Below.refl _ _))).below hbq); have hm5 := Aside0.mk hm5)
 refine hK.out _ _ ?_ fun hHeld => ?_
 ·(first | exact KP.out _ (bKeep hbq hHeld.2.2.2.2.2.2.2.2 (by have := HA.out.2; omega)) | (refine KP.out _ ?_; repeat (first | exact hHeld.2.2.2.2.2.2.2.2 | refine Below.setCell ?_ (by first | (simp; done) | (simp; omega)) _)))
 clear hK K; try simp only [PU]
 refine tc 9 fun K hK => ?_
 go_simp
 (go_at_call 85; (with_reducible refine (T2.out _ (HA.out.1.trans (hHeld.2.2.2.2.2.2.2.2.mono (by omega)))).mono ?_); rintro e wm ⟨A6, k6, rfl, hm6, hbq⟩; have HO := Aside0.mk (HO.out.below hbq); have hm6 := Aside0.mk hm6; have hm5 := Aside0.mk (hm5.out.up hbq); have q0 := HO.out.cell0; have q1 := HO.out.cell1; have q2 := HO.out.cell2; have q3 := HO.out.cell3; have q4 := HO.out.fr 0; have q5 := HO.out.fr 1; have q6 := HO.out.fr 2; have q7 := HO.out.fr 3)
 refine hK.out _ _ ?_ fun hHeld => ?_
 ·(first | exact KP.out _ (bKeep hbq hHeld.2.2.2.2.2.2.2.2 (by have := HA.out.2; omega)) | (refine KP.out _ ?_; repeat (first | exact hHeld.2.2.2.2.2.2.2.2 | refine Below.setCell ?_ (by first | (simp; done) | (simp; omega)) _)))
 clear hK K; try simp only [PU]
 refine tp 10 ?_
 try simp only [PU]
 refine tc 11 fun K hK => ?_
 go_simp
 refine hK.out _ _ ?_ fun hHeld => ?_
 ·(first | exact KP.out _ (bKeep hbq hHeld.2.2.2.2.2.2.2.2 (by have := HA.out.2; omega)) | (refine KP.out _ ?_; repeat (first | exact hHeld.2.2.2.2.2.2.2.2 | refine Below.setCell ?_ (by first | (simp; done) | (simp; omega)) _)))
 clear hK K; try simp only [PU]
 refine wpAnyH_done (by kernel_rfl) ?_ _
 refine hK _ _ ?_
 go_wp2
 refine bodyPost_ret (v := .agg #[.slice A5 k5 k5, .bool g1, .slice A6 k6 k6, .bool g2]) (by simp [results, Tryz.results105, go_sem, q0, q1, q2, q3]) rfl ⟨A5, k5, A6, k6, rfl, ?_, ?_, HA.out.1.trans (hHeld.2.2.2.2.2.2.2.2.mono (by omega))⟩
 ·exact (HO.out.mag hm5.out _ _ _ _).more (by simp)
 ·exact (HO.out.mag hm6.out _ _ _ _).more (by simp)
theorem opF_div {p q r s : Int} (hp : Dig 1000 p) (hq : Dig 1000 q) (hr : Dig 1000 r) (hs : Dig 1000 s) : OpF 108 p q r s (p * s) (q * r) := by
 intro w A1 A2 A3 A4 L1 L2 L3 L4 h1 h2 h3 h4
 have T1 := times_at h1 h4 hp hs
 have T2 := times_at h2 h3 hq hr
 unfold fV
 unfold fV iV at *
 generalize decide (p * s < 0) = g1 at *
 generalize (p * s).natAbs = n1 at *
 generalize decide (q * r < 0) = g2 at *
 generalize (q * r).natAbs = n2 at *
 generalize decide (p < 0) = f1 at *
 generalize decide (q < 0) = f2 at *
 generalize decide (r < 0) = f3 at *
 generalize decide (s < 0) = f4 at *
 have T1 := Aside0.mk T1
 have T2 := Aside0.mk T2
 clear h1 h2 h3 h4 hp hq hr hs
 go_enter Tryz.func108, Tryz.ntmps108
 go_wp2_with fail
 obtain ⟨wr, hwr⟩ : ∃ wr, (((w.alloc (.cells #[.slice A1 L1 L1, .bool f1, .slice A2 L2 L2, .bool f2] 116)).alloc (.cells #[.slice A3 L3 L3, .bool f3, .slice A4 L4 L4, .bool f4] 116)).alloc (.cells #[.slice none 0 0, .bool false, .slice none 0 0, .bool false] 116)) = wr := ⟨_, rfl⟩
 have HF : FB wr w.heap.size A1 L1 f1 A2 L2 f2 ∧ FB wr (w.heap.size + 1) A3 L3 f3 A4 L4 f4 ∧ FB wr (w.heap.size + 1 + 1) none 0 false none 0 false := by
  subst hwr
  refine ⟨((FB.new w _ _ _ _ _ _).alloc _).alloc _, FB.alloc ?_ _, ?_⟩
  ·have h := FB.new (w.alloc (.cells #[.slice A1 L1 L1, .bool f1, .slice A2 L2 L2, .bool f2] 116)) A3 L3 f3 A4 L4 f4
   simpa using h
  ·have h := FB.new ((w.alloc (.cells #[.slice A1 L1 L1, .bool f1, .slice A2 L2 L2, .bool f2] 116)).alloc (.cells #[.slice A3 L3 L3, .bool f3, .slice A4 L4 L4, .bool f4] 116)) none 0 false none 0 false
   simpa using h
 have HX : Aside0 (wr.cell? ⟨w.heap.size, 0, none⟩ = some (.slice A1 L1 L1) ∧ wr.cell? ⟨w.heap.size, 1, none⟩ = some (.bool f1) ∧ wr.cell? ⟨w.heap.size, 2, none⟩ = some (.slice A2 L2 L2) ∧ wr.cell? ⟨w.heap.size, 3, none⟩ = some (.bool f2) ∧ wr.cell? ⟨w.heap.size + 1, 0, none⟩ = some (.slice A3 L3 L3) ∧ wr.cell? ⟨w.heap.size + 1, 1, none⟩ = some (.bool f3) ∧ wr.cell? ⟨w.heap.size + 1, 2, none⟩ = some (.slice A4 L4 L4) ∧ wr.cell? ⟨w.heap.size + 1, 3, none⟩ = some (.bool f4)) :=
  ⟨HF.1.cell0, HF.1.cell1, HF.1.cell2, HF.1.cell3, HF.2.1.cell0, HF.2.1.cell1, HF.2.1.cell2, HF.2.1.cell3⟩
 have HO := Aside0.mk HF.2.2
 have HA : Aside0 (Below w.heap.size w wr ∧ w.heap.size + 3 ≤ wr.heap.size) := ⟨by subst hwr; repeat (first | exact Below.refl _ _ | apply below_alloc), by subst hwr; simp⟩
 rw [hwr]
 clear hwr HF
 rename_i Q' K hK
 have KP : Aside0 (∀ V, Below (w.heap.size + 2) wr V → (fun V => V.cell? ⟨w.heap.size, 0, none⟩ = some (.slice A1 L1 L1) ∧ V.cell? ⟨w.heap.size, 1, none⟩ = some (.bool f1) ∧ V.cell? ⟨w.heap.size, 2, none⟩ = some (.slice A2 L2 L2) ∧ V.cell? ⟨w.heap.size, 3, none⟩ = some (.bool f2) ∧ V.cell? ⟨w.heap.size + 1, 0, none⟩ = some (.slice A3 L3 L3) ∧ V.cell? ⟨w.heap.size + 1, 1, none⟩ = some (.bool f3) ∧ V.cell? ⟨w.heap.size + 1, 2, none⟩ = some (.slice A4 L4 L4) ∧ V.cell? ⟨w.heap.size + 1, 3, none⟩ = some (.bool f4) ∧ Below (w.heap.size + 2) wr V) V) := ⟨fun V hBB => ⟨keepB hBB (by omega) HX.out.1, keepB hBB (by omega) HX.out.2.1, keepB hBB (by omega) HX.out.2.2.1, keepB hBB (by omega) HX.out.2.2.2.1, keepB hBB (by omega) HX.out.2.2.2.2.1, keepB hBB (by omega) HX.out.2.2.2.2.2.1, keepB hBB (by omega) HX.out.2.2.2.2.2.2.1, keepB hBB (by omega) HX.out.2.2.2.2.2.2.2, hBB⟩⟩
 refine wq KP fun hHeld => ?_
 refine tp 0 ?_
 try simp only [PU]
 refine tp 1 ?_
 try simp only [PU]
 refine tp 2 ?_
 try simp only [PU]
 refine tp 3 ?_
 try simp only [PU]
 refine tp 5 ?_
 try simp only [PU]
 refine tp 6 ?_
 try simp only [PU]
 refine tp 7 ?_
 try simp only [PU]
 refine tp 8 ?_
 try simp only [PU]
 refine tc 4 fun K hK => ?_
 go_simp
 (go_at_call 85; (with_reducible refine (T1.out _ (HA.out.1.trans (hHeld.2.2.2.2.2.2.2.2.mono (by omega)))).mono ?_); rintro e wm ⟨A5, k5, rfl, hm5, hbq⟩; have HO := Aside0.mk ((HO.out.below (below_drew1 (Below.refl _ _))).below hbq); have hm5 := Aside0.mk hm5)
 refine hK.out _ _ ?_ fun hHeld => ?_
 ·(first | exact KP.out _ (bKeep hbq hHeld.2.2.2.2.2.2.2.2 (by have := HA.out.2; omega)) | (refine KP.out _ ?_; repeat (first | exact hHeld.2.2.2.2.2.2.2.2 | refine Below.setCell ?_ (by first | (simp; done) | (simp; omega)) _)))
 clear hK K; try simp only [PU]
 refine tc 9 fun K hK => ?_
 go_simp
 (go_at_call 85; (with_reducible refine (T2.out _ (HA.out.1.trans (hHeld.2.2.2.2.2.2.2.2.mono (by omega)))).mono ?_); rintro e wm ⟨A6, k6, rfl, hm6, hbq⟩; have HO := Aside0.mk (HO.out.below hbq); have hm6 := Aside0.mk hm6; have hm5 := Aside0.mk (hm5.out.up hbq); have q0 := HO.out.cell0; have q1 := HO.out.cell1; have q2 := HO.out.cell2; have q3 := HO.out.cell3; have q4 := HO.out.fr 0; have q5 := HO.out.fr 1; have q6 := HO.out.fr 2; have q7 := HO.out.fr 3)
 refine hK.out _ _ ?_ fun hHeld => ?_
 ·(first | exact KP.out _ (bKeep hbq hHeld.2.2.2.2.2.2.2.2 (by have := HA.out.2; omega)) | (refine KP.out _ ?_; repeat (first | exact hHeld.2.2.2.2.2.2.2.2 | refine Below.setCell ?_ (by first | (simp; done) | (simp; omega)) _)))
 clear hK K; try simp only [PU]
 refine tp 10 ?_
 try simp only [PU]
 refine tc 11 fun K hK => ?_
 go_simp
 refine hK.out _ _ ?_ fun hHeld => ?_
 ·(first | exact KP.out _ (bKeep hbq hHeld.2.2.2.2.2.2.2.2 (by have := HA.out.2; omega)) | (refine KP.out _ ?_; repeat (first | exact hHeld.2.2.2.2.2.2.2.2 | refine Below.setCell ?_ (by first | (simp; done) | (simp; omega)) _)))
 clear hK K; try simp only [PU]
 refine wpAnyH_done (by kernel_rfl) ?_ _
 refine hK _ _ ?_
 go_wp2
 refine bodyPost_ret (v := .agg #[.slice A5 k5 k5, .bool g1, .slice A6 k6 k6, .bool g2]) (by simp [results, Tryz.results108, go_sem, q0, q1, q2, q3]) rfl ⟨A5, k5, A6, k6, rfl, ?_, ?_, HA.out.1.trans (hHeld.2.2.2.2.2.2.2.2.mono (by omega))⟩
 ·exact (HO.out.mag hm5.out _ _ _ _).more (by simp)
 ·exact (HO.out.mag hm6.out _ _ _ _).more (by simp)
theorem opF_plus {p q r s : Int} (hp : Dig 490 p) (hq : Dig 490 q) (hr : Dig 490 r) (hs : Dig 490 s) : OpF 99 p q r s (p * s + r * q) (q * s) := by
 intro w A1 A2 A3 A4 L1 L2 L3 L4 h1 h2 h3 h4
 have T1 := times_at h1 h4 (hp.more (by omega)) (hs.more (by omega))
 have T2 := times_at h3 h2 (hr.more (by omega)) (hq.more (by omega))
 have T3 := times_at h2 h4 (hq.more (by omega)) (hs.more (by omega))
 have TP : ∀ (W : World) (A B : Option Addr) (k l : Nat), Mag W W.heap.size A k (p * s).natAbs → Mag W W.heap.size B l (r * q).natAbs → Calls Tryz.prog 80 #[iV A k (p * s), iV B l (r * q)] W fun e w' => ∃ A k, e = .returned (iV A k (p * s + r * q)) ∧ Mag w' w'.heap.size A k (p * s + r * q).natAbs ∧ Below W.heap.size W w' := fun W A B k l h5 h6 =>
  op2_plus ((hp.mul hs).more (by omega)) ((hr.mul hq).more (by omega)) W A B k l h5 h6
 unfold fV
 unfold fV iV at *
 generalize decide (p * s + r * q < 0) = g1 at *
 generalize (p * s + r * q).natAbs = n1 at *
 generalize decide (q * s < 0) = g2 at *
 generalize (q * s).natAbs = n2 at *
 generalize decide (p < 0) = f1 at *
 generalize decide (q < 0) = f2 at *
 generalize decide (r < 0) = f3 at *
 generalize decide (s < 0) = f4 at *
 generalize decide (p * s < 0) = g3 at *
 generalize (p * s).natAbs = n3 at *
 generalize decide (r * q < 0) = g4 at *
 generalize (r * q).natAbs = n4 at *
 have T1 := Aside0.mk T1
 have T2 := Aside0.mk T2
 have T3 := Aside0.mk T3
 have TP := Aside0.mk TP
 clear h1 h2 h3 h4 hp hq hr hs
 go_enter Tryz.func99, Tryz.ntmps99
 go_wp2_with fail
 obtain ⟨wr, hwr⟩ : ∃ wr, (((w.alloc (.cells #[.slice A1 L1 L1, .bool f1, .slice A2 L2 L2, .bool f2] 116)).alloc (.cells #[.slice A3 L3 L3, .bool f3, .slice A4 L4 L4, .bool f4] 116)).alloc (.cells #[.slice none 0 0, .bool false, .slice none 0 0, .bool false] 116)) = wr := ⟨_, rfl⟩
 have HF : FB wr w.heap.size A1 L1 f1 A2 L2 f2 ∧ FB wr (w.heap.size + 1) A3 L3 f3 A4 L4 f4 ∧ FB wr (w.heap.size + 1 + 1) none 0 false none 0 false := by
  subst hwr
  refine ⟨((FB.new w _ _ _ _ _ _).alloc _).alloc _, FB.alloc ?_ _, ?_⟩
  ·have h := FB.new (w.alloc (.cells #[.slice A1 L1 L1, .bool f1, .slice A2 L2 L2, .bool f2] 116)) A3 L3 f3 A4 L4 f4
   simpa using h
  ·have h := FB.new ((w.alloc (.cells #[.slice A1 L1 L1, .bool f1, .slice A2 L2 L2, .bool f2] 116)).alloc (.cells #[.slice A3 L3 L3, .bool f3, .slice A4 L4 L4, .bool f4] 116)) none 0 false none 0 false
   simpa using h
 have HX : Aside0 (wr.cell? ⟨w.heap.size, 0, none⟩ = some (.slice A1 L1 L1) ∧ wr.cell? ⟨w.heap.size, 1, none⟩ = some (.bool f1) ∧ wr.cell? ⟨w.heap.size, 2, none⟩ = some (.slice A2 L2 L2) ∧ wr.cell? ⟨w.heap.size, 3, none⟩ = some (.bool f2) ∧ wr.cell? ⟨w.heap.size + 1, 0, none⟩ = some (.slice A3 L3 L3) ∧ wr.cell? ⟨w.heap.size + 1, 1, none⟩ = some (.bool f3) ∧ wr.cell? ⟨w.heap.size + 1, 2, none⟩ = some (.slice A4 L4 L4) ∧ wr.cell? ⟨w.heap.size + 1, 3, none⟩ = some (.bool f4)) :=
  ⟨HF.1.cell0, HF.1.cell1, HF.1.cell2, HF.1.cell3, HF.2.1.cell0, HF.2.1.cell1, HF.2.1.cell2, HF.2.1.cell3⟩
 have HO := Aside0.mk HF.2.2
 have HA : Aside0 (Below w.heap.size w wr ∧ w.heap.size + 3 ≤ wr.heap.size) := ⟨by subst hwr; repeat (first | exact Below.refl _ _ | apply below_alloc), by subst hwr; simp⟩
 rw [hwr]
 clear hwr HF
 rename_i Q' K hK
 have KP : Aside0 (∀ V, Below (w.heap.size + 2) wr V → (fun V => V.cell? ⟨w.heap.size, 0, none⟩ = some (.slice A1 L1 L1) ∧ V.cell? ⟨w.heap.size, 1, none⟩ = some (.bool f1) ∧ V.cell? ⟨w.heap.size, 2, none⟩ = some (.slice A2 L2 L2) ∧ V.cell? ⟨w.heap.size, 3, none⟩ = some (.bool f2) ∧ V.cell? ⟨w.heap.size + 1, 0, none⟩ = some (.slice A3 L3 L3) ∧ V.cell? ⟨w.heap.size + 1, 1, none⟩ = some (.bool f3) ∧ V.cell? ⟨w.heap.size + 1, 2, none⟩ = some (.slice A4 L4 L4) ∧ V.cell? ⟨w.heap.size + 1, 3, none⟩ = some (.bool f4) ∧ Below (w.heap.size + 2) wr V) V) := ⟨fun V hBB => ⟨keepB hBB (by omega) HX.out.1, keepB hBB (by omega) HX.out.2.1, keepB hBB (by omega) HX.out.2.2.1, keepB hBB (by omega) HX.out.2.2.2.1, keepB hBB (by omega) HX.out.2.2.2.2.1, keepB hBB (by omega) HX.out.2.2.2.2.2.1, keepB hBB (by omega) HX.out.2.2.2.2.2.2.1, keepB hBB (by omega) HX.out.2.2.2.2.2.2.2, hBB⟩⟩
 refine wq KP fun hHeld => ?_
 refine tp 0 ?_
 try simp only [PU]
 refine tp 1 ?_
 try simp only [PU]
 refine tp 2 ?_
 try simp only [PU]
 refine tp 3 ?_
 try simp only [PU]
 refine tp 5 ?_
 try simp only [PU]
 refine tp 6 ?_
 try simp only [PU]
 refine tp 7 ?_
 try simp only [PU]
 refine tp 8 ?_
 try simp only [PU]
 refine tp 11 ?_
 try simp only [PU]
 refine tp 12 ?_
 try simp only [PU]
 refine tp 13 ?_
 try simp only [PU]
 refine tp 14 ?_
 try simp only [PU]
 refine tc 4 fun K hK => ?_
 go_simp
 (go_at_call 85; (with_reducible refine (T1.out _ (HA.out.1.trans (hHeld.2.2.2.2.2.2.2.2.mono (by omega)))).mono ?_); rintro e wm ⟨A5, k5, rfl, hm5, hbq⟩; have HO := Aside0.mk ((HO.out.below (below_drew1 (Below.refl _ _))).below hbq); have hm5 := Aside0.mk hm5)
 refine hK.out _ _ ?_ fun hHeld => ?_
 ·(first | exact KP.out _ (bKeep hbq hHeld.2.2.2.2.2.2.2.2 (by have := HA.out.2; omega)) | (refine KP.out _ ?_; repeat (first | exact hHeld.2.2.2.2.2.2.2.2 | refine Below.setCell ?_ (by first | (simp; done) | (simp; omega)) _)))
 clear hK K; try simp only [PU]
 refine tc 9 fun K hK => ?_
 go_simp
 (go_at_call 85; (with_reducible refine (T2.out _ (HA.out.1.trans (hHeld.2.2.2.2.2.2.2.2.mono (by omega)))).mono ?_); rintro e wm ⟨A6, k6, rfl, hm6, hbq⟩; have HO := Aside0.mk (HO.out.below hbq); have hm6 := Aside0.mk hm6; have hm5 := Aside0.mk (hm5.out.up hbq); have q0 := HO.out.cell0; have q1 := HO.out.cell1; have q2 := HO.out.cell2; have q3 := HO.out.cell3; have q4 := HO.out.fr 0; have q5 := HO.out.fr 1; have q6 := HO.out.fr 2; have q7 := HO.out.fr 3)
 refine hK.out _ _ ?_ fun hHeld => ?_
 ·(first | exact KP.out _ (bKeep hbq hHeld.2.2.2.2.2.2.2.2 (by have := HA.out.2; omega)) | (refine KP.out _ ?_; repeat (first | exact hHeld.2.2.2.2.2.2.2.2 | refine Below.setCell ?_ (by first | (simp; done) | (simp; omega)) _)))
 clear hK K; try simp only [PU]
 refine tc 10 fun K hK => ?_
 go_simp
 (go_at_call 80; (with_reducible refine (TP.out _ _ _ _ _ hm5.out hm6.out).mono ?_); rintro e wm ⟨A7, k7, rfl, hm7, hbq⟩; have HO := Aside0.mk (HO.out.below hbq); have hm7 := Aside0.mk hm7; clear hm5 hm6)
 refine hK.out _ _ ?_ fun hHeld => ?_
 ·(first | exact KP.out _ (bKeep hbq hHeld.2.2.2.2.2.2.2.2 (by have := HA.out.2; omega)) | (refine KP.out _ ?_; repeat (first | exact hHeld.2.2.2.2.2.2.2.2 | refine Below.setCell ?_ (by first | (simp; done) | (simp; omega)) _)))
 clear hK K; try simp only [PU]
 refine tc 15 fun K hK => ?_
 go_simp
 (go_at_call 85; (with_reducible refine (T3.out _ (HA.out.1.trans (hHeld.2.2.2.2.2.2.2.2.mono (by omega)))).mono ?_); rintro e wm ⟨A8, k8, rfl, hm8, hbq⟩; have HO := Aside0.mk (HO.out.below hbq); have hm8 := Aside0.mk hm8; have hm7 := Aside0.mk (hm7.out.up hbq); have q0 := HO.out.cell0; have q1 := HO.out.cell1; have q2 := HO.out.cell2; have q3 := HO.out.cell3; have q4 := HO.out.fr 0; have q5 := HO.out.fr 1; have q6 := HO.out.fr 2; have q7 := HO.out.fr 3)
 refine hK.out _ _ ?_ fun hHeld => ?_
 ·(first | exact KP.out _ (bKeep hbq hHeld.2.2.2.2.2.2.2.2 (by have := HA.out.2; omega)) | (refine KP.out _ ?_; repeat (first | exact hHeld.2.2.2.2.2.2.2.2 | refine Below.setCell ?_ (by first | (simp; done) | (simp; omega)) _)))
 clear hK K; try simp only [PU]
 refine tp 16 ?_
 try simp only [PU]
 refine tc 17 fun K hK => ?_
 go_simp
 refine hK.out _ _ ?_ fun hHeld => ?_
 ·(first | exact KP.out _ (bKeep hbq hHeld.2.2.2.2.2.2.2.2 (by have := HA.out.2; omega)) | (refine KP.out _ ?_; repeat (first | exact hHeld.2.2.2.2.2.2.2.2 | refine Below.setCell ?_ (by first | (simp; done) | (simp; omega)) _)))
 clear hK K; try simp only [PU]
 refine wpAnyH_done (by kernel_rfl) ?_ _
 refine hK _ _ ?_
 go_wp2
 refine bodyPost_ret (v := .agg #[.slice A7 k7 k7, .bool g1, .slice A8 k8 k8, .bool g2]) (by simp [results, Tryz.results99, go_sem, q0, q1, q2, q3]) rfl ⟨A7, k7, A8, k8, rfl, ?_, ?_, HA.out.1.trans (hHeld.2.2.2.2.2.2.2.2.mono (by omega))⟩
 ·exact (HO.out.mag hm7.out _ _ _ _).more (by simp)
 ·exact (HO.out.mag hm8.out _ _ _ _).more (by simp)
theorem opF_minus {p q r s : Int} (hp : Dig 490 p) (hq : Dig 490 q) (hr : Dig 490 r) (hs : Dig 490 s) : OpF 103 p q r s (p * s - r * q) (q * s) := by
 intro w A1 A2 A3 A4 L1 L2 L3 L4 h1 h2 h3 h4
 have TN : ∀ W, Below w.heap.size w W → Calls Tryz.prog 75 #[iV A3 L3 r] W fun e w' => e = .returned (iV A3 L3 (-r)) ∧ Below W.heap.size W w' := fun W hb => (negative_calls (h3.up hb) (Nat.le_refl _)).mono fun e w' h => ⟨h.1, h.2.2⟩
 have TP : ∀ W, Below w.heap.size w W → Calls Tryz.prog 99 #[fV A1 L1 p A2 L2 q, fV A3 L3 (-r) A4 L4 s] W fun e w' => ∃ A k A' k', e = .returned (fV A k (p * s - r * q) A' k' (q * s)) ∧ Mag w' w'.heap.size A k (p * s - r * q).natAbs ∧ Mag w' w'.heap.size A' k' (q * s).natAbs ∧ Below W.heap.size W w' := fun W hb => by
  have h := opF_plus hp hq hr.neg hs W A1 A2 A3 A4 L1 L2 L3 L4 (h1.up hb) (h2.up hb) (by rw [Int.natAbs_neg]; exact h3.up hb) (h4.up hb)
  rwa [Int.neg_mul, ← Int.sub_eq_add_neg] at h
 unfold fV
 unfold fV iV at *
 generalize decide (p * s - r * q < 0) = g1 at *
 generalize (p * s - r * q).natAbs = n1 at *
 generalize decide (q * s < 0) = g2 at *
 generalize (q * s).natAbs = n2 at *
 generalize decide (p < 0) = f1 at *
 generalize decide (q < 0) = f2 at *
 generalize decide (r < 0) = f3 at *
 generalize decide (s < 0) = f4 at *
 generalize decide (-r < 0) = f5 at *
 have TN := Aside0.mk TN
 have TP := Aside0.mk TP
 clear h1 h2 h3 h4 hp hq hr hs
 go_enter Tryz.func103, Tryz.ntmps103
 go_wp2_with fail
 obtain ⟨wr, hwr⟩ : ∃ wr, (((w.alloc (.cells #[.slice A1 L1 L1, .bool f1, .slice A2 L2 L2, .bool f2] 116)).alloc (.cells #[.slice A3 L3 L3, .bool f3, .slice A4 L4 L4, .bool f4] 116)).alloc (.cells #[.slice none 0 0, .bool false, .slice none 0 0, .bool false] 116)) = wr := ⟨_, rfl⟩
 have HF : FB wr w.heap.size A1 L1 f1 A2 L2 f2 ∧ FB wr (w.heap.size + 1) A3 L3 f3 A4 L4 f4 ∧ FB wr (w.heap.size + 1 + 1) none 0 false none 0 false := by
  subst hwr
  refine ⟨((FB.new w _ _ _ _ _ _).alloc _).alloc _, FB.alloc ?_ _, ?_⟩
  ·have h := FB.new (w.alloc (.cells #[.slice A1 L1 L1, .bool f1, .slice A2 L2 L2, .bool f2] 116)) A3 L3 f3 A4 L4 f4
   simpa using h
  ·have h := FB.new ((w.alloc (.cells #[.slice A1 L1 L1, .bool f1, .slice A2 L2 L2, .bool f2] 116)).alloc (.cells #[.slice A3 L3 L3, .bool f3, .slice A4 L4 L4, .bool f4] 116)) none 0 false none 0 false
   simpa using h
 have HX : Aside0 (wr.cell? ⟨w.heap.size, 0, none⟩ = some (.slice A1 L1 L1) ∧ wr.cell? ⟨w.heap.size, 1, none⟩ = some (.bool f1) ∧ wr.cell? ⟨w.heap.size, 2, none⟩ = some (.slice A2 L2 L2) ∧ wr.cell? ⟨w.heap.size, 3, none⟩ = some (.bool f2) ∧ wr.cell? ⟨w.heap.size + 1, 0, none⟩ = some (.slice A3 L3 L3) ∧ wr.cell? ⟨w.heap.size + 1, 1, none⟩ = some (.bool f3) ∧ wr.cell? ⟨w.heap.size + 1, 2, none⟩ = some (.slice A4 L4 L4) ∧ wr.cell? ⟨w.heap.size + 1, 3, none⟩ = some (.bool f4)) :=
  ⟨HF.1.cell0, HF.1.cell1, HF.1.cell2, HF.1.cell3, HF.2.1.cell0, HF.2.1.cell1, HF.2.1.cell2, HF.2.1.cell3⟩
 have HO := Aside0.mk HF.2.2
 have HA : Aside0 (Below w.heap.size w wr ∧ w.heap.size + 3 ≤ wr.heap.size) := ⟨by subst hwr; repeat (first | exact Below.refl _ _ | apply below_alloc), by subst hwr; simp⟩
 rw [hwr]
 clear hwr HF
 rename_i Q' K hK
 have KP : Aside0 (∀ V, Below (w.heap.size + 2) wr V → (fun V => V.cell? ⟨w.heap.size, 0, none⟩ = some (.slice A1 L1 L1) ∧ V.cell? ⟨w.heap.size, 1, none⟩ = some (.bool f1) ∧ V.cell? ⟨w.heap.size, 2, none⟩ = some (.slice A2 L2 L2) ∧ V.cell? ⟨w.heap.size, 3, none⟩ = some (.bool f2) ∧ V.cell? ⟨w.heap.size + 1, 0, none⟩ = some (.slice A3 L3 L3) ∧ V.cell? ⟨w.heap.size + 1, 1, none⟩ = some (.bool f3) ∧ V.cell? ⟨w.heap.size + 1, 2, none⟩ = some (.slice A4 L4 L4) ∧ V.cell? ⟨w.heap.size + 1, 3, none⟩ = some (.bool f4) ∧ Below (w.heap.size + 2) wr V) V) := ⟨fun V hBB => ⟨keepB hBB (by omega) HX.out.1, keepB hBB (by omega) HX.out.2.1, keepB hBB (by omega) HX.out.2.2.1, keepB hBB (by omega) HX.out.2.2.2.1, keepB hBB (by omega) HX.out.2.2.2.2.1, keepB hBB (by omega) HX.out.2.2.2.2.2.1, keepB hBB (by omega) HX.out.2.2.2.2.2.2.1, keepB hBB (by omega) HX.out.2.2.2.2.2.2.2, hBB⟩⟩
 refine wq KP fun hHeld => ?_
 refine tp 0 ?_
 try simp only [PU]
 refine tp 1 ?_
 try simp only [PU]
 refine tp 2 ?_
 try simp only [PU]
 refine tp 4 ?_
 try simp only [PU]
 refine tp 5 ?_
 try simp only [PU]
 refine tc 3 fun K hK => ?_
 go_simp
 (go_at_call 75; (with_reducible refine (TN.out _ (HA.out.1.trans (hHeld.2.2.2.2.2.2.2.2.mono (by omega)))).mono ?_); rintro e wm ⟨rfl, hbq⟩; have HO := Aside0.mk ((HO.out.below (below_drew1 (Below.refl _ _))).below hbq))
 refine hK.out _ _ ?_ fun hHeld => ?_
 ·(first | exact KP.out _ (bKeep hbq hHeld.2.2.2.2.2.2.2.2 (by have := HA.out.2; omega)) | (refine KP.out _ ?_; repeat (first | exact hHeld.2.2.2.2.2.2.2.2 | refine Below.setCell ?_ (by first | (simp; done) | (simp; omega)) _)))
 clear hK K; try simp only [PU]
 refine tp 6 ?_
 try simp only [PU]
 refine tc 7 fun K hK => ?_
 go_simp
 (go_at_call 99; (with_reducible refine (TP.out _ (HA.out.1.trans (hHeld.2.2.2.2.2.2.2.2.mono (by omega)))).mono ?_); rintro e wm ⟨A5, k5, A6, k6, rfl, hm5, hm6, hbq⟩; have HO := Aside0.mk (HO.out.below hbq); have hm5 := Aside0.mk hm5; have hm6 := Aside0.mk hm6; have q0 := HO.out.cell0; have q1 := HO.out.cell1; have q2 := HO.out.cell2; have q3 := HO.out.cell3; have q4 := HO.out.fr 0; have q5 := HO.out.fr 1; have q6 := HO.out.fr 2; have q7 := HO.out.fr 3)
 refine hK.out _ _ ?_ fun hHeld => ?_
 ·(first | exact KP.out _ (bKeep hbq hHeld.2.2.2.2.2.2.2.2 (by have := HA.out.2; omega)) | (refine KP.out _ ?_; repeat (first | exact hHeld.2.2.2.2.2.2.2.2 | refine Below.setCell ?_ (by first | (simp; done) | (simp; omega)) _)))
 clear hK K; try simp only [PU]
 refine tc 8 fun K hK => ?_
 go_simp
 refine hK.out _ _ ?_ fun hHeld => ?_
 ·(first | exact KP.out _ (bKeep hbq hHeld.2.2.2.2.2.2.2.2 (by have := HA.out.2; omega)) | (refine KP.out _ ?_; repeat (first | exact hHeld.2.2.2.2.2.2.2.2 | refine Below.setCell ?_ (by first | (simp; done) | (simp; omega)) _)))
 clear hK K; try simp only [PU]
 refine wpAnyH_done (by kernel_rfl) ?_ _
 refine hK _ _ ?_
 go_wp2
 refine bodyPost_ret (v := .agg #[.slice A5 k5 k5, .bool g1, .slice A6 k6 k6, .bool g2]) (by simp [results, Tryz.results103, go_sem, q0, q1, q2, q3]) rfl ⟨A5, k5, A6, k6, rfl, ?_, ?_, HA.out.1.trans (hHeld.2.2.2.2.2.2.2.2.mono (by omega))⟩
 ·exact (HO.out.mag hm5.out _ _ _ _).more (by simp)
 ·exact (HO.out.mag hm6.out _ _ _ _).more (by simp)
/-- The divisor that brings a fraction into lowest terms. -/
def lowD (p q : Int) : Int := if q < 0 then -(Int.gcd p q : Int) else Int.gcd p q
theorem lowD_ne {p q : Int} (hq : q ≠ 0) : lowD p q ≠ 0 := by
 have : Int.gcd p q ≠ 0 := fun h => hq ((Int.gcd_eq_zero_iff.1 h).2)
 unfold lowD
 split <;> omega
theorem lowD_abs (p q : Int) : (lowD p q).natAbs = Nat.gcd p.natAbs q.natAbs := by
 unfold lowD
 split
 ·rw [Int.natAbs_neg]; rfl
 ·rfl
theorem lowD_neg {p q : Int} (hq : q ≠ 0) : decide (lowD p q < 0) = decide (q < 0) := by
 have : Int.gcd p q ≠ 0 := fun h => hq ((Int.gcd_eq_zero_iff.1 h).2)
 unfold lowD
 split
 ·rename_i h; rw [decide_eq_decide]; omega
 ·rename_i h; rw [decide_eq_decide]; omega
theorem Dig.gcd {k : Nat} {p q : Int} (hq : Dig k q) (h0 : q ≠ 0) : Dig k (lowD p q) := by
 unfold Dig at *
 rw [lowD_abs]
 exact Nat.lt_of_le_of_lt (Nat.gcd_le_right _ (by omega)) hq
/-- What lies in memory while lowest runs. -/
structure LO (w : World) (A1 : Option Addr) (L1 : Nat) (f1 : Bool) (m1 : Nat) (A2 : Option Addr) (L2 : Nat) (f2 : Bool) (m2 : Nat) (V : World) : Prop where
 x : FB V w.heap.size A1 L1 f1 A2 L2 f2
 o : FB V (w.heap.size + 1) none 0 false none 0 false
 m1 : Mag V V.heap.size A1 L1 m1
 m2 : Mag V V.heap.size A2 L2 m2
 bl : Below w.heap.size w V
/-- And with the divisor. -/
structure LD (w : World) (A1 : Option Addr) (L1 : Nat) (f1 : Bool) (m1 : Nat) (A2 : Option Addr) (L2 : Nat) (f2 : Bool) (m2 : Nat) (bd : Nat) (Ag : Option Addr) (kg g : Nat) (V : World) : Prop extends LO w A1 L1 f1 m1 A2 L2 f2 m2 V where
 d : IB V bd Ag kg f2
 md : Mag V V.heap.size Ag kg g
 n : w.heap.size + 2 ≤ bd
section
variable {w V Y : World} {A1 : Option Addr} {L1 : Nat} {f1 : Bool} {m1 : Nat} {A2 : Option Addr} {L2 : Nat} {f2 : Bool} {m2 bd : Nat} {Ag : Option Addr} {kg g : Nat}
theorem LO.below (h : LO w A1 L1 f1 m1 A2 L2 f2 m2 V) (hb : Below V.heap.size V Y) : LO w A1 L1 f1 m1 A2 L2 f2 m2 Y :=
 ⟨h.x.below hb, h.o.below hb, h.m1.up hb, h.m2.up hb, h.bl.trans (hb.mono h.bl.size)⟩
theorem LD.below (h : LD w A1 L1 f1 m1 A2 L2 f2 m2 bd Ag kg g V) (hb : Below V.heap.size V Y) : LD w A1 L1 f1 m1 A2 L2 f2 m2 bd Ag kg g Y :=
 ⟨h.toLO.below hb, h.d.below hb, h.md.up hb, h.n⟩
theorem LO.put (h : LO w A1 L1 f1 m1 A2 L2 f2 m2 V) (hd : IB V bd none 0 false) (hm : Mag V V.heap.size Ag kg g) (hn : w.heap.size + 2 ≤ bd) :
 LD w A1 L1 f1 m1 A2 L2 f2 m2 bd Ag kg g ((V.setCell ⟨bd, 0, none⟩ (.slice Ag kg kg)).setCell ⟨bd, 1, none⟩ (.bool f2)) :=
 ⟨⟨(h.x.other (by omega) 0 _).other (by omega) 1 _, (h.o.other (by omega) 0 _).other (by omega) 1 _, (hd.mag h.m1 _ _).more (by simp), (hd.mag h.m2 _ _).more (by simp), (h.bl.setCell (p := ⟨bd, 0, none⟩) (by show w.heap.size ≤ bd; omega) _).setCell (p := ⟨bd, 1, none⟩) (by show w.heap.size ≤ bd; omega) _⟩, hd.put _ _ _, (hd.mag hm _ _).more (by simp), hn⟩
end
theorem alloc_at (W : World) : ∃ Y bd, W.alloc (.cells #[.slice none 0 0, .bool false] 89) = Y ∧ W.heap.size = bd ∧ IB Y bd none 0 false ∧ Below W.heap.size W Y ∧ W.heap.size ≤ bd :=
 ⟨_, _, rfl, rfl, IB.new W _ _ _, below_alloc (Below.refl _ _) _, Nat.le_refl _⟩
theorem lowest_calls {w : World} {A1 A2 : Option Addr} {L1 L2 : Nat} {p q : Int} (h1 : Mag w w.heap.size A1 L1 p.natAbs) (h2 : Mag w w.heap.size A2 L2 q.natAbs) (hp : Dig 1000 p) (hq : Dig 1000 q) (h0 : q ≠ 0) :
 Calls Tryz.prog 122 #[fV A1 L1 p A2 L2 q] w fun e w' => ∃ A k A' k', e = .returned (fV A k (p / lowD p q) A' k' (q / lowD p q)) ∧ Mag w' w'.heap.size A k (p / lowD p q).natAbs ∧ Mag w' w'.heap.size A' k' (q / lowD p q).natAbs ∧ Below w.heap.size w w' := by
 have l1 := hp.len h1 112 (by omega)
 have l2 := hq.len h2 112 (by omega)
 have HC : ∀ W, Below w.heap.size w W → Calls Tryz.prog 96 #[.agg #[.slice A1 L1 L1], .agg #[.slice A2 L2 L2]] W fun e w' => ∃ A k, e = .returned (.agg #[.slice A k k]) ∧ Mag w' w'.heap.size A k (lowD p q).natAbs ∧ Below W.heap.size W w' := fun W hb => by
  rw [lowD_abs]
  exact common_calls (h1.up hb) (h2.up hb) (Nat.le_refl _) (by omega) (by omega)
 have HV1 : ∀ (W : World) (bd : Nat) (Ag : Option Addr) (kg : Nat), LD w A1 L1 (decide (p < 0)) p.natAbs A2 L2 (decide (q < 0)) q.natAbs bd Ag kg (lowD p q).natAbs W → Calls Tryz.prog 90 #[.agg #[.slice A1 L1 L1, .bool (decide (p < 0))], .agg #[.slice Ag kg kg, .bool (decide (q < 0))]] W fun e w' => ∃ A k A' k', e = .returned (.tuple #[.agg #[.slice A k k, .bool (decide (p / lowD p q < 0))], .agg #[.slice A' k' k', .bool (decide (p % lowD p q < 0))]]) ∧ Mag w' w'.heap.size A k (p / lowD p q).natAbs ∧ Mag w' w'.heap.size A' k' (p % lowD p q).natAbs ∧ Below W.heap.size W w' := fun W bd Ag kg h => by
  have hl := (Dig.gcd (p := p) hq h0).len h.md 112 (by omega)
  have hh := over_calls h.m1 h.md (Nat.le_refl _) (lowD_ne h0) (by omega) (by omega)
  unfold iV at hh
  rwa [lowD_neg h0] at hh
 have HV2 : ∀ (W : World) (bd : Nat) (Ag : Option Addr) (kg : Nat), LD w A1 L1 (decide (p < 0)) p.natAbs A2 L2 (decide (q < 0)) q.natAbs bd Ag kg (lowD p q).natAbs W → Calls Tryz.prog 90 #[.agg #[.slice A2 L2 L2, .bool (decide (q < 0))], .agg #[.slice Ag kg kg, .bool (decide (q < 0))]] W fun e w' => ∃ A k A' k', e = .returned (.tuple #[.agg #[.slice A k k, .bool (decide (q / lowD p q < 0))], .agg #[.slice A' k' k', .bool (decide (q % lowD p q < 0))]]) ∧ Mag w' w'.heap.size A k (q / lowD p q).natAbs ∧ Mag w' w'.heap.size A' k' (q % lowD p q).natAbs ∧ Below W.heap.size W w' := fun W bd Ag kg h => by
  have hl := (Dig.gcd (p := p) hq h0).len h.md 112 (by omega)
  have hh := over_calls h.m2 h.md (Nat.le_refl _) (lowD_ne h0) (by omega) (by omega)
  unfold iV at hh
  rwa [lowD_neg h0] at hh
 unfold fV
 have HM : Aside0 (∀ W, Below w.heap.size w W → Mag W W.heap.size A1 L1 p.natAbs ∧ Mag W W.heap.size A2 L2 q.natAbs) := ⟨fun W hb => ⟨h1.up hb, h2.up hb⟩⟩
 clear h1 h2 l1 l2 hp hq h0
 generalize decide (p / lowD p q < 0) = r1 at *
 generalize (p / lowD p q).natAbs = n1 at *
 generalize decide (q / lowD p q < 0) = r2 at *
 generalize (q / lowD p q).natAbs = n2 at *
 generalize decide (p % lowD p q < 0) = r3 at *
 generalize (p % lowD p q).natAbs = n3 at *
 generalize decide (q % lowD p q < 0) = r4 at *
 generalize (q % lowD p q).natAbs = n4 at *
 generalize (lowD p q).natAbs = g at *
 generalize decide (p < 0) = f1 at *
 generalize p.natAbs = m1 at *
 generalize decide (q < 0) = f2 at *
 generalize q.natAbs = m2 at *
 have HC := Aside0.mk HC
 have HV1 : Aside0 (∀ (W : World) {bd : Nat} {Ag : Option Addr} {kg : Nat}, LD w A1 L1 f1 m1 A2 L2 f2 m2 bd Ag kg g W → Calls Tryz.prog 90 #[.agg #[.slice A1 L1 L1, .bool f1], .agg #[.slice Ag kg kg, .bool f2]] W fun e w' => ∃ A k A' k', e = .returned (.tuple #[.agg #[.slice A k k, .bool r1], .agg #[.slice A' k' k', .bool r3]]) ∧ Mag w' w'.heap.size A k n1 ∧ Mag w' w'.heap.size A' k' n3 ∧ Below W.heap.size W w') := ⟨fun W {bd Ag kg} => HV1 W bd Ag kg⟩
 have HV2 : Aside0 (∀ (W : World) {bd : Nat} {Ag : Option Addr} {kg : Nat}, LD w A1 L1 f1 m1 A2 L2 f2 m2 bd Ag kg g W → Calls Tryz.prog 90 #[.agg #[.slice A2 L2 L2, .bool f2], .agg #[.slice Ag kg kg, .bool f2]] W fun e w' => ∃ A k A' k', e = .returned (.tuple #[.agg #[.slice A k k, .bool r2], .agg #[.slice A' k' k', .bool r4]]) ∧ Mag w' w'.heap.size A k n2 ∧ Mag w' w'.heap.size A' k' n4 ∧ Below W.heap.size W w') := ⟨fun W {bd Ag kg} => HV2 W bd Ag kg⟩
 go_enter Tryz.func122, Tryz.ntmps122
 go_wp2_with fail
 obtain ⟨wr, hwr⟩ : ∃ wr, ((w.alloc (.cells #[.slice A1 L1 L1, .bool f1, .slice A2 L2 L2, .bool f2] 116)).alloc (.cells #[.slice none 0 0, .bool false, .slice none 0 0, .bool false] 116)) = wr := ⟨_, rfl⟩
 have HO : Aside0 (LO w A1 L1 f1 m1 A2 L2 f2 m2 wr) := ⟨by
  have hb : Below w.heap.size w wr := by subst hwr; repeat (first | exact Below.refl _ _ | apply below_alloc)
  refine ⟨?_, ?_, (HM.out _ hb).1, (HM.out _ hb).2, hb⟩
  ·subst hwr; exact (FB.new w _ _ _ _ _ _).alloc _
  ·subst hwr
   have h := FB.new (w.alloc (.cells #[.slice A1 L1 L1, .bool f1, .slice A2 L2 L2, .bool f2] 116)) none 0 false none 0 false
   simpa using h⟩
 have HX : Aside0 (wr.cell? ⟨w.heap.size, 0, none⟩ = some (.slice A1 L1 L1) ∧ wr.cell? ⟨w.heap.size, 1, none⟩ = some (.bool f1) ∧ wr.cell? ⟨w.heap.size, 2, none⟩ = some (.slice A2 L2 L2) ∧ wr.cell? ⟨w.heap.size, 3, none⟩ = some (.bool f2)) := ⟨HO.out.x.cell0, HO.out.x.cell1, HO.out.x.cell2, HO.out.x.cell3⟩
 have HA : Aside0 (Below w.heap.size w wr ∧ w.heap.size + 2 ≤ wr.heap.size) := ⟨HO.out.bl, by subst hwr; simp⟩
 rw [hwr]
 clear hwr HM
 rename_i Q' K hK
 refine wp_mid (fun T0 T V => ∃ Ag kg bd, T = ((((((((((((T0.setIfInBounds 8 (.pointer (some ⟨w.heap.size, 0, none⟩))).setIfInBounds 9 (.pointer (some ⟨w.heap.size, 0, none⟩))).setIfInBounds 10 (.agg #[.slice A1 L1 L1])).setIfInBounds 11 (.pointer (some ⟨w.heap.size, 2, none⟩))).setIfInBounds 12 (.pointer (some ⟨w.heap.size, 2, none⟩))).setIfInBounds 13 (.agg #[.slice A2 L2 L2])).setIfInBounds 14 (.agg #[.slice Ag kg kg])).setIfInBounds 15 (.pointer (some ⟨w.heap.size, 2, none⟩))).setIfInBounds 16 (.pointer (some ⟨w.heap.size, 3, none⟩))).setIfInBounds 17 (.bool f2)).setIfInBounds 18 (.agg #[.slice Ag kg kg, .bool f2])).setIfInBounds 3 (.pointer (some ⟨bd, 0, none⟩))) ∧ LD w A1 L1 f1 m1 A2 L2 f2 m2 bd Ag kg g V) ?_ ?_
 ·have KP : Aside0 (∀ V, Below (w.heap.size + 2) wr V → (fun V => V.cell? ⟨w.heap.size, 0, none⟩ = some (.slice A1 L1 L1) ∧ V.cell? ⟨w.heap.size, 1, none⟩ = some (.bool f1) ∧ V.cell? ⟨w.heap.size, 2, none⟩ = some (.slice A2 L2 L2) ∧ V.cell? ⟨w.heap.size, 3, none⟩ = some (.bool f2) ∧ Below (w.heap.size + 2) wr V) V) := ⟨fun V hBB => ⟨keepB hBB (by omega) HX.out.1, keepB hBB (by omega) HX.out.2.1, keepB hBB (by omega) HX.out.2.2.1, keepB hBB (by omega) HX.out.2.2.2, hBB⟩⟩
  refine wq KP fun hHeld => ?_
  obtain ⟨cur, hcur⟩ : ∃ cur, wr.drew = cur := ⟨_, rfl⟩
  rw [hcur] at hHeld ⊢
  have HO : Aside0 (LO w A1 L1 f1 m1 A2 L2 f2 m2 cur) := ⟨by subst hcur; exact HO.out.below (below_drew1 (Below.refl _ _))⟩
  have hcs : w.heap.size + 2 ≤ cur.heap.size := by have h1 := HA.out.2; have h2 := hHeld.2.2.2.2.size; omega
  clear hcur
  refine tp 0 ?_
  try simp only [PU]
  refine tp 1 ?_
  try simp only [PU]
  refine tp 2 ?_
  try simp only [PU]
  refine tp 3 ?_
  try simp only [PU]
  refine tp 4 ?_
  try simp only [PU]
  refine tp 5 ?_
  try simp only [PU]
  refine tp 7 ?_
  try simp only [PU]
  refine tp 8 ?_
  try simp only [PU]
  refine tp 9 ?_
  try simp only [PU]
  refine wpAnyH_ready (rs := [6, 11]) (by kernel_rfl) (by simp) ?_
  refine AllReadyH.cons rfl (fun K hK => ?_) (AllReadyH.cons rfl (fun K hK => ?_) (AllReadyH.nil))
  ·go_simp
   (go_at_call 96; (with_reducible refine (HC.out _ HO.out.bl).mono ?_); rintro e cur2 ⟨Ag, kg, rfl, hmg, hbq⟩; have HO := Aside0.mk (HO.out.below hbq); have hmg := Aside0.mk hmg; (try have HD := Aside0.mk (HD.out.below hbq)); (try have d0 := HD.out.cell0); (try have d1 := HD.out.cell1); (try have g0 := HD.out.fr 0); (try have g1 := HD.out.fr 1); have hcs := Nat.le_trans hcs hbq.size)
   refine hK.out _ _ ?_ fun hHeld => ?_
   ·(first | exact KP.out _ (bKeep hbq hHeld.2.2.2.2 (by have := HA.out.2; omega)) | (refine KP.out _ ?_; repeat (first | exact hHeld.2.2.2.2 | refine Below.setCell ?_ (by first | (simp; done) | (simp; omega)) _)))
   clear hK K; try simp only [PU]
   refine tp 10 ?_
   try simp only [PU]
   refine tc 11 fun K hK => ?_
   go_simp
   (obtain ⟨cur3, bd, hY, hbd, hIB, hbq, hle⟩ := alloc_at _; rw [hY, hbd]; have HO := Aside0.mk (HO.out.below hbq); have HD := Aside0.mk hIB; (try have hmg := Aside0.mk (hmg.out.up hbq)); have hbd2 : w.heap.size + 2 ≤ bd := Nat.le_trans hcs hle; have hcs := Nat.le_trans hcs hbq.size; (try have d0 := HD.out.cell0); (try have d1 := HD.out.cell1); (try have g0 := HD.out.fr 0); (try have g1 := HD.out.fr 1); clear hY hbd hIB hle)
   refine hK.out _ _ ?_ fun hHeld => ?_
   ·(first | exact KP.out _ (bKeep hbq hHeld.2.2.2.2 (by have := HA.out.2; omega)) | (refine KP.out _ ?_; repeat (first | exact hHeld.2.2.2.2 | refine Below.setCell ?_ (by first | (simp; done) | (simp; omega)) _)))
   clear hK K; try simp only [PU]
   refine tc 12 fun K hK => ?_
   go_simp
   (have HLD := Aside0.mk (HO.out.put HD.out hmg.out hbd2))
   refine hK.out _ _ ?_ fun hHeld => ?_
   ·(first | exact KP.out _ (bKeep hbq hHeld.2.2.2.2 (by have := HA.out.2; omega)) | (refine KP.out _ ?_; repeat (first | exact hHeld.2.2.2.2 | refine Below.setCell ?_ (by first | (simp; done) | (simp; omega)) _)))
   clear hK K; try simp only [PU]
   refine wpAnyH_done (by kernel_rfl) ?_ _
   exact ⟨rfl, Ag, kg, bd, by simp only [List.setIfInBounds_toArray, List.set_cons_zero, List.set_cons_succ], HLD.out⟩
  ·go_simp
   (obtain ⟨cur3, bd, hY, hbd, hIB, hbq, hle⟩ := alloc_at _; rw [hY, hbd]; have HO := Aside0.mk (HO.out.below hbq); have HD := Aside0.mk hIB; (try have hmg := Aside0.mk (hmg.out.up hbq)); have hbd2 : w.heap.size + 2 ≤ bd := Nat.le_trans hcs hle; have hcs := Nat.le_trans hcs hbq.size; (try have d0 := HD.out.cell0); (try have d1 := HD.out.cell1); (try have g0 := HD.out.fr 0); (try have g1 := HD.out.fr 1); clear hY hbd hIB hle)
   refine hK.out _ _ ?_ fun hHeld => ?_
   ·(first | exact KP.out _ (bKeep hbq hHeld.2.2.2.2 (by have := HA.out.2; omega)) | (refine KP.out _ ?_; repeat (first | exact hHeld.2.2.2.2 | refine Below.setCell ?_ (by first | (simp; done) | (simp; omega)) _)))
   clear hK K; try simp only [PU]
   refine tc 6 fun K hK => ?_
   go_simp
   (go_at_call 96; (with_reducible refine (HC.out _ HO.out.bl).mono ?_); rintro e cur2 ⟨Ag, kg, rfl, hmg, hbq⟩; have HO := Aside0.mk (HO.out.below hbq); have hmg := Aside0.mk hmg; (try have HD := Aside0.mk (HD.out.below hbq)); (try have d0 := HD.out.cell0); (try have d1 := HD.out.cell1); (try have g0 := HD.out.fr 0); (try have g1 := HD.out.fr 1); have hcs := Nat.le_trans hcs hbq.size)
   refine hK.out _ _ ?_ fun hHeld => ?_
   ·(first | exact KP.out _ (bKeep hbq hHeld.2.2.2.2 (by have := HA.out.2; omega)) | (refine KP.out _ ?_; repeat (first | exact hHeld.2.2.2.2 | refine Below.setCell ?_ (by first | (simp; done) | (simp; omega)) _)))
   clear hK K; try simp only [PU]
   refine tp 10 ?_
   try simp only [PU]
   refine tc 12 fun K hK => ?_
   go_simp
   (have HLD := Aside0.mk (HO.out.put HD.out hmg.out hbd2))
   refine hK.out _ _ ?_ fun hHeld => ?_
   ·(first | exact KP.out _ (bKeep hbq hHeld.2.2.2.2 (by have := HA.out.2; omega)) | (refine KP.out _ ?_; repeat (first | exact hHeld.2.2.2.2 | refine Below.setCell ?_ (by first | (simp; done) | (simp; omega)) _)))
   clear hK K; try simp only [PU]
   refine wpAnyH_done (by kernel_rfl) ?_ _
   exact ⟨rfl, Ag, kg, bd, by simp only [List.setIfInBounds_toArray, List.set_cons_zero, List.set_cons_succ], HLD.out⟩
 intro T V hM
 dsimp only at hM ⊢
 obtain ⟨Ag, kg, bd, hT, hL⟩ := hM
 simp only [List.setIfInBounds_toArray, List.set_cons_zero, List.set_cons_succ] at hT
 subst hT
 have HL := Aside0.mk hL
 clear hL HO HX HA HC
 refine hK _ _ ?_
 clear hK
 have x0 := HL.out.x.cell0
 have x1 := HL.out.x.cell1
 have x2 := HL.out.x.cell2
 have x3 := HL.out.x.cell3
 have d0 := HL.out.d.cell0
 have d1 := HL.out.d.cell1
 go_wp2_with (first
  | (go_at_call 90; (with_reducible refine (HV1.out _ (HL.out.below (by repeat (first | exact Below.refl _ _ | apply below_alloc)))).mono ?_); rintro e wo ⟨A5, k5, A6, k6, rfl, hmq, hmr, hbo⟩; have HL := Aside0.mk ((HL.out.below (by repeat (first | exact Below.refl _ _ | apply below_alloc))).below hbo); have HM5 := Aside0.mk hmq; clear HV1; clear hmq hmr; have x0 := HL.out.x.cell0; have x1 := HL.out.x.cell1; have x2 := HL.out.x.cell2; have x3 := HL.out.x.cell3; have d0 := HL.out.d.cell0; have d1 := HL.out.d.cell1; have o0 := HL.out.o.cell0; have o1 := HL.out.o.cell1; have o2 := HL.out.o.cell2; have o3 := HL.out.o.cell3; have p0 := HL.out.o.fr 0; have p1 := HL.out.o.fr 1; have p2 := HL.out.o.fr 2; have p3 := HL.out.o.fr 3; have hxl := HL.out.x.lt; have hdl := HL.out.d.lt; have hol := HL.out.o.lt)
  | (go_at_call 90; (with_reducible refine (HV2.out _ (HL.out.below (by repeat (first | exact Below.refl _ _ | apply below_alloc)))).mono ?_); rintro e wu ⟨A7, k7, A8, k8, rfl, hmq, hmr, hbo⟩; have HL := Aside0.mk ((HL.out.below (by repeat (first | exact Below.refl _ _ | apply below_alloc))).below hbo); have HM7 := Aside0.mk hmq; (have HP : Aside0 (IB wu wo.heap.size A5 k5 r1 ∧ Mag wu wu.heap.size A5 k5 n1) := ⟨IB.below ((IB.new wo _ _ _).alloc _) hbo, (HM5.out.up (by repeat (first | exact Below.refl _ _ | apply below_alloc))).up hbo⟩); have pp0 := HP.out.1.cell0; have pp1 := HP.out.1.cell1; have ppl := HP.out.1.lt; clear hmq hmr; have x0 := HL.out.x.cell0; have x1 := HL.out.x.cell1; have x2 := HL.out.x.cell2; have x3 := HL.out.x.cell3; have d0 := HL.out.d.cell0; have d1 := HL.out.d.cell1; have o0 := HL.out.o.cell0; have o1 := HL.out.o.cell1; have o2 := HL.out.o.cell2; have o3 := HL.out.o.cell3; have p0 := HL.out.o.fr 0; have p1 := HL.out.o.fr 1; have p2 := HL.out.o.fr 2; have p3 := HL.out.o.fr 3; have hxl := HL.out.x.lt; have hdl := HL.out.d.lt; have hol := HL.out.o.lt))
 obtain ⟨Z, hZ⟩ : ∃ Z, ((((((wu.setCell ⟨w.heap.size + 1, 0, none⟩ (.slice A5 k5 k5)).setCell ⟨w.heap.size + 1, 1, none⟩ (.bool r1)).setCell ⟨w.heap.size + 1, 2, none⟩ (.slice A7 k7 k7)).setCell ⟨w.heap.size + 1, 3, none⟩ (.bool r2)).alloc (.cells #[.slice A7 k7 k7, .bool r2] 89)).alloc (.cells #[.slice A8 k8 k8, .bool r4] 89)) = Z := ⟨_, rfl⟩
 have HZ : Aside0 (FB Z (w.heap.size + 1) A5 k5 r1 A7 k7 r2 ∧ Mag Z Z.heap.size A5 k5 n1 ∧ Mag Z Z.heap.size A7 k7 n2 ∧ Below w.heap.size w Z) := ⟨by
  subst hZ
  have hb : Below w.heap.size w ((((wu.setCell ⟨w.heap.size + 1, 0, none⟩ (.slice A5 k5 k5)).setCell ⟨w.heap.size + 1, 1, none⟩ (.bool r1)).setCell ⟨w.heap.size + 1, 2, none⟩ (.slice A7 k7 k7)).setCell ⟨w.heap.size + 1, 3, none⟩ (.bool r2)) := below_put4 HL.out.bl (by omega) _ _ _ _
  exact ⟨((HL.out.o.put _ _ _ _ _ _).alloc _).alloc _, ((HL.out.o.mag HP.out.2 _ _ _ _).more (by simp)).up (by repeat (first | exact Below.refl _ _ | apply below_alloc)), ((HL.out.o.mag HM7.out _ _ _ _).more (by simp)).up (by repeat (first | exact Below.refl _ _ | apply below_alloc)), hb.trans (((by repeat (first | exact Below.refl _ _ | apply below_alloc)) : Below (((((wu.setCell ⟨w.heap.size + 1, 0, none⟩ (.slice A5 k5 k5)).setCell ⟨w.heap.size + 1, 1, none⟩ (.bool r1)).setCell ⟨w.heap.size + 1, 2, none⟩ (.slice A7 k7 k7)).setCell ⟨w.heap.size + 1, 3, none⟩ (.bool r2))).heap.size ((((wu.setCell ⟨w.heap.size + 1, 0, none⟩ (.slice A5 k5 k5)).setCell ⟨w.heap.size + 1, 1, none⟩ (.bool r1)).setCell ⟨w.heap.size + 1, 2, none⟩ (.slice A7 k7 k7)).setCell ⟨w.heap.size + 1, 3, none⟩ (.bool r2)) _).mono hb.size)⟩⟩
 rw [hZ]
 clear hZ x0 x1 x2 x3 d0 d1 o0 o1 o2 o3 p0 p1 p2 p3 hxl hdl hol pp0 pp1 ppl
 have z0 := HZ.out.1.cell0
 have z1 := HZ.out.1.cell1
 have z2 := HZ.out.1.cell2
 have z3 := HZ.out.1.cell3
 refine bodyPost_ret (v := .agg #[.slice A5 k5 k5, .bool r1, .slice A7 k7 k7, .bool r2]) (by simp [results, Tryz.results122, go_sem, z0, z1, z2, z3]) rfl ⟨A5, k5, A7, k7, rfl, HZ.out.2.1, HZ.out.2.2.1, HZ.out.2.2.2⟩
/-- Numerator and denominator of a fraction's string. -/
def numR (s : ByteArray) : Int := intI (cutA 47 s)
def denR (s : ByteArray) : Int := intI (cutB 47 s)
/-- What CheckReal says. -/
def checkR (s : ByteArray) : Int :=
 if cutF 47 s = false ∨ hasB 47 (cutB 47 s) = true then 1
 else if firstI [checkI (cutA 47 s), checkI (cutB 47 s)] ≠ 0 then firstI [checkI (cutA 47 s), checkI (cutB 47 s)]
 else if denR s ≤ 0 ∨ Int.gcd (numR s) (denR s) ≠ 1 then 1 else 0
theorem checkR_ok {s : ByteArray} (h : checkR s = 0) : checkI (cutA 47 s) = 0 ∧ checkI (cutB 47 s) = 0 ∧ 0 < denR s ∧ Int.gcd (numR s) (denR s) = 1 := by
 unfold checkR at h
 split at h
 ·omega
 ·split at h
  ·rename_i h1; exact absurd h h1
  ·rename_i h1
   have h1 := Classical.not_not.1 h1
   obtain ⟨a, b⟩ := biE_zero (a := cutA 47 s) (b := cutB 47 s) h1
   split at h
   ·omega
   ·rename_i h2
    exact ⟨a, b, by omega, Classical.not_not.1 (fun h3 => h2 (.inr h3))⟩
theorem checkR_calls (s : ByteArray) (hs : s.size ≤ 90000) (w : World) (hE : EN w) :
 Calls Tryz.prog 51 #[.string s] w fun e w' => e = .returned (.int .i64 (checkR s)) ∧ Below w.heap.size w w' := by
 obtain ⟨hz1, hz2⟩ := cut_size 47 s
 have hC : ∀ W, Below w.heap.size w W → Calls Tryz.prog 118 #[.string s, .string ⟨#[47]⟩] W fun e w' => e = .returned (.tuple #[.string (cutA 47 s), .string (cutB 47 s), .bool (cutF 47 s)]) ∧ Below W.heap.size W w' := fun W hb => cut1_calls 47 s hs W (hE.below hb)
 have hH := contains_calls 47 (cutB 47 s)
 have HK1 := Aside0.mk (check_calls (cutA 47 s) (by omega))
 have HK2 := Aside0.mk (check_calls (cutB 47 s) (by omega))
 have HB := Aside0.mk (Below.refl w.heap.size w)
 unfold checkR
 by_cases h1 : cutF 47 s = true
 ·by_cases h2 : hasB 47 (cutB 47 s) = true
  ·rw [if_pos (.inr h2)]
   rw [h2] at hH
   rw [h1] at hC
   clear h1 h2
   generalize cutA 47 s = a at *
   generalize cutB 47 s = b at *
   have HC := Aside0.mk hC
   have HH := Aside0.mk hH
   clear hC hH hE
   go_enter Tryz.func51, Tryz.ntmps51
   go_wp2_with (first | (go_at_call 118; ((with_reducible refine (HC.out _ bl).mono ?_); rintro e w1 ⟨rfl, hb1⟩; obtain ⟨hc1, hf1⟩ := bcell hb1; have nB1 : Aside0 (Below w.heap.size w w1) := sb hb1; clear HB; have HB := nB1; clear nB1)) | (go_at_call 119; (with_reducible refine (HH.out _).mono ?_); rintro e w' ⟨rfl, rfl⟩))
   go_ret
   exact ⟨rfl, bl⟩
  ·rw [if_neg (by rintro (h | h); rw [h1] at h; cases h; exact h2 h)]
   have h2' : hasB 47 (cutB 47 s) = false := by simpa using h2
   rw [h2'] at hH
   rw [h1] at hC
   clear h1 h2 h2'
   by_cases h3 : firstI [checkI (cutA 47 s), checkI (cutB 47 s)] = 0
   ·rw [if_neg (fun h => h h3)]
    obtain ⟨c1, c2⟩ := biE_zero h3
    have hP1 := parseI_calls (cutA 47 s) (by omega) c1
    have hP2 := parseI_calls (cutB 47 s) (by omega) c2
    have d1 := intI_dig c1
    have d2 := intI_dig c2
    unfold numR denR
    rw [c1] at HK1
    rw [c2] at HK2
    clear h3 c1 c2
    generalize cutA 47 s = a at *
    generalize cutB 47 s = b at *
    generalize intI a = p at *
    generalize intI b = q at *
    have HC := Aside0.mk hC
    have HH := Aside0.mk hH
    have HF := F00
    clear hC hH hE
    by_cases h4 : q < 0
    ·rw [if_pos (.inl (by omega))]
     have e1 : decide (q < 0) = true := decide_eq_true h4
     rw [e1] at hP2
     have HP1 := Aside0.mk hP1
     have HP2 := Aside0.mk hP2
     clear hP1 hP2 h4 e1 d1 d2
     generalize decide (p < 0) = f at *
     generalize p.natAbs = m at *
     generalize q.natAbs = n at *
     go_enter Tryz.func51, Tryz.ntmps51
     go_wp2_with (first | (go_at_call 118; ((with_reducible refine (HC.out _ bl).mono ?_); rintro e w1 ⟨rfl, hb1⟩; obtain ⟨hc1, hf1⟩ := bcell hb1; have nB1 : Aside0 (Below w.heap.size w w1) := sb hb1; clear HB; have HB := nB1; clear nB1)) | (go_at_call 119; (with_reducible refine (HH.out _).mono ?_); rintro e w' ⟨rfl, rfl⟩) | (go_at_call 12; ((with_reducible refine (HK1.out _).mono ?_); rintro e w2 ⟨rfl, hb2⟩; obtain ⟨hc2, hf2⟩ := bcell hb2; have nB2 : Aside0 (Below w.heap.size w w2) := sb hb2; clear HB; have HB := nB2; clear nB2; clear HK1)) | (go_at_call 12; ((with_reducible refine (HK2.out _).mono ?_); rintro e w3 ⟨rfl, hb3⟩; obtain ⟨hc3, hf3⟩ := bcell hb3; have nB3 : Aside0 (Below w.heap.size w w3) := sb hb3; clear HB; have HB := nB3; clear nB3)) | (go_at_call 88; (with_reducible refine (first2_ret _ _ 0 HF.out _ _ (by simp) _).mono ?_); rintro e w' ⟨rfl, rfl⟩) | (go_at_call 74; ((with_reducible refine (HP1.out _).mono ?_); rintro e w4 ⟨A1, k1, rfl, hm1, hb4⟩; obtain ⟨hc4, hf4⟩ := bcell hb4; have nB4 : Aside0 (Below w.heap.size w w4) := sb hb4; clear HB; have HB := nB4; clear nB4; have HM1 := Aside0.mk hm1; clear hm1 HP1)) | (go_at_call 74; ((with_reducible refine (HP2.out _).mono ?_); rintro e w5 ⟨A2, k2, rfl, hm2, hb5⟩; obtain ⟨hc5, hf5⟩ := bcell hb5; have nB5 : Aside0 (Below w.heap.size w w5) := sb hb5; clear HB; have HB := nB5; clear nB5; have HM2 := Aside0.mk hm2; clear hm2; have HM1 := Aside0.mk (HM1.out.up hb5))) | (go_at_call 65; (with_reducible refine (when_calls _ _ _).mono ?_); rintro e w' ⟨rfl, rfl⟩))
     go_ret
     exact ⟨rfl, bl⟩
    ·have e1 : decide (q < 0) = false := decide_eq_false h4
     rw [e1] at hP2
     by_cases h5 : q = 0
     ·rw [if_pos (.inl (by omega))]
      have HZ : Aside0 (∀ (W : World) (A : Option Addr) (L : Nat), Mag W W.heap.size A L q.natAbs → Calls Tryz.prog 89 #[.agg #[.slice A L L]] W fun e w' => e = .returned (.bool true) ∧ Below W.heap.size W w') := ⟨fun W A L hm => isZero_any hm (Nat.le_refl _) (Below.refl _ _) (decide_eq_true (by omega))⟩
      have HP1 := Aside0.mk hP1
      have HP2 := Aside0.mk hP2
      clear hP1 hP2 h4 e1 h5 d1 d2
      generalize decide (p < 0) = f at *
      generalize p.natAbs = m at *
      generalize q.natAbs = n at *
      go_enter Tryz.func51, Tryz.ntmps51
      go_wp2_with (first | (go_at_call 118; ((with_reducible refine (HC.out _ bl).mono ?_); rintro e w1 ⟨rfl, hb1⟩; obtain ⟨hc1, hf1⟩ := bcell hb1; have nB1 : Aside0 (Below w.heap.size w w1) := sb hb1; clear HB; have HB := nB1; clear nB1)) | (go_at_call 119; (with_reducible refine (HH.out _).mono ?_); rintro e w' ⟨rfl, rfl⟩) | (go_at_call 12; ((with_reducible refine (HK1.out _).mono ?_); rintro e w2 ⟨rfl, hb2⟩; obtain ⟨hc2, hf2⟩ := bcell hb2; have nB2 : Aside0 (Below w.heap.size w w2) := sb hb2; clear HB; have HB := nB2; clear nB2; clear HK1)) | (go_at_call 12; ((with_reducible refine (HK2.out _).mono ?_); rintro e w3 ⟨rfl, hb3⟩; obtain ⟨hc3, hf3⟩ := bcell hb3; have nB3 : Aside0 (Below w.heap.size w w3) := sb hb3; clear HB; have HB := nB3; clear nB3)) | (go_at_call 88; (with_reducible refine (first2_ret _ _ 0 HF.out _ _ (by simp) _).mono ?_); rintro e w' ⟨rfl, rfl⟩) | (go_at_call 74; ((with_reducible refine (HP1.out _).mono ?_); rintro e w4 ⟨A1, k1, rfl, hm1, hb4⟩; obtain ⟨hc4, hf4⟩ := bcell hb4; have nB4 : Aside0 (Below w.heap.size w w4) := sb hb4; clear HB; have HB := nB4; clear nB4; have HM1 := Aside0.mk hm1; clear hm1 HP1)) | (go_at_call 74; ((with_reducible refine (HP2.out _).mono ?_); rintro e w5 ⟨A2, k2, rfl, hm2, hb5⟩; obtain ⟨hc5, hf5⟩ := bcell hb5; have nB5 : Aside0 (Below w.heap.size w w5) := sb hb5; clear HB; have HB := nB5; clear nB5; have HM2 := Aside0.mk hm2; clear hm2; have HM1 := Aside0.mk (HM1.out.up hb5))) | (go_at_call 65; (with_reducible refine (when_calls _ _ _).mono ?_); rintro e w' ⟨rfl, rfl⟩) | (go_at_call 89; ((with_reducible refine (HZ.out _ _ _ (HM2.out.up (by repeat (first | exact Below.refl _ _ | apply below_alloc)))).mono ?_); rintro e w6 ⟨rfl, hb6⟩; obtain ⟨hc6, hf6⟩ := bcell hb6; have nB6 : Aside0 (Below w.heap.size w w6) := sb hb6; clear HB; have HB := nB6; clear nB6)))
      go_ret
      exact ⟨rfl, bl⟩
     ·have HZ : Aside0 (∀ (W : World) (A : Option Addr) (L : Nat), Mag W W.heap.size A L q.natAbs → Calls Tryz.prog 89 #[.agg #[.slice A L L]] W fun e w' => e = .returned (.bool false) ∧ Below W.heap.size W w') := ⟨fun W A L hm => isZero_any hm (Nat.le_refl _) (Below.refl _ _) (decide_eq_false (by omega))⟩
      have HG : Aside0 (∀ (W : World) (A1 A2 : Option Addr) (L1 L2 : Nat), Mag W W.heap.size A1 L1 p.natAbs → Mag W W.heap.size A2 L2 q.natAbs → Calls Tryz.prog 96 #[.agg #[.slice A1 L1 L1], .agg #[.slice A2 L2 L2]] W fun e w' => ∃ A k, e = .returned (.agg #[.slice A k k]) ∧ Mag w' w'.heap.size A k (Int.gcd p q) ∧ Below W.heap.size W w') := ⟨fun W A1 A2 L1 L2 m1 m2 => by
       have l1 := d1.len m1 14 (by omega)
       have l2 := d2.len m2 14 (by omega)
       exact common_calls m1 m2 (Nat.le_refl _) (by omega) (by omega)⟩
      obtain ⟨g, hg⟩ : ∃ g, Int.gcd p q = g := ⟨_, rfl⟩
      rw [hg] at HG ⊢
      obtain ⟨r, hr⟩ : ∃ r, decide (g = 1) = r := ⟨_, rfl⟩
      have HO : Aside0 (∀ (W : World) (A : Option Addr) (L : Nat), Mag W W.heap.size A L g → Calls Tryz.prog 120 #[.agg #[.slice A L L]] W fun e w' => e = .returned (.bool r) ∧ Below W.heap.size W w') := ⟨fun W A L hm => by rw [← hr]; exact isOne_calls hm (Nat.le_refl _)⟩
      have hR : (if q ≤ 0 ∨ g ≠ 1 then (1 : Int) else 0) = if (!r) = true then 1 else 0 := by
       rw [← hr]
       by_cases h6 : g = 1
       ·rw [if_neg (by omega), if_neg (by simp [h6])]
       ·rw [if_pos (.inr h6), if_pos (by simp [h6])]
      rw [hR]
      have HP1 := Aside0.mk hP1
      have HP2 := Aside0.mk hP2
      clear hP1 hP2 h4 e1 h5 hg hr hR d1 d2
      generalize decide (p < 0) = f at *
      generalize p.natAbs = m at *
      generalize q.natAbs = n at *
      cases r
      all_goals
       go_enter Tryz.func51, Tryz.ntmps51
       go_wp2_with (first | (go_at_call 118; ((with_reducible refine (HC.out _ bl).mono ?_); rintro e w1 ⟨rfl, hb1⟩; obtain ⟨hc1, hf1⟩ := bcell hb1; have nB1 : Aside0 (Below w.heap.size w w1) := sb hb1; clear HB; have HB := nB1; clear nB1)) | (go_at_call 119; (with_reducible refine (HH.out _).mono ?_); rintro e w' ⟨rfl, rfl⟩) | (go_at_call 12; ((with_reducible refine (HK1.out _).mono ?_); rintro e w2 ⟨rfl, hb2⟩; obtain ⟨hc2, hf2⟩ := bcell hb2; have nB2 : Aside0 (Below w.heap.size w w2) := sb hb2; clear HB; have HB := nB2; clear nB2; clear HK1)) | (go_at_call 12; ((with_reducible refine (HK2.out _).mono ?_); rintro e w3 ⟨rfl, hb3⟩; obtain ⟨hc3, hf3⟩ := bcell hb3; have nB3 : Aside0 (Below w.heap.size w w3) := sb hb3; clear HB; have HB := nB3; clear nB3)) | (go_at_call 88; (with_reducible refine (first2_ret _ _ 0 HF.out _ _ (by simp) _).mono ?_); rintro e w' ⟨rfl, rfl⟩) | (go_at_call 74; ((with_reducible refine (HP1.out _).mono ?_); rintro e w4 ⟨A1, k1, rfl, hm1, hb4⟩; obtain ⟨hc4, hf4⟩ := bcell hb4; have nB4 : Aside0 (Below w.heap.size w w4) := sb hb4; clear HB; have HB := nB4; clear nB4; have HM1 := Aside0.mk hm1; clear hm1 HP1)) | (go_at_call 74; ((with_reducible refine (HP2.out _).mono ?_); rintro e w5 ⟨A2, k2, rfl, hm2, hb5⟩; obtain ⟨hc5, hf5⟩ := bcell hb5; have nB5 : Aside0 (Below w.heap.size w w5) := sb hb5; clear HB; have HB := nB5; clear nB5; have HM2 := Aside0.mk hm2; clear hm2; have HM1 := Aside0.mk (HM1.out.up hb5))) | (go_at_call 65; (with_reducible refine (when_calls _ _ _).mono ?_); rintro e w' ⟨rfl, rfl⟩) | (go_at_call 89; ((with_reducible refine (HZ.out _ _ _ (HM2.out.up (by repeat (first | exact Below.refl _ _ | apply below_alloc)))).mono ?_); rintro e w6 ⟨rfl, hb6⟩; obtain ⟨hc6, hf6⟩ := bcell hb6; have z6_0 : (w5.heap.size) < w6.heap.size := zb hb6; have nB6 : Aside0 (Below w.heap.size w w6) := sb hb6; clear HB; have HB := nB6; clear nB6; have HM2 := Aside0.mk ((HM2.out.up (by repeat (first | exact Below.refl _ _ | apply below_alloc))).up hb6); have HM1 := Aside0.mk ((HM1.out.up (by repeat (first | exact Below.refl _ _ | apply below_alloc))).up hb6))) | (go_at_call 96; ((with_reducible refine (HG.out _ _ _ _ _ HM1.out HM2.out).mono ?_); rintro e w7 ⟨Ag, kg, rfl, hmg, hb7⟩; obtain ⟨hc7, hf7⟩ := bcell hb7; have nB7 : Aside0 (Below w.heap.size w w7) := sb hb7; clear HB; have HB := nB7; clear nB7; have HMG := Aside0.mk hmg; clear hmg)) | (go_at_call 120; ((with_reducible refine (HO.out _ _ _ HMG.out).mono ?_); rintro e w8 ⟨rfl, hb8⟩; obtain ⟨hc8, hf8⟩ := bcell hb8; have nB8 : Aside0 (Below w.heap.size w w8) := sb hb8; clear HB; have HB := nB8; clear nB8)))
       go_ret
       exact ⟨rfl, bl⟩
   ·rw [if_pos h3]
    obtain ⟨E, hEE⟩ : ∃ E, firstI [checkI (cutA 47 s), checkI (cutB 47 s)] = E := ⟨_, rfl⟩
    rw [hEE] at h3 ⊢
    have HF := Aside0.mk hEE
    clear hEE
    generalize checkI (cutA 47 s) = e1 at *
    generalize checkI (cutB 47 s) = e2 at *
    generalize cutA 47 s = a at *
    generalize cutB 47 s = b at *
    have hbe : (E != 0) = true := by simp [h3]
    have HC := Aside0.mk hC
    have HH := Aside0.mk hH
    clear hC hH hE
    go_enter Tryz.func51, Tryz.ntmps51
    go_wp2_with (first | (go_at_call 118; ((with_reducible refine (HC.out _ bl).mono ?_); rintro e w1 ⟨rfl, hb1⟩; obtain ⟨hc1, hf1⟩ := bcell hb1; have nB1 : Aside0 (Below w.heap.size w w1) := sb hb1; clear HB; have HB := nB1; clear nB1)) | (go_at_call 119; (with_reducible refine (HH.out _).mono ?_); rintro e w' ⟨rfl, rfl⟩) | (go_at_call 12; ((with_reducible refine (HK1.out _).mono ?_); rintro e w2 ⟨rfl, hb2⟩; obtain ⟨hc2, hf2⟩ := bcell hb2; have nB2 : Aside0 (Below w.heap.size w w2) := sb hb2; clear HB; have HB := nB2; clear nB2; clear HK1)) | (go_at_call 12; ((with_reducible refine (HK2.out _).mono ?_); rintro e w3 ⟨rfl, hb3⟩; obtain ⟨hc3, hf3⟩ := bcell hb3; have nB3 : Aside0 (Below w.heap.size w w3) := sb hb3; clear HB; have HB := nB3; clear nB3)) | (go_at_call 88; (with_reducible refine (first2_ret _ _ E HF.out _ _ (by simp) _).mono ?_); rintro e w' ⟨rfl, rfl⟩))
    go_ret
    exact ⟨rfl, bl⟩
 ·have h1' : cutF 47 s = false := by simpa using h1
  rw [if_pos (.inl h1')]
  rw [h1'] at hC
  clear h1 h1' hH
  generalize cutA 47 s = a at *
  generalize cutB 47 s = b at *
  have HC := Aside0.mk hC
  clear hC hE
  go_enter Tryz.func51, Tryz.ntmps51
  go_wp2_with (first | (go_at_call 118; ((with_reducible refine (HC.out _ bl).mono ?_); rintro e w1 ⟨rfl, hb1⟩; obtain ⟨hc1, hf1⟩ := bcell hb1; have nB1 : Aside0 (Below w.heap.size w w1) := sb hb1; clear HB; have HB := nB1; clear nB1)))
  go_ret
  exact ⟨rfl, bl⟩
/-- The string and the error of a fraction that is brought into lowest terms. -/
def rsS (y z : Int) : ByteArray := ftS (y / lowD y z) (z / lowD y z)
def rsE (y z : Int) : Int := ftE (y / lowD y z) (z / lowD y z)
/-- The error of two fractions. -/
def reE (a b : ByteArray) : Int := firstI [checkR a, checkR b]
theorem reE_zero {a b : ByteArray} (h : reE a b = 0) : checkR a = 0 ∧ checkR b = 0 := by
 unfold reE firstI firstI firstI at h
 split at h
 ·rename_i h1
  split at h
  ·rename_i h2; exact ⟨h1, h2⟩
  ·rename_i h2; exact absurd h h2
 ·rename_i h1; exact absurd h h1
theorem real_dig {s : ByteArray} (h : checkR s = 0) : Dig 120 (numR s) ∧ Dig 120 (denR s) ∧ 0 < denR s := by
 obtain ⟨h1, h2, h3, h4⟩ := checkR_ok h
 exact ⟨intI_dig h1, intI_dig h2, h3⟩
theorem realN_calls (s : ByteArray) (hs : s.size ≤ 90000) (h : checkR s = 0) (w : World) (hE : EN w) :
 Calls Tryz.prog 107 #[.string s] w fun e w' => ∃ A1 k1 A2 k2, e = .returned (fV A1 k1 (numR s) A2 k2 (denR s)) ∧ Mag w' w'.heap.size A1 k1 (numR s).natAbs ∧ Mag w' w'.heap.size A2 k2 (denR s).natAbs ∧ Below w.heap.size w w' := by
 obtain ⟨h1, h2, h3, h4⟩ := checkR_ok h
 exact real_calls s hs h1 h2 w hE
theorem checkR_at {s : ByteArray} (hs : s.size ≤ 90000) {w : World} (hE : EN w) : ∀ W, Below w.heap.size w W → Calls Tryz.prog 51 #[.string s] W fun e w' => e = .returned (.int .i64 (checkR s)) ∧ Below W.heap.size W w' :=
 fun W hb => checkR_calls s hs W (hE.below hb)
theorem real_at {s : ByteArray} (hs : s.size ≤ 90000) (h : checkR s = 0) {w : World} (hE : EN w) : ∀ W, Below w.heap.size w W → Calls Tryz.prog 107 #[.string s] W fun e w' => ∃ A1 k1 A2 k2, e = .returned (fV A1 k1 (numR s) A2 k2 (denR s)) ∧ Mag w' w'.heap.size A1 k1 (numR s).natAbs ∧ Mag w' w'.heap.size A2 k2 (denR s).natAbs ∧ Below W.heap.size W w' :=
 fun W hb => realN_calls s hs h W (hE.below hb)
theorem reals_bad (a b : ByteArray) (ha : a.size ≤ 90000) (hb : b.size ≤ 90000) (h : reE a b ≠ 0) (F : FuncId) (w : World) (hE : EN w) :
 Calls Tryz.prog 98 #[.string a, .string b, .func (.func F) #[] #[]] w fun e w' => e = .returned (.tuple #[.string ⟨#[]⟩, .int .i64 (reE a b)]) ∧ Below w.heap.size w w' := by
 have hK1 := checkR_at ha hE
 have hK2 := checkR_at hb hE
 obtain ⟨E, hEE⟩ : ∃ E, reE a b = E := ⟨_, rfl⟩
 rw [hEE] at h ⊢
 unfold reE at hEE
 generalize checkR a = e1 at *
 generalize checkR b = e2 at *
 have HF := Aside0.mk hEE
 have HK1 := Aside0.mk hK1
 have HK2 := Aside0.mk hK2
 have HB := Aside0.mk (Below.refl w.heap.size w)
 have hbe : (E != 0) = true := by simp [h]
 clear hEE hK1 hK2 hE
 go_enter Tryz.func98, Tryz.ntmps98
 go_wp2_with (first | (go_at_call 51; ((with_reducible refine (HK1.out _ bl).mono ?_); rintro e w2 ⟨rfl, hb2⟩; obtain ⟨hc2, hf2⟩ := bcell hb2; have nB2 : Aside0 (Below w.heap.size w w2) := sb hb2; clear HB; have HB := nB2; clear nB2; clear HK1)) | (go_at_call 51; ((with_reducible refine (HK2.out _ bl).mono ?_); rintro e w3 ⟨rfl, hb3⟩; obtain ⟨hc3, hf3⟩ := bcell hb3; have nB3 : Aside0 (Below w.heap.size w w3) := sb hb3; clear HB; have HB := nB3; clear nB3)) | (go_at_call 88; (with_reducible refine (first2_ret _ _ E HF.out _ _ (by simp) _).mono ?_); rintro e w' ⟨rfl, rfl⟩))
 go_ret2
 exact ⟨rfl, bl⟩
theorem reals_ok (a b : ByteArray) (ha : a.size ≤ 90000) (hb : b.size ≤ 90000) (h : reE a b = 0) {F : FuncId} {y z : Int} (hF : OpF F (numR a) (denR a) (numR b) (denR b) y z) (hy : Dig 1000 y) (hz : Dig 1000 z) (hz0 : z ≠ 0) (eF : Enters Tryz.prog F) (w : World) (hE : EN w) :
 Calls Tryz.prog 98 #[.string a, .string b, .func (.func F) #[] #[]] w fun e w' => e = .returned (.tuple #[.string (rsS y z), .int .i64 (rsE y z)]) ∧ Below w.heap.size w w' := by
 obtain ⟨c1, c2⟩ := reE_zero h
 have hK1 := checkR_at ha hE
 have hK2 := checkR_at hb hE
 have hR1 := real_at ha c1 hE
 have hR2 := real_at hb c2 hE
 rw [c1] at hK1
 rw [c2] at hK2
 have hL : ∀ (W : World) (A1 A2 : Option Addr) (L1 L2 : Nat), Mag W W.heap.size A1 L1 y.natAbs → Mag W W.heap.size A2 L2 z.natAbs → Calls Tryz.prog 122 #[fV A1 L1 y A2 L2 z] W fun e w' => ∃ A k A' k', e = .returned (fV A k (y / lowD y z) A' k' (z / lowD y z)) ∧ Mag w' w'.heap.size A k (y / lowD y z).natAbs ∧ Mag w' w'.heap.size A' k' (z / lowD y z).natAbs ∧ Below W.heap.size W w' := fun W A1 A2 L1 L2 m1 m2 => lowest_calls m1 m2 hy hz hz0
 have hT : ∀ (W : World) (A1 A2 : Option Addr) (L1 L2 : Nat), Below w.heap.size w W → Mag W W.heap.size A1 L1 (y / lowD y z).natAbs → Mag W W.heap.size A2 L2 (z / lowD y z).natAbs → Calls Tryz.prog 123 #[fV A1 L1 (y / lowD y z) A2 L2 (z / lowD y z)] W fun e w' => e = .returned (.tuple #[.string (rsS y z), .int .i64 (rsE y z)]) ∧ Below W.heap.size W w' := fun W A1 A2 L1 L2 hb m1 m2 => ftext_calls m1 m2 (Nat.le_refl _) (hE.tens.below hb)
 have HF' := hF
 unfold OpF at HF'
 have eg : ∀ (args : Array Value) (w : World), (callFunc F args).run Tryz.prog w = .ok (.enter F args) w := eF
 clear hF eF c1 c2 hE hy hz hz0
 generalize rsS y z = S at *
 generalize rsE y z = R at *
 unfold fV at *
 generalize decide (y / lowD y z < 0) = g3 at *
 generalize (y / lowD y z).natAbs = n3 at *
 generalize decide (z / lowD y z < 0) = g4 at *
 generalize (z / lowD y z).natAbs = n4 at *
 generalize decide (y < 0) = g1 at *
 generalize y.natAbs = n1 at *
 generalize decide (z < 0) = g2 at *
 generalize z.natAbs = n2 at *
 generalize decide (numR a < 0) = f1 at *
 generalize (numR a).natAbs = m1 at *
 generalize decide (denR a < 0) = f2 at *
 generalize (denR a).natAbs = m2 at *
 generalize decide (numR b < 0) = f3 at *
 generalize (numR b).natAbs = m3 at *
 generalize decide (denR b < 0) = f4 at *
 generalize (denR b).natAbs = m4 at *
 have HK1 := Aside0.mk hK1
 have HK2 := Aside0.mk hK2
 have HR1 := Aside0.mk hR1
 have HR2 := Aside0.mk hR2
 have HL := Aside0.mk hL
 have HT := Aside0.mk hT
 have HFF := Aside0.mk HF'
 have HF := F00
 have HB := Aside0.mk (Below.refl w.heap.size w)
 clear hK1 hK2 hR1 hR2 hL hT HF' h
 go_enter Tryz.func98, Tryz.ntmps98
 go_wp2_with (first | (go_at_call 51; ((with_reducible refine (HK1.out _ bl).mono ?_); rintro e w2 ⟨rfl, hb2⟩; obtain ⟨hc2, hf2⟩ := bcell hb2; have nB2 : Aside0 (Below w.heap.size w w2) := sb hb2; clear HB; have HB := nB2; clear nB2; clear HK1)) | (go_at_call 51; ((with_reducible refine (HK2.out _ bl).mono ?_); rintro e w3 ⟨rfl, hb3⟩; obtain ⟨hc3, hf3⟩ := bcell hb3; have nB3 : Aside0 (Below w.heap.size w w3) := sb hb3; clear HB; have HB := nB3; clear nB3)) | (go_at_call 88; (with_reducible refine (first2_ret _ _ 0 HF.out _ _ (by simp) _).mono ?_); rintro e w' ⟨rfl, rfl⟩) | (go_at_call 107; ((with_reducible refine (HR1.out _ bl).mono ?_); rintro e w4 ⟨A1, k1, A2, k2, rfl, hm1, hm2, hb4⟩; obtain ⟨hc4, hf4⟩ := bcell hb4; have nB4 : Aside0 (Below w.heap.size w w4) := sb hb4; clear HB; have HB := nB4; clear nB4; have HM1 := Aside0.mk hm1; have HM2 := Aside0.mk hm2; clear hm1 hm2 HR1)) | (go_at_call 107; ((with_reducible refine (HR2.out _ bl).mono ?_); rintro e w5 ⟨A3, k3, A4, k4, rfl, hm3, hm4, hb5⟩; obtain ⟨hc5, hf5⟩ := bcell hb5; have nB5 : Aside0 (Below w.heap.size w w5) := sb hb5; clear HB; have HB := nB5; clear nB5; have HM3 := Aside0.mk hm3; have HM4 := Aside0.mk hm4; have HM1 := Aside0.mk (HM1.out.up hb5); have HM2 := Aside0.mk (HM2.out.up hb5); clear hm3 hm4)) | (go_at_fn F; ((with_reducible refine (HFF.out _ _ _ _ _ _ _ _ _ HM1.out HM2.out HM3.out HM4.out).mono ?_); rintro e w6 ⟨A5, k5, A6, k6, rfl, hm5, hm6, hb6⟩; have nB6 : Aside0 (Below w.heap.size w w6) := ⟨below_step bl hb6⟩; clear HB; have HB := nB6; clear nB6; have HM5 := Aside0.mk hm5; have HM6 := Aside0.mk hm6; clear hm5 hm6)) | (go_at_call 122; ((with_reducible refine (HL.out _ _ _ _ _ HM5.out HM6.out).mono ?_); rintro e w7 ⟨A7, k7, A8, k8, rfl, hm7, hm8, hb7⟩; obtain ⟨hc7, hf7⟩ := bcell hb7; have nB7 : Aside0 (Below w.heap.size w w7) := sb hb7; clear HB; have HB := nB7; clear nB7; have HM7 := Aside0.mk hm7; have HM8 := Aside0.mk hm8; clear hm7 hm8)) | (go_at_call 123; ((with_reducible refine (HT.out _ _ _ _ _ bl HM7.out HM8.out).mono ?_); rintro e w8 ⟨rfl, hb8⟩; obtain ⟨hc8, hf8⟩ := bcell hb8; have nB8 : Aside0 (Below w.heap.size w w8) := sb hb8; clear HB; have HB := nB8; clear nB8)))
 go_ret2
 exact ⟨rfl, bl⟩
/-- What an operation on two fractions answers; 'of' gives numerator and denominator. -/
def reS (of : Int → Int → Int → Int → Int × Int) (a b : ByteArray) : ByteArray := if reE a b = 0 then rsS (of (numR a) (denR a) (numR b) (denR b)).1 (of (numR a) (denR a) (numR b) (denR b)).2 else ⟨#[]⟩
def reR (of : Int → Int → Int → Int → Int × Int) (a b : ByteArray) : Int := if reE a b = 0 then rsE (of (numR a) (denR a) (numR b) (denR b)).1 (of (numR a) (denR a) (numR b) (denR b)).2 else reE a b
def ofAdd (p q r s : Int) : Int × Int := (p * s + r * q, q * s)
def ofSub (p q r s : Int) : Int × Int := (p * s - r * q, q * s)
def ofMul (p q r s : Int) : Int × Int := (p * r, q * s)
theorem reals_calls (a b : ByteArray) (ha : a.size ≤ 90000) (hb : b.size ≤ 90000) {F : FuncId} {of : Int → Int → Int → Int → Int × Int}
 (hF : ∀ p q r s, Dig 120 p → Dig 120 q → Dig 120 r → Dig 120 s → 0 < q → 0 < s → OpF F p q r s (of p q r s).1 (of p q r s).2 ∧ Dig 1000 (of p q r s).1 ∧ Dig 1000 (of p q r s).2 ∧ (of p q r s).2 ≠ 0) (eF : Enters Tryz.prog F) (w : World) (hE : EN w) :
 Calls Tryz.prog 98 #[.string a, .string b, .func (.func F) #[] #[]] w fun e w' => e = .returned (.tuple #[.string (reS of a b), .int .i64 (reR of a b)]) ∧ Below w.heap.size w w' := by
 unfold reS reR
 by_cases h : reE a b = 0
 ·rw [if_pos h, if_pos h]
  obtain ⟨h1, h2⟩ := reE_zero h
  obtain ⟨a1, a2, a3⟩ := real_dig h1
  obtain ⟨b1, b2, b3⟩ := real_dig h2
  obtain ⟨c1, c2, c3, c4⟩ := hF _ _ _ _ a1 a2 b1 b2 a3 b3
  exact reals_ok a b ha hb h c1 c2 c3 c4 eF w hE
 ·rw [if_neg h, if_neg h]
  exact reals_bad a b ha hb h F w hE
theorem mul_ne {a b : Int} (ha : 0 < a) (hb : 0 < b) : a * b ≠ 0 := by have := Int.mul_pos ha hb; omega
theorem law_add (p q r s : Int) (hp : Dig 120 p) (hq : Dig 120 q) (hr : Dig 120 r) (hs : Dig 120 s) (h1 : 0 < q) (h2 : 0 < s) : OpF 99 p q r s (ofAdd p q r s).1 (ofAdd p q r s).2 ∧ Dig 1000 (ofAdd p q r s).1 ∧ Dig 1000 (ofAdd p q r s).2 ∧ (ofAdd p q r s).2 ≠ 0 :=
 ⟨opF_plus (hp.more (by omega)) (hq.more (by omega)) (hr.more (by omega)) (hs.more (by omega)), (hp.mul hs).add (hr.mul hq) 1000 (by omega) (by omega), (hq.mul hs).more (by omega), mul_ne h1 h2⟩
theorem law_sub (p q r s : Int) (hp : Dig 120 p) (hq : Dig 120 q) (hr : Dig 120 r) (hs : Dig 120 s) (h1 : 0 < q) (h2 : 0 < s) : OpF 103 p q r s (ofSub p q r s).1 (ofSub p q r s).2 ∧ Dig 1000 (ofSub p q r s).1 ∧ Dig 1000 (ofSub p q r s).2 ∧ (ofSub p q r s).2 ≠ 0 :=
 ⟨opF_minus (hp.more (by omega)) (hq.more (by omega)) (hr.more (by omega)) (hs.more (by omega)), (hp.mul hs).sub (hr.mul hq) 1000 (by omega) (by omega), (hq.mul hs).more (by omega), mul_ne h1 h2⟩
theorem law_mul (p q r s : Int) (hp : Dig 120 p) (hq : Dig 120 q) (hr : Dig 120 r) (hs : Dig 120 s) (h1 : 0 < q) (h2 : 0 < s) : OpF 105 p q r s (ofMul p q r s).1 (ofMul p q r s).2 ∧ Dig 1000 (ofMul p q r s).1 ∧ Dig 1000 (ofMul p q r s).2 ∧ (ofMul p q r s).2 ≠ 0 :=
 ⟨opF_mul (hp.more (by omega)) (hq.more (by omega)) (hr.more (by omega)) (hs.more (by omega)), (hp.mul hr).more (by omega), (hq.mul hs).more (by omega), mul_ne h1 h2⟩
theorem addReal_calls (a b : ByteArray) (ha : a.size ≤ 90000) (hb : b.size ≤ 90000) (w : World) (hE : EN w) :
 Calls Tryz.prog 35 #[.string a, .string b] w fun e w' => e = .returned (.tuple #[.string (reS ofAdd a b), .int .i64 (reR ofAdd a b)]) ∧ Below w.heap.size w w' := by
 have H := Aside0.mk (reals_calls a b ha hb law_add (enters_of Tryz.func99 (by kernel_rfl) rfl) w hE)
 generalize reS ofAdd a b = S at *
 generalize reR ofAdd a b = R at *
 clear hE
 go_enter Tryz.func35, Tryz.ntmps35
 go_wp2_with (go_at_call 98; (with_reducible refine H.out.mono ?_); rintro e w1 ⟨rfl, hb1⟩)
 go_ret2
 exact ⟨rfl, hb1⟩
theorem subReal_calls (a b : ByteArray) (ha : a.size ≤ 90000) (hb : b.size ≤ 90000) (w : World) (hE : EN w) :
 Calls Tryz.prog 37 #[.string a, .string b] w fun e w' => e = .returned (.tuple #[.string (reS ofSub a b), .int .i64 (reR ofSub a b)]) ∧ Below w.heap.size w w' := by
 have H := Aside0.mk (reals_calls a b ha hb law_sub (enters_of Tryz.func103 (by kernel_rfl) rfl) w hE)
 generalize reS ofSub a b = S at *
 generalize reR ofSub a b = R at *
 clear hE
 go_enter Tryz.func37, Tryz.ntmps37
 go_wp2_with (go_at_call 98; (with_reducible refine H.out.mono ?_); rintro e w1 ⟨rfl, hb1⟩)
 go_ret2
 exact ⟨rfl, hb1⟩
theorem mulReal_calls (a b : ByteArray) (ha : a.size ≤ 90000) (hb : b.size ≤ 90000) (w : World) (hE : EN w) :
 Calls Tryz.prog 39 #[.string a, .string b] w fun e w' => e = .returned (.tuple #[.string (reS ofMul a b), .int .i64 (reR ofMul a b)]) ∧ Below w.heap.size w w' := by
 have H := Aside0.mk (reals_calls a b ha hb law_mul (enters_of Tryz.func105 (by kernel_rfl) rfl) w hE)
 generalize reS ofMul a b = S at *
 generalize reR ofMul a b = R at *
 clear hE
 go_enter Tryz.func39, Tryz.ntmps39
 go_wp2_with (go_at_call 98; (with_reducible refine H.out.mono ?_); rintro e w1 ⟨rfl, hb1⟩)
 go_ret2
 exact ⟨rfl, hb1⟩
/-- What DivReal answers. -/
def drE (a b : ByteArray) : Int := if reE a b = 0 then (if numR b = 0 then 30 else 0) else reE a b
def drS (a b : ByteArray) : ByteArray := if drE a b = 0 then rsS (numR a * denR b) (denR a * numR b) else ⟨#[]⟩
def drR (a b : ByteArray) : Int := if drE a b = 0 then rsE (numR a * denR b) (denR a * numR b) else drE a b
theorem divReal_calls (a b : ByteArray) (ha : a.size ≤ 90000) (hb : b.size ≤ 90000) (w : World) (hE : EN w) :
 Calls Tryz.prog 41 #[.string a, .string b] w fun e w' => e = .returned (.tuple #[.string (drS a b), .int .i64 (drR a b)]) ∧ Below w.heap.size w w' := by
 have hK1 := checkR_at ha hE
 have hK2 := checkR_at hb hE
 have HB := Aside0.mk (Below.refl w.heap.size w)
 unfold drS drR
 have hf1 : ∀ (A1 A2 : Option Addr) (k1 k2 : Nat) (f1 f2 : Bool) (w : World), (Instr.field 116 (.agg #[.slice A1 k1 k1, .bool f1, .slice A2 k2 k2, .bool f2]) 0).run Tryz.prog w = .ok (.agg #[.slice A1 k1 k1, .bool f1]) w := fun _ _ _ _ _ _ _ => by kernel_rfl
 have hf2 : ∀ (A : Option Addr) (k : Nat) (f : Bool) (w : World), (Instr.field 89 (.agg #[.slice A k k, .bool f]) 0).run Tryz.prog w = .ok (.agg #[.slice A k k]) w := fun _ _ _ _ => by kernel_rfl
 by_cases h : reE a b = 0
 ·obtain ⟨c1, c2⟩ := reE_zero h
  have hR1 := real_at hb c2 hE
  by_cases h5 : numR b = 0
  ·have e : drE a b = 30 := by unfold drE; rw [if_pos h, if_pos h5]
   rw [e, if_neg (by omega), if_neg (by omega)]
   have HZ : Aside0 (∀ (W : World) (A : Option Addr) (L : Nat), Mag W W.heap.size A L (numR b).natAbs → Calls Tryz.prog 89 #[.agg #[.slice A L L]] W fun e w' => e = .returned (.bool true) ∧ Below W.heap.size W w') := ⟨fun W A L hm => isZero_any hm (Nat.le_refl _) (Below.refl _ _) (decide_eq_true (by omega))⟩
   rw [c1] at hK1
   rw [c2] at hK2
   unfold fV at hR1
   generalize decide (numR b < 0) = f3 at *
   generalize (numR b).natAbs = m3 at *
   generalize decide (denR b < 0) = f4 at *
   generalize (denR b).natAbs = m4 at *
   have HK1 := Aside0.mk hK1
   have HK2 := Aside0.mk hK2
   have HR1 := Aside0.mk hR1
   have HF := F00
   clear hK1 hK2 hR1 e h h5 c1 c2 hE
   go_enter Tryz.func41, Tryz.ntmps41
   go_wp2_with (first | (go_at_call 51; ((with_reducible refine (HK1.out _ bl).mono ?_); rintro e w2 ⟨rfl, hb2⟩; obtain ⟨hc2, hf2⟩ := bcell hb2; have nB2 : Aside0 (Below w.heap.size w w2) := sb hb2; clear HB; have HB := nB2; clear nB2; clear HK1)) | (go_at_call 51; ((with_reducible refine (HK2.out _ bl).mono ?_); rintro e w3 ⟨rfl, hb3⟩; obtain ⟨hc3, hf3⟩ := bcell hb3; have nB3 : Aside0 (Below w.heap.size w w3) := sb hb3; clear HB; have HB := nB3; clear nB3)) | (go_at_call 88; (with_reducible refine (first2_ret _ _ 0 HF.out _ _ (by simp) _).mono ?_); rintro e w' ⟨rfl, rfl⟩) | (go_at_call 107; ((with_reducible refine (HR1.out _ bl).mono ?_); rintro e w4 ⟨A1, k1, A2, k2, rfl, hm1, hm2, hb4⟩; obtain ⟨hc4, hf4⟩ := bcell hb4; have nB4 : Aside0 (Below w.heap.size w w4) := sb hb4; clear HB; have HB := nB4; clear nB4; have HM1 := Aside0.mk hm1; clear hm1 hm2)) | (go_at_call 89; ((with_reducible refine (HZ.out _ _ _ HM1.out).mono ?_); rintro e w6 ⟨rfl, hb6⟩; obtain ⟨hc6, hf6⟩ := bcell hb6; have nB6 : Aside0 (Below w.heap.size w w6) := sb hb6; clear HB; have HB := nB6; clear nB6)))
   go_ret2
   exact ⟨rfl, bl⟩
  ·have e : drE a b = 0 := by unfold drE; rw [if_pos h, if_neg h5]
   rw [e, if_pos rfl, if_pos rfl]
   obtain ⟨a1, a2, a3⟩ := real_dig c1
   obtain ⟨b1, b2, b3⟩ := real_dig c2
   have hQ : ∀ W, Below w.heap.size w W → Calls Tryz.prog 98 #[.string a, .string b, .func (.func 108) #[] #[]] W fun e w' => e = .returned (.tuple #[.string (rsS (numR a * denR b) (denR a * numR b)), .int .i64 (rsE (numR a * denR b) (denR a * numR b))]) ∧ Below W.heap.size W w' := fun W hbw =>
    reals_ok a b ha hb h (opF_div (a1.more (by omega)) (a2.more (by omega)) (b1.more (by omega)) (b2.more (by omega))) ((a1.mul b2).more (by omega)) ((a2.mul b1).more (by omega)) (fun h0 => by rcases Int.mul_eq_zero.1 h0 with h0 | h0 <;> omega) (enters_of Tryz.func108 (by kernel_rfl) rfl) W (hE.below hbw)
   have HZ : Aside0 (∀ (W : World) (A : Option Addr) (L : Nat), Mag W W.heap.size A L (numR b).natAbs → Calls Tryz.prog 89 #[.agg #[.slice A L L]] W fun e w' => e = .returned (.bool false) ∧ Below W.heap.size W w') := ⟨fun W A L hm => isZero_any hm (Nat.le_refl _) (Below.refl _ _) (decide_eq_false (by omega))⟩
   rw [c1] at hK1
   rw [c2] at hK2
   unfold fV at hR1
   generalize rsS (numR a * denR b) (denR a * numR b) = S at *
   generalize rsE (numR a * denR b) (denR a * numR b) = R at *
   generalize decide (numR b < 0) = f3 at *
   generalize (numR b).natAbs = m3 at *
   generalize decide (denR b < 0) = f4 at *
   generalize (denR b).natAbs = m4 at *
   have HK1 := Aside0.mk hK1
   have HK2 := Aside0.mk hK2
   have HR1 := Aside0.mk hR1
   have HQ := Aside0.mk hQ
   have HF := F00
   clear hK1 hK2 hR1 hQ e h h5 c1 c2 hE a1 a2 a3 b1 b2 b3
   go_enter Tryz.func41, Tryz.ntmps41
   go_wp2_with (first | (go_at_call 51; ((with_reducible refine (HK1.out _ bl).mono ?_); rintro e w2 ⟨rfl, hb2⟩; obtain ⟨hc2, hf2⟩ := bcell hb2; have nB2 : Aside0 (Below w.heap.size w w2) := sb hb2; clear HB; have HB := nB2; clear nB2; clear HK1)) | (go_at_call 51; ((with_reducible refine (HK2.out _ bl).mono ?_); rintro e w3 ⟨rfl, hb3⟩; obtain ⟨hc3, hf3⟩ := bcell hb3; have nB3 : Aside0 (Below w.heap.size w w3) := sb hb3; clear HB; have HB := nB3; clear nB3)) | (go_at_call 88; (with_reducible refine (first2_ret _ _ 0 HF.out _ _ (by simp) _).mono ?_); rintro e w' ⟨rfl, rfl⟩) | (go_at_call 107; ((with_reducible refine (HR1.out _ bl).mono ?_); rintro e w4 ⟨A1, k1, A2, k2, rfl, hm1, hm2, hb4⟩; obtain ⟨hc4, hf4⟩ := bcell hb4; have nB4 : Aside0 (Below w.heap.size w w4) := sb hb4; clear HB; have HB := nB4; clear nB4; have HM1 := Aside0.mk hm1; clear hm1 hm2)) | (go_at_call 89; ((with_reducible refine (HZ.out _ _ _ HM1.out).mono ?_); rintro e w6 ⟨rfl, hb6⟩; obtain ⟨hc6, hf6⟩ := bcell hb6; have nB6 : Aside0 (Below w.heap.size w w6) := sb hb6; clear HB; have HB := nB6; clear nB6)) | (go_at_call 98; ((with_reducible refine (HQ.out _ bl).mono ?_); rintro e w7 ⟨rfl, hb7⟩; obtain ⟨hc7, hf7⟩ := bcell hb7; have nB7 : Aside0 (Below w.heap.size w w7) := sb hb7; clear HB; have HB := nB7; clear nB7)))
   go_ret2
   exact ⟨rfl, bl⟩
 ·have e : drE a b = reE a b := by unfold drE; rw [if_neg h]
  rw [e, if_neg h, if_neg h]
  obtain ⟨E, hEE⟩ : ∃ E, reE a b = E := ⟨_, rfl⟩
  rw [hEE] at h ⊢
  unfold reE at hEE
  clear e
  generalize checkR a = e1 at *
  generalize checkR b = e2 at *
  have HF := Aside0.mk hEE
  have HK1 := Aside0.mk hK1
  have HK2 := Aside0.mk hK2
  have hbe : (E != 0) = true := by simp [h]
  clear hEE hK1 hK2 hE
  go_enter Tryz.func41, Tryz.ntmps41
  go_wp2_with (first | (go_at_call 51; ((with_reducible refine (HK1.out _ bl).mono ?_); rintro e w2 ⟨rfl, hb2⟩; obtain ⟨hc2, hf2⟩ := bcell hb2; have nB2 : Aside0 (Below w.heap.size w w2) := sb hb2; clear HB; have HB := nB2; clear nB2; clear HK1)) | (go_at_call 51; ((with_reducible refine (HK2.out _ bl).mono ?_); rintro e w3 ⟨rfl, hb3⟩; obtain ⟨hc3, hf3⟩ := bcell hb3; have nB3 : Aside0 (Below w.heap.size w w3) := sb hb3; clear HB; have HB := nB3; clear nB3)) | (go_at_call 88; (with_reducible refine (first2_ret _ _ E HF.out _ _ (by simp) _).mono ?_); rintro e w' ⟨rfl, rfl⟩))
  go_ret2
  exact ⟨rfl, bl⟩
/-- What CompareReal answers. -/
def cmpR (a b : ByteArray) : Int := if reE a b = 0 then cmpI (numR a * denR b) (numR b * denR a) else 0
theorem compareReal_calls (a b : ByteArray) (ha : a.size ≤ 90000) (hb : b.size ≤ 90000) (w : World) (hE : EN w) :
 Calls Tryz.prog 43 #[.string a, .string b] w fun e w' => e = .returned (.tuple #[.int .i64 (cmpR a b), .int .i64 (reE a b)]) ∧ Below w.heap.size w w' := by
 have hK1 := checkR_at ha hE
 have hK2 := checkR_at hb hE
 have HB := Aside0.mk (Below.refl w.heap.size w)
 unfold cmpR
 by_cases h : reE a b = 0
 ·obtain ⟨c1, c2⟩ := reE_zero h
  have hR1 := real_at ha c1 hE
  have hR2 := real_at hb c2 hE
  obtain ⟨a1, a2, a3⟩ := real_dig c1
  obtain ⟨b1, b2, b3⟩ := real_dig c2
  have T1 : ∀ (W : World) (A1 A2 : Option Addr) (L1 L2 : Nat), Mag W W.heap.size A1 L1 (numR a).natAbs → Mag W W.heap.size A2 L2 (denR b).natAbs → Calls Tryz.prog 85 #[iV A1 L1 (numR a), iV A2 L2 (denR b)] W fun e w' => ∃ A k, e = .returned (iV A k (numR a * denR b)) ∧ Mag w' w'.heap.size A k (numR a * denR b).natAbs ∧ Below W.heap.size W w' := fun W A1 A2 L1 L2 => op2_times (a1.more (by omega)) (b2.more (by omega)) W A1 A2 L1 L2
  have T2 : ∀ (W : World) (A1 A2 : Option Addr) (L1 L2 : Nat), Mag W W.heap.size A1 L1 (numR b).natAbs → Mag W W.heap.size A2 L2 (denR a).natAbs → Calls Tryz.prog 85 #[iV A1 L1 (numR b), iV A2 L2 (denR a)] W fun e w' => ∃ A k, e = .returned (iV A k (numR b * denR a)) ∧ Mag w' w'.heap.size A k (numR b * denR a).natAbs ∧ Below W.heap.size W w' := fun W A1 A2 L1 L2 => op2_times (b1.more (by omega)) (a2.more (by omega)) W A1 A2 L1 L2
  have T3 : ∀ (W : World) (A1 A2 : Option Addr) (L1 L2 : Nat), Mag W W.heap.size A1 L1 (numR a * denR b).natAbs → Mag W W.heap.size A2 L2 (numR b * denR a).natAbs → Calls Tryz.prog 93 #[iV A1 L1 (numR a * denR b), iV A2 L2 (numR b * denR a)] W fun e w' => e = .returned (.int .i64 (cmpI (numR a * denR b) (numR b * denR a))) ∧ Below W.heap.size W w' := fun W A1 A2 L1 L2 h1 h2 => iorder_calls h1 h2 (Nat.le_refl _)
  rw [if_pos h, h]
  rw [c1] at hK1
  rw [c2] at hK2
  clear h c1 c2 hE a1 a2 a3 b1 b2 b3
  generalize cmpI (numR a * denR b) (numR b * denR a) = C at *
  unfold fV iV at *
  generalize decide (numR a * denR b < 0) = g1 at *
  generalize (numR a * denR b).natAbs = n1 at *
  generalize decide (numR b * denR a < 0) = g2 at *
  generalize (numR b * denR a).natAbs = n2 at *
  generalize decide (numR a < 0) = f1 at *
  generalize (numR a).natAbs = m1 at *
  generalize decide (denR a < 0) = f2 at *
  generalize (denR a).natAbs = m2 at *
  generalize decide (numR b < 0) = f3 at *
  generalize (numR b).natAbs = m3 at *
  generalize decide (denR b < 0) = f4 at *
  generalize (denR b).natAbs = m4 at *
  have HK1 := Aside0.mk hK1
  have HK2 := Aside0.mk hK2
  have HR1 := Aside0.mk hR1
  have HR2 := Aside0.mk hR2
  have T1 := Aside0.mk T1
  have T2 := Aside0.mk T2
  have T3 := Aside0.mk T3
  have HF := F00
  clear hK1 hK2 hR1 hR2
  go_enter Tryz.func43, Tryz.ntmps43
  go_wp2_with (first | (go_at_call 51; ((with_reducible refine (HK1.out _ bl).mono ?_); rintro e w2 ⟨rfl, hb2⟩; obtain ⟨hc2, hf2⟩ := bcell hb2; have nB2 : Aside0 (Below w.heap.size w w2) := sb hb2; clear HB; have HB := nB2; clear nB2; clear HK1)) | (go_at_call 51; ((with_reducible refine (HK2.out _ bl).mono ?_); rintro e w3 ⟨rfl, hb3⟩; obtain ⟨hc3, hf3⟩ := bcell hb3; have nB3 : Aside0 (Below w.heap.size w w3) := sb hb3; clear HB; have HB := nB3; clear nB3)) | (go_at_call 88; (with_reducible refine (first2_ret _ _ 0 HF.out _ _ (by simp) _).mono ?_); rintro e w' ⟨rfl, rfl⟩) | (go_at_call 107; ((with_reducible refine (HR1.out _ bl).mono ?_); rintro e w4 ⟨A1, k1, A2, k2, rfl, hm1, hm2, hb4⟩; obtain ⟨hc4, hf4⟩ := bcell hb4; have nB4 : Aside0 (Below w.heap.size w w4) := sb hb4; clear HB; have HB := nB4; clear nB4; have HM1 := Aside0.mk hm1; have HM2 := Aside0.mk hm2; clear hm1 hm2 HR1)) | (go_at_call 107; ((with_reducible refine (HR2.out _ bl).mono ?_); rintro e w5 ⟨A3, k3, A4, k4, rfl, hm3, hm4, hb5⟩; obtain ⟨hc5, hf5⟩ := bcell hb5; have nB5 : Aside0 (Below w.heap.size w w5) := sb hb5; clear HB; have HB := nB5; clear nB5; have HM3 := Aside0.mk hm3; have HM4 := Aside0.mk hm4; have HM1 := Aside0.mk (HM1.out.up hb5); have HM2 := Aside0.mk (HM2.out.up hb5); clear hm3 hm4)))
  have HZ : Aside0 (FB ((w5.alloc (.cells #[.slice A1 k1 k1, .bool f1, .slice A2 k2 k2, .bool f2] 116)).alloc (.cells #[.slice A3 k3 k3, .bool f3, .slice A4 k4 k4, .bool f4] 116)) w5.heap.size A1 k1 f1 A2 k2 f2 ∧ FB ((w5.alloc (.cells #[.slice A1 k1 k1, .bool f1, .slice A2 k2 k2, .bool f2] 116)).alloc (.cells #[.slice A3 k3 k3, .bool f3, .slice A4 k4 k4, .bool f4] 116)) (w5.heap.size + 1) A3 k3 f3 A4 k4 f4) := ⟨by
   refine ⟨(FB.new w5 _ _ _ _ _ _).alloc _, ?_⟩
   have h := FB.new (w5.alloc (.cells #[.slice A1 k1 k1, .bool f1, .slice A2 k2 k2, .bool f2] 116)) A3 k3 f3 A4 k4 f4
   simpa using h⟩
  have HA : Aside0 (Below w.heap.size w ((w5.alloc (.cells #[.slice A1 k1 k1, .bool f1, .slice A2 k2 k2, .bool f2] 116)).alloc (.cells #[.slice A3 k3 k3, .bool f3, .slice A4 k4 k4, .bool f4] 116)) ∧ w5.heap.size + 2 ≤ ((w5.alloc (.cells #[.slice A1 k1 k1, .bool f1, .slice A2 k2 k2, .bool f2] 116)).alloc (.cells #[.slice A3 k3 k3, .bool f3, .slice A4 k4 k4, .bool f4] 116)).heap.size ∧ w.heap.size ≤ w5.heap.size) := ⟨bl, by simp, HB.out.size⟩
  have HN1 := Aside0.mk (HM1.out.up ((by repeat (first | exact Below.refl _ _ | apply below_alloc)) : Below w5.heap.size w5 ((w5.alloc (.cells #[.slice A1 k1 k1, .bool f1, .slice A2 k2 k2, .bool f2] 116)).alloc (.cells #[.slice A3 k3 k3, .bool f3, .slice A4 k4 k4, .bool f4] 116))))
  have HN2 := Aside0.mk (HM2.out.up ((by repeat (first | exact Below.refl _ _ | apply below_alloc)) : Below w5.heap.size w5 ((w5.alloc (.cells #[.slice A1 k1 k1, .bool f1, .slice A2 k2 k2, .bool f2] 116)).alloc (.cells #[.slice A3 k3 k3, .bool f3, .slice A4 k4 k4, .bool f4] 116))))
  have HN3 := Aside0.mk (HM3.out.up ((by repeat (first | exact Below.refl _ _ | apply below_alloc)) : Below w5.heap.size w5 ((w5.alloc (.cells #[.slice A1 k1 k1, .bool f1, .slice A2 k2 k2, .bool f2] 116)).alloc (.cells #[.slice A3 k3 k3, .bool f3, .slice A4 k4 k4, .bool f4] 116))))
  have HN4 := Aside0.mk (HM4.out.up ((by repeat (first | exact Below.refl _ _ | apply below_alloc)) : Below w5.heap.size w5 ((w5.alloc (.cells #[.slice A1 k1 k1, .bool f1, .slice A2 k2 k2, .bool f2] 116)).alloc (.cells #[.slice A3 k3 k3, .bool f3, .slice A4 k4 k4, .bool f4] 116))))
  clear HM1 HM2 HM3 HM4
  generalize ((w5.alloc (.cells #[.slice A1 k1 k1, .bool f1, .slice A2 k2 k2, .bool f2] 116)).alloc (.cells #[.slice A3 k3 k3, .bool f3, .slice A4 k4 k4, .bool f4] 116)) = wr at *
  generalize w5.heap.size = b0 at *
  clear HB hc2 hc3 hc5 hf2 hf3 hf5 hb2 hb3 hb5
  have HX : Aside0 (wr.cell? ⟨b0, 0, none⟩ = some (.slice A1 k1 k1) ∧ wr.cell? ⟨b0, 1, none⟩ = some (.bool f1) ∧ wr.cell? ⟨b0, 2, none⟩ = some (.slice A2 k2 k2) ∧ wr.cell? ⟨b0, 3, none⟩ = some (.bool f2) ∧ wr.cell? ⟨b0 + 1, 0, none⟩ = some (.slice A3 k3 k3) ∧ wr.cell? ⟨b0 + 1, 1, none⟩ = some (.bool f3) ∧ wr.cell? ⟨b0 + 1, 2, none⟩ = some (.slice A4 k4 k4) ∧ wr.cell? ⟨b0 + 1, 3, none⟩ = some (.bool f4)) :=
   ⟨HZ.out.1.cell0, HZ.out.1.cell1, HZ.out.1.cell2, HZ.out.1.cell3, HZ.out.2.cell0, HZ.out.2.cell1, HZ.out.2.cell2, HZ.out.2.cell3⟩
  have KP : Aside0 (∀ V, Below (b0 + 2) wr V → (fun V => V.cell? ⟨b0, 0, none⟩ = some (.slice A1 k1 k1) ∧ V.cell? ⟨b0, 1, none⟩ = some (.bool f1) ∧ V.cell? ⟨b0, 2, none⟩ = some (.slice A2 k2 k2) ∧ V.cell? ⟨b0, 3, none⟩ = some (.bool f2) ∧ V.cell? ⟨b0 + 1, 0, none⟩ = some (.slice A3 k3 k3) ∧ V.cell? ⟨b0 + 1, 1, none⟩ = some (.bool f3) ∧ V.cell? ⟨b0 + 1, 2, none⟩ = some (.slice A4 k4 k4) ∧ V.cell? ⟨b0 + 1, 3, none⟩ = some (.bool f4) ∧ Below (b0 + 2) wr V) V) := ⟨fun V hBB => ⟨keepB hBB (by omega) HX.out.1, keepB hBB (by omega) HX.out.2.1, keepB hBB (by omega) HX.out.2.2.1, keepB hBB (by omega) HX.out.2.2.2.1, keepB hBB (by omega) HX.out.2.2.2.2.1, keepB hBB (by omega) HX.out.2.2.2.2.2.1, keepB hBB (by omega) HX.out.2.2.2.2.2.2.1, keepB hBB (by omega) HX.out.2.2.2.2.2.2.2, hBB⟩⟩
  refine wq KP fun hHeld => ?_
  refine tp 0 ?_
  try simp only [PU]
  refine tp 1 ?_
  try simp only [PU]
  refine tp 2 ?_
  try simp only [PU]
  refine tp 3 ?_
  try simp only [PU]
  refine tp 5 ?_
  try simp only [PU]
  refine tp 6 ?_
  try simp only [PU]
  refine tp 7 ?_
  try simp only [PU]
  refine tp 8 ?_
  try simp only [PU]
  refine tc 4 fun K hK => ?_
  go_simp
  (go_at_call 85; (with_reducible refine (T1.out _ _ _ _ _ (HN1.out.up (below_drew1 (Below.refl _ _))) (HN4.out.up (below_drew1 (Below.refl _ _)))).mono ?_); rintro e wm ⟨A5, k5, rfl, hm5, hbq⟩; have hm5 := Aside0.mk hm5; have hm3 := Aside0.mk ((HN3.out.up (below_drew1 (Below.refl _ _))).up hbq); have hm2 := Aside0.mk ((HN2.out.up (below_drew1 (Below.refl _ _))).up hbq))
  refine hK.out _ _ ?_ fun hHeld => ?_
  ·(first | exact KP.out _ (bKeep hbq hHeld.2.2.2.2.2.2.2.2 (by have := HA.out.2; omega)) | (refine KP.out _ ?_; repeat (first | exact hHeld.2.2.2.2.2.2.2.2 | refine Below.setCell ?_ (by first | (simp; done) | (simp; omega)) _)))
  clear hK K; try simp only [PU]
  refine tc 9 fun K hK => ?_
  go_simp
  (go_at_call 85; (with_reducible refine (T2.out _ _ _ _ _ hm3.out hm2.out).mono ?_); rintro e wm ⟨A6, k6, rfl, hm6, hbq⟩; have hm6 := Aside0.mk hm6; have hm5 := Aside0.mk (hm5.out.up hbq))
  refine hK.out _ _ ?_ fun hHeld => ?_
  ·(first | exact KP.out _ (bKeep hbq hHeld.2.2.2.2.2.2.2.2 (by have := HA.out.2; omega)) | (refine KP.out _ ?_; repeat (first | exact hHeld.2.2.2.2.2.2.2.2 | refine Below.setCell ?_ (by first | (simp; done) | (simp; omega)) _)))
  clear hK K; try simp only [PU]
  refine tc 10 fun K hK => ?_
  go_simp
  (go_at_call 93; (with_reducible refine (T3.out _ _ _ _ _ hm5.out hm6.out).mono ?_); rintro e wm ⟨rfl, hbq⟩)
  refine hK.out _ _ ?_ fun hHeld => ?_
  ·(first | exact KP.out _ (bKeep hbq hHeld.2.2.2.2.2.2.2.2 (by have := HA.out.2; omega)) | (refine KP.out _ ?_; repeat (first | exact hHeld.2.2.2.2.2.2.2.2 | refine Below.setCell ?_ (by first | (simp; done) | (simp; omega)) _)))
  clear hK K; try simp only [PU]
  refine tp 11 ?_
  try simp only [PU]
  refine tp 12 ?_
  try simp only [PU]
  refine wpAnyH_done (by kernel_rfl) ?_ _
  go_wp2
  go_ret2
  exact ⟨rfl, HA.out.1.trans (hHeld.2.2.2.2.2.2.2.2.mono (by have := HA.out.2.2; omega))⟩
 ·rw [if_neg h]
  obtain ⟨E, hEE⟩ : ∃ E, reE a b = E := ⟨_, rfl⟩
  rw [hEE] at h ⊢
  unfold reE at hEE
  generalize checkR a = e1 at *
  generalize checkR b = e2 at *
  have HF := Aside0.mk hEE
  have HK1 := Aside0.mk hK1
  have HK2 := Aside0.mk hK2
  have hbe : (E != 0) = true := by simp [h]
  clear hEE hK1 hK2 hE
  go_enter Tryz.func43, Tryz.ntmps43
  go_wp2_with (first | (go_at_call 51; ((with_reducible refine (HK1.out _ bl).mono ?_); rintro e w2 ⟨rfl, hb2⟩; obtain ⟨hc2, hf2⟩ := bcell hb2; have nB2 : Aside0 (Below w.heap.size w w2) := sb hb2; clear HB; have HB := nB2; clear nB2; clear HK1)) | (go_at_call 51; ((with_reducible refine (HK2.out _ bl).mono ?_); rintro e w3 ⟨rfl, hb3⟩; obtain ⟨hc3, hf3⟩ := bcell hb3; have nB3 : Aside0 (Below w.heap.size w w3) := sb hb3; clear HB; have HB := nB3; clear nB3)) | (go_at_call 88; (with_reducible refine (first2_ret _ _ E HF.out _ _ (by simp) _).mono ?_); rintro e w' ⟨rfl, rfl⟩))
  go_ret2
  exact ⟨rfl, bl⟩
/-- What Floor answers. -/
def flS (s : ByteArray) : ByteArray := if checkR s = 0 then wrS (numR s / denR s) else ⟨#[]⟩
def flR (s : ByteArray) : Int := if checkR s = 0 then wrE (numR s / denR s) else checkR s
theorem floor_calls (s : ByteArray) (hs : s.size ≤ 90000) (w : World) (hE : EN w) :
 Calls Tryz.prog 53 #[.string s] w fun e w' => e = .returned (.tuple #[.string (flS s), .int .i64 (flR s)]) ∧ Below w.heap.size w w' := by
 have hK := checkR_at hs hE
 have HB := Aside0.mk (Below.refl w.heap.size w)
 unfold flS flR
 by_cases h : checkR s = 0
 ·rw [if_pos h, if_pos h]
  obtain ⟨a1, a2, a3⟩ := real_dig h
  have hR := real_at hs h hE
  have hO : ∀ (W : World) (A1 A2 : Option Addr) (L1 L2 : Nat), Mag W W.heap.size A1 L1 (numR s).natAbs → Mag W W.heap.size A2 L2 (denR s).natAbs → Calls Tryz.prog 90 #[iV A1 L1 (numR s), iV A2 L2 (denR s)] W fun e w' => ∃ A k A' k', e = .returned (.tuple #[iV A k (numR s / denR s), iV A' k' (numR s % denR s)]) ∧ Mag w' w'.heap.size A k (numR s / denR s).natAbs ∧ Mag w' w'.heap.size A' k' (numR s % denR s).natAbs ∧ Below W.heap.size W w' := fun W A1 A2 L1 L2 h1 h2 => over_calls h1 h2 (Nat.le_refl _) (by omega) (by have := a1.len h1 14 (by omega); omega) (by have := a2.len h2 14 (by omega); omega)
  have hW : ∀ (W : World) (A : Option Addr) (L : Nat), Below w.heap.size w W → Mag W W.heap.size A L (numR s / denR s).natAbs → Calls Tryz.prog 91 #[iV A L (numR s / denR s)] W fun e w' => e = .returned (.tuple #[.string (wrS (numR s / denR s)), .int .i64 (wrE (numR s / denR s))]) ∧ Below W.heap.size W w' := fun W A L hb hm => written_calls hm (Nat.le_refl _) (hE.tens.below hb)
  rw [h] at hK
  clear h hE a1 a2 a3
  generalize wrS (numR s / denR s) = S at *
  generalize wrE (numR s / denR s) = R at *
  unfold fV iV at *
  generalize decide (numR s / denR s < 0) = g1 at *
  generalize (numR s / denR s).natAbs = n1 at *
  generalize decide (numR s % denR s < 0) = g2 at *
  generalize (numR s % denR s).natAbs = n2 at *
  generalize decide (numR s < 0) = f1 at *
  generalize (numR s).natAbs = m1 at *
  generalize decide (denR s < 0) = f2 at *
  generalize (denR s).natAbs = m2 at *
  have HK := Aside0.mk hK
  have HR := Aside0.mk hR
  have HO := Aside0.mk hO
  have HW := Aside0.mk hW
  clear hK hR hO hW
  go_enter Tryz.func53, Tryz.ntmps53
  go_wp2_with (first
   | (go_at_call 51; ((with_reducible refine (HK.out _ bl).mono ?_); rintro e w1 ⟨rfl, hb1⟩; obtain ⟨hc1, hf1⟩ := bcell hb1; have nB1 : Aside0 (Below w.heap.size w w1) := sb hb1; clear HB; have HB := nB1; clear nB1))
   | (go_at_call 107; ((with_reducible refine (HR.out _ bl).mono ?_); rintro e w2 ⟨A1, k1, A2, k2, rfl, hm1, hm2, hb2⟩; obtain ⟨hc2, hf2⟩ := bcell hb2; have nB2 : Aside0 (Below w.heap.size w w2) := sb hb2; clear HB; have HB := nB2; clear nB2; have HM1 := Aside0.mk hm1; have HM2 := Aside0.mk hm2; clear hm1 hm2))
   | (go_at_call 90; ((with_reducible refine (HO.out _ _ _ _ _ ((HM1.out.keep (Nat.le_refl _) (by repeat (first | exact Below.refl _ _ | apply below_alloc))).more (by first | (simp; done) | (simp; omega) | omega)) ((HM2.out.keep (Nat.le_refl _) (by repeat (first | exact Below.refl _ _ | apply below_alloc))).more (by first | (simp; done) | (simp; omega) | omega))).mono ?_); rintro e w3 ⟨A3, k3, A4, k4, rfl, hm3, hm4, hb3⟩; obtain ⟨hc3, hf3⟩ := bcell hb3; have nB3 : Aside0 (Below w.heap.size w w3) := sb hb3; clear HB; have HB := nB3; clear nB3; have HM3 := Aside0.mk hm3; clear hm3 hm4))
   | (go_at_call 91; ((with_reducible refine (HW.out _ _ _ bl ((HM3.out.keep (Nat.le_refl _) (by repeat (first | exact Below.refl _ _ | apply below_alloc))).more (by first | (simp; done) | (simp; omega) | omega))).mono ?_); rintro e w5 ⟨rfl, hb5⟩; obtain ⟨hc5, hf5⟩ := bcell hb5; have nB5 : Aside0 (Below w.heap.size w w5) := sb hb5; clear HB; have HB := nB5; clear nB5)))
  go_ret2
  exact ⟨rfl, bl⟩
 ·rw [if_neg h, if_neg h]
  generalize checkR s = E at *
  have HK := Aside0.mk hK
  have hbe : (E != 0) = true := by simp [h]
  clear hK hE
  go_enter Tryz.func53, Tryz.ntmps53
  go_wp2_with (first | (go_at_call 51; ((with_reducible refine (HK.out _ bl).mono ?_); rintro e w1 ⟨rfl, hb1⟩; obtain ⟨hc1, hf1⟩ := bcell hb1; have nB1 : Aside0 (Below w.heap.size w w1) := sb hb1; clear HB; have HB := nB1; clear nB1)))
  go_ret2
  exact ⟨rfl, bl⟩
/-- What Parts answers. -/
def paS (of : ByteArray → ByteArray) (s : ByteArray) : ByteArray := if checkR s = 0 then of s else ⟨#[]⟩
theorem parts_calls (s : ByteArray) (hs : s.size ≤ 90000) (w : World) (hE : EN w) :
 Calls Tryz.prog 57 #[.string s] w fun e w' => e = .returned (.tuple #[.string (paS (cutA 47) s), .string (paS (cutB 47) s), .int .i64 (checkR s)]) ∧ Below w.heap.size w w' := by
 have hK := checkR_at hs hE
 have hC : ∀ W, Below w.heap.size w W → Calls Tryz.prog 118 #[.string s, .string ⟨#[47]⟩] W fun e w' => e = .returned (.tuple #[.string (cutA 47 s), .string (cutB 47 s), .bool (cutF 47 s)]) ∧ Below W.heap.size W w' := fun W hb => cut1_calls 47 s hs W (hE.below hb)
 have HB := Aside0.mk (Below.refl w.heap.size w)
 unfold paS
 by_cases h : checkR s = 0
 ·rw [if_pos h, if_pos h, h]
  rw [h] at hK
  generalize cutA 47 s = a at *
  generalize cutB 47 s = b at *
  generalize cutF 47 s = f at *
  have HK := Aside0.mk hK
  have HC := Aside0.mk hC
  clear h hK hC hE
  go_enter Tryz.func57, Tryz.ntmps57
  go_wp2_with (first | (go_at_call 51; ((with_reducible refine (HK.out _ bl).mono ?_); rintro e w1 ⟨rfl, hb1⟩; obtain ⟨hc1, hf1⟩ := bcell hb1; have nB1 : Aside0 (Below w.heap.size w w1) := sb hb1; clear HB; have HB := nB1; clear nB1)) | (go_at_call 118; ((with_reducible refine (HC.out _ bl).mono ?_); rintro e w2 ⟨rfl, hb2⟩; obtain ⟨hc2, hf2⟩ := bcell hb2; have nB2 : Aside0 (Below w.heap.size w w2) := sb hb2; clear HB; have HB := nB2; clear nB2)))
  go_ret3
  exact ⟨rfl, bl⟩
 ·rw [if_neg h, if_neg h]
  generalize checkR s = E at *
  have HK := Aside0.mk hK
  have hbe : (E != 0) = true := by simp [h]
  clear hK hE hC
  go_enter Tryz.func57, Tryz.ntmps57
  go_wp2_with (first | (go_at_call 51; ((with_reducible refine (HK.out _ bl).mono ?_); rintro e w1 ⟨rfl, hb1⟩; obtain ⟨hc1, hf1⟩ := bcell hb1; have nB1 : Aside0 (Below w.heap.size w w1) := sb hb1; clear HB; have HB := nB1; clear nB1)))
  go_ret3
  exact ⟨rfl, bl⟩
/-- What Real answers. -/
def rlS (a b : ByteArray) : ByteArray := if divE a b = 0 then rsS (intI a) (intI b) else ⟨#[]⟩
def rlR (a b : ByteArray) : Int := if divE a b = 0 then rsE (intI a) (intI b) else divE a b
theorem realR_calls (a b : ByteArray) (ha : a.size ≤ 90000) (hb : b.size ≤ 90000) (w : World) (htab : Tens w) :
 Calls Tryz.prog 55 #[.string a, .string b] w fun e w' => e = .returned (.tuple #[.string (rlS a b), .int .i64 (rlR a b)]) ∧ Below w.heap.size w w' := by
 have HB := Aside0.mk (Below.refl w.heap.size w)
 unfold rlS rlR
 by_cases h : biE a b = 0
 ·obtain ⟨hca, hcb⟩ := biE_zero h
  have hR := read_ok a b ha hb hca hcb
  by_cases hy : intI b = 0
  ·have e : divE a b = 30 := by unfold divE; rw [if_pos h, if_pos hy]
   rw [e, if_neg (by omega), if_neg (by omega)]
   have HZ : ∀ (W : World) (A : Option Addr) (L : Nat), Mag W W.heap.size A L (intI b).natAbs → Calls Tryz.prog 89 #[.agg #[.slice A L L]] W fun e w' => e = .returned (.bool true) ∧ Below W.heap.size W w' := fun W A L hm => isZero_any hm (Nat.le_refl _) (Below.refl _ _) (decide_eq_true (by omega))
   unfold iV at *
   generalize decide (intI a < 0) = na at *
   generalize (intI a).natAbs = ma at *
   generalize decide (intI b < 0) = nb at *
   generalize (intI b).natAbs = mb at *
   have HR := Aside0.mk hR
   have HZ := Aside0.mk HZ
   clear h hca hcb hR hy e
   go_enter Tryz.func55, Tryz.ntmps55
   go_wp2_with (first
    | (go_at_call 87; ((with_reducible refine (HR.out _).mono ?_); rintro e w1 ⟨A1, k1, A2, k2, rfl, hm1, hm2, hb1⟩; obtain ⟨hc1, hf1⟩ := bcell hb1; have nB1 : Aside0 (Below w.heap.size w w1) := sb hb1; clear HB; have HB := nB1; clear nB1; have HM1 := Aside0.mk hm1; clear hm1; have HM2 := Aside0.mk hm2; clear hm2))
    | (go_at_call 89; ((with_reducible refine (HZ.out _ _ _ ((HM2.out.keep (Nat.le_refl _) (by repeat (first | exact Below.refl _ _ | apply below_alloc))).more (by first | (simp; done) | (simp; omega) | omega))).mono ?_); rintro e w2 ⟨rfl, hb2⟩; obtain ⟨hc2, hf2⟩ := bcell hb2; have nB2 : Aside0 (Below w.heap.size w w2) := sb hb2; clear HB; have HB := nB2; clear nB2))
    | (go_at_call 65; (with_reducible refine (when_calls _ _ _).mono ?_); rintro e w' ⟨rfl, rfl⟩)
    | (go_at_call 88; (with_reducible refine (first2_ret _ _ 30 F30.out _ _ (by simp) _).mono ?_); rintro e w' ⟨rfl, rfl⟩))
   go_ret2
   exact ⟨rfl, bl⟩
  ·have e : divE a b = 0 := by unfold divE; rw [if_pos h, if_neg hy]
   rw [e, if_pos rfl, if_pos rfl]
   have da := intI_dig hca
   have db := intI_dig hcb
   have HZ : ∀ (W : World) (A : Option Addr) (L : Nat), Mag W W.heap.size A L (intI b).natAbs → Calls Tryz.prog 89 #[.agg #[.slice A L L]] W fun e w' => e = .returned (.bool false) ∧ Below W.heap.size W w' := fun W A L hm => isZero_any hm (Nat.le_refl _) (Below.refl _ _) (decide_eq_false (by omega))
   have hL : ∀ (W : World) (A1 A2 : Option Addr) (L1 L2 : Nat), Mag W W.heap.size A1 L1 (intI a).natAbs → Mag W W.heap.size A2 L2 (intI b).natAbs → Calls Tryz.prog 122 #[fV A1 L1 (intI a) A2 L2 (intI b)] W fun e w' => ∃ A k A' k', e = .returned (fV A k (intI a / lowD (intI a) (intI b)) A' k' (intI b / lowD (intI a) (intI b))) ∧ Mag w' w'.heap.size A k (intI a / lowD (intI a) (intI b)).natAbs ∧ Mag w' w'.heap.size A' k' (intI b / lowD (intI a) (intI b)).natAbs ∧ Below W.heap.size W w' := fun W A1 A2 L1 L2 m1 m2 => lowest_calls m1 m2 (da.more (by omega)) (db.more (by omega)) hy
   have hT : ∀ (W : World) (A1 A2 : Option Addr) (L1 L2 : Nat), Below w.heap.size w W → Mag W W.heap.size A1 L1 (intI a / lowD (intI a) (intI b)).natAbs → Mag W W.heap.size A2 L2 (intI b / lowD (intI a) (intI b)).natAbs → Calls Tryz.prog 123 #[fV A1 L1 (intI a / lowD (intI a) (intI b)) A2 L2 (intI b / lowD (intI a) (intI b))] W fun e w' => e = .returned (.tuple #[.string (rsS (intI a) (intI b)), .int .i64 (rsE (intI a) (intI b))]) ∧ Below W.heap.size W w' := fun W A1 A2 L1 L2 hb m1 m2 => ftext_calls m1 m2 (Nat.le_refl _) (htab.below hb)
   clear e
   generalize rsS (intI a) (intI b) = S at *
   generalize rsE (intI a) (intI b) = R at *
   unfold fV iV at *
   generalize decide (intI a / lowD (intI a) (intI b) < 0) = g3 at *
   generalize (intI a / lowD (intI a) (intI b)).natAbs = n3 at *
   generalize decide (intI b / lowD (intI a) (intI b) < 0) = g4 at *
   generalize (intI b / lowD (intI a) (intI b)).natAbs = n4 at *
   generalize decide (intI a < 0) = na at *
   generalize (intI a).natAbs = ma at *
   generalize decide (intI b < 0) = nb at *
   generalize (intI b).natAbs = mb at *
   have HR := Aside0.mk hR
   have HZ := Aside0.mk HZ
   have HL := Aside0.mk hL
   have HT := Aside0.mk hT
   clear h hca hcb hR hy hL hT da db
   go_enter Tryz.func55, Tryz.ntmps55
   go_wp2_with (first
    | (go_at_call 87; ((with_reducible refine (HR.out _).mono ?_); rintro e w1 ⟨A1, k1, A2, k2, rfl, hm1, hm2, hb1⟩; obtain ⟨hc1, hf1⟩ := bcell hb1; have nB1 : Aside0 (Below w.heap.size w w1) := sb hb1; clear HB; have HB := nB1; clear nB1; have HM1 := Aside0.mk hm1; clear hm1; have HM2 := Aside0.mk hm2; clear hm2))
    | (go_at_call 89; ((with_reducible refine (HZ.out _ _ _ ((HM2.out.keep (Nat.le_refl _) (by repeat (first | exact Below.refl _ _ | apply below_alloc))).more (by first | (simp; done) | (simp; omega) | omega))).mono ?_); rintro e w2 ⟨rfl, hb2⟩; obtain ⟨hc2, hf2⟩ := bcell hb2; have z2_0 : (w1.heap.size) < w2.heap.size := zb hb2; have z2_1 : (w1.heap.size + 1) < w2.heap.size := zb hb2; have nB2 : Aside0 (Below w.heap.size w w2) := sb hb2; clear HB; have HB := nB2; clear nB2; have HM1 := Aside0.mk ((((HM1.out.keep (Nat.le_refl _) (by repeat (first | exact Below.refl _ _ | apply below_alloc))).more (by first | (simp; done) | (simp; omega) | omega))).up hb2); have HM2 := Aside0.mk ((((HM2.out.keep (Nat.le_refl _) (by repeat (first | exact Below.refl _ _ | apply below_alloc))).more (by first | (simp; done) | (simp; omega) | omega))).up hb2)))
    | (go_at_call 65; (with_reducible refine (when_calls _ _ _).mono ?_); rintro e w' ⟨rfl, rfl⟩)
    | (go_at_call 88; (with_reducible refine (first2_ret _ _ 0 F00.out _ _ (by simp) _).mono ?_); rintro e w' ⟨rfl, rfl⟩)
    | (go_at_call 122; ((with_reducible refine (HL.out _ _ _ _ _ ((HM1.out.keep (Nat.le_refl _) (by repeat (first | exact Below.refl _ _ | apply below_alloc))).more (by first | (simp; done) | (simp; omega) | omega)) ((HM2.out.keep (Nat.le_refl _) (by repeat (first | exact Below.refl _ _ | apply below_alloc))).more (by first | (simp; done) | (simp; omega) | omega))).mono ?_); rintro e w3 ⟨A3, k3, A4, k4, rfl, hm3, hm4, hb3⟩; obtain ⟨hc3, hf3⟩ := bcell hb3; have nB3 : Aside0 (Below w.heap.size w w3) := sb hb3; clear HB; have HB := nB3; clear nB3; have HM3 := Aside0.mk hm3; have HM4 := Aside0.mk hm4; clear hm3 hm4))
    | (go_at_call 123; ((with_reducible refine (HT.out _ _ _ _ _ bl HM3.out HM4.out).mono ?_); rintro e w5 ⟨rfl, hb5⟩; obtain ⟨hc5, hf5⟩ := bcell hb5; have nB5 : Aside0 (Below w.heap.size w w5) := sb hb5; clear HB; have HB := nB5; clear nB5)))
   go_ret2
   exact ⟨rfl, bl⟩
 ·have e : divE a b = biE a b := by unfold divE; rw [if_neg h]
  rw [e, if_neg h, if_neg h]
  have HR : Aside0 (∀ w, Calls Tryz.prog 87 #[.string a, .string b] w fun e w' => e = .returned (.tuple #[.agg #[.slice none 0 0, .bool false], .agg #[.slice none 0 0, .bool false], .int .i64 (biE a b)]) ∧ Below w.heap.size w w') := ⟨read_bad a b ha hb rfl h⟩
  clear e
  generalize biE a b = E at *
  have HF : Aside0 (firstI [E, 0] = E) := ⟨by unfold firstI; rw [if_neg h]⟩
  have hbe : (E != 0) = true := by simp [h]
  have hbe' : (E == 0) = false := by simp [h]
  go_enter Tryz.func55, Tryz.ntmps55
  go_wp2_with (first
   | (go_at_call 87; ((with_reducible refine (HR.out _).mono ?_); rintro e w1 ⟨rfl, hb1⟩; obtain ⟨hc1, hf1⟩ := bcell hb1; have nB1 : Aside0 (Below w.heap.size w w1) := sb hb1; clear HB; have HB := nB1; clear nB1))
   | (go_at_call 65; (with_reducible refine (when_calls _ _ _).mono ?_); rintro e w' ⟨rfl, rfl⟩)
   | (go_at_call 88; (with_reducible refine (first2_ret _ _ E HF.out _ _ (by simp) _).mono ?_); rintro e w' ⟨rfl, rfl⟩))
  go_ret2
  exact ⟨rfl, bl⟩
end
end Go.Proofs.YtillgofjlpjbcaaGreatDoor.Nm
