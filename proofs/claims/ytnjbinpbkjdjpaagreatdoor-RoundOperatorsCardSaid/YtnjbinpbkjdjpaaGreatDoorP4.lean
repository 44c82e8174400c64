import Derived.Test.YtnjbinpbkjdjpaaGreatDoorP3
import Derived.Test.YtnjbinpbkjdjpaaGreatDoorP1
import Derived.Test.YtnjbinpbkjdjpaaGreatDoorPs
import Derived.Shelf.Strings.BuilderK
import Derived.Lib.AppendIntMem
import Derived.Test.YtnjbinpbkjdjpaaGreatDoorP2
import Derived.Deep.RegionHeld3
import Derived.RangeFuncCalls
import Derived.OrdersIn
import Derived.Scope
import Derived.Maps.OwnIn
import Derived.ControlIn
import Derived.WalkMore
/- Own text: contracts and laws on which the card rests (FnG FnH NnW NnH NnA NmP NmV NmS). -/
set_option linter.unusedVariables false
set_option linter.unusedSimpArgs false
set_option maxRecDepth 1000000
set_option maxHeartbeats 16000000
namespace Go.Proofs.YtnjbinpbkjdjpaaGreatDoor.Nm
section
open Go.Proofs.YtnjbinpbkjdjpaaGreatDoorW.PrintLast Go.Proofs.YtnjbinpbkjdjpaaGreatDoorW.PrintMore Go.Proofs.YtnjbinpbkjdjpaaGreatDoorW.PrintWords Go.RowKit Go.Shelf
theorem natAdd_at {w : World} {A1 A2 : Option Addr} {L1 c1 L2 c2 x y : Nat} (h : N2 w A1 L1 c1 x A2 L2 c2 y) (hx : Sz 200000 x) (hy : Sz 200000 y) :
 Aside0 (∀ W, Below w.heap.size w W → Calls Tryz.prog 174 #[.slice A1 L1 c1, .slice A2 L2 c2] W fun e w' => RF W (x + y) e w') :=
 ⟨fun W hb => natAdd_calls (h.m1.below hb) (h.m2.below hb) (Nat.le_trans (h.m1.sz hx) (by omega)) (Nat.le_trans (h.m2.sz hy) (by omega))⟩
theorem natSub_at {w : World} {A1 A2 : Option Addr} {L1 c1 L2 c2 x y : Nat} (h : N2 w A1 L1 c1 x A2 L2 c2 y) (hx : Sz 200000 x) (hy : Sz 200000 y) (hle : y ≤ x) :
 Aside0 (∀ W, Below w.heap.size w W → Calls Tryz.prog 176 #[.slice A1 L1 c1, .slice A2 L2 c2] W fun e w' => RF W (x - y) e w') :=
 ⟨fun W hb => natSub_calls (h.m1.below hb) (h.m2.below hb) (Nat.le_trans (h.m1.sz hx) (by omega)) (Nat.le_trans (h.m2.sz hy) (by omega)) hle⟩
/-- The sign and the numerator of a sum. -/
def plS (s : Bool) (a : Nat) (z : Bool) (b : Nat) : Bool := if s = z then s else if b ≤ a then s else z
def plN (s : Bool) (a : Nat) (z : Bool) (b : Nat) : Nat := if s = z then a + b else if b ≤ a then a - b else b - a
theorem qPlus_calls {w : World} {s z : Bool} {A1 A2 A3 A4 : Option Addr} {L1 c1 L2 c2 L3 c3 L4 c4 p q u v : Nat} (h1 : N2 w A1 L1 c1 p A2 L2 c2 q) (h2 : N2 w A3 L3 c3 u A4 L4 c4 v)
 (hp : Sz 100000 p) (hq : Sz 100000 q) (hu : Sz 100000 u) (hv : Sz 100000 v) :
 Calls Tryz.prog 118 #[qV s A1 L1 c1 A2 L2 c2, qV z A3 L3 c3 A4 L4 c4] w fun e w' => QX w (plS s (p * v) z (u * q)) (plN s (p * v) z (u * q)) (q * v) e w' := by
 have HT1 := natMul_at h1.m1 h2.m2 hp hv
 have HT2 := natMul_at h2.m1 h1.m2 hu hq
 have HT3 := natMul_at h1.m2 h2.m2 hq hv
 have s1 : Sz 200000 (p * v) := hp.mul hv
 have s2 : Sz 200000 (u * q) := hu.mul hq
 clear h1 h2 hp hq hu hv
 unfold QX
 unfold qV RF at *
 generalize p * v = x1 at *
 generalize u * q = x2 at *
 generalize q * v = x3 at *
 obtain ⟨S4, hS⟩ : ∃ S4, plS s x1 z x2 = S4 := ⟨_, rfl⟩
 obtain ⟨X4, hX⟩ : ∃ X4, plN s x1 z x2 = X4 := ⟨_, rfl⟩
 have HSX := Aside0.mk (And.intro hS hX)
 rw [hS, hX]
 clear hS hX
 go_enter Tryz.func118, Tryz.ntmps118
 go_wp2_with fail
 obtain ⟨wr, hwr⟩ : ∃ wr, (((w.alloc (.cells #[.bool s, .slice A1 L1 c1, .slice A2 L2 c2] 102)).alloc (.cells #[.bool z, .slice A3 L3 c3, .slice A4 L4 c4] 102)).alloc (.cells #[.bool false, .slice none 0 0, .slice none 0 0] 102)) = wr := ⟨_, rfl⟩
 have HF : QF wr w.heap.size s A1 L1 c1 A2 L2 c2 ∧ QF wr (w.heap.size + 1) z A3 L3 c3 A4 L4 c4 ∧ QF wr (w.heap.size + 1 + 1) false none 0 0 none 0 0 := by
  subst hwr
  exact ⟨((QF.new w _ rfl _ _ _ _ _ _ _).alloc _).alloc _, (QF.new _ _ (by simp) _ _ _ _ _ _ _).alloc _, QF.new _ _ (by simp) _ _ _ _ _ _ _⟩
 have HX := Aside0.mk (And.intro HF.1.cell0 (And.intro HF.1.cell1 (And.intro HF.1.cell2 (And.intro HF.2.1.cell0 (And.intro HF.2.1.cell1 HF.2.1.cell2)))))
 have HO := Aside0.mk HF.2.2
 have HA : Aside0 (Below w.heap.size w wr ∧ w.heap.size + 3 ≤ wr.heap.size) := ⟨by subst hwr; repeat (first | exact Below.refl _ _ | apply below_alloc), by subst hwr; simp⟩
 rw [hwr]
 clear hwr HF
 rename_i Q' K hK
 have KP : Aside0 (∀ V, Below (w.heap.size + 2) wr V → (fun V => V.cell? ⟨w.heap.size, 0, none⟩ = some (.bool s) ∧ V.cell? ⟨w.heap.size, 1, none⟩ = some (.slice A1 L1 c1) ∧ V.cell? ⟨w.heap.size, 2, none⟩ = some (.slice A2 L2 c2) ∧ V.cell? ⟨w.heap.size + 1, 0, none⟩ = some (.bool z) ∧ V.cell? ⟨w.heap.size + 1, 1, none⟩ = some (.slice A3 L3 c3) ∧ V.cell? ⟨w.heap.size + 1, 2, none⟩ = some (.slice A4 L4 c4) ∧ Below (w.heap.size + 2) wr V) V) := ⟨fun V hBB => ⟨keepB hBB (by omega) HX.out.1, keepB hBB (by omega) HX.out.2.1, keepB hBB (by omega) HX.out.2.2.1, keepB hBB (by omega) HX.out.2.2.2.1, keepB hBB (by omega) HX.out.2.2.2.2.1, keepB hBB (by omega) HX.out.2.2.2.2.2, hBB⟩⟩
 refine wq KP fun hHeld => ?_
 refine tp 0 ?_
 try simp only [PU]
 refine tp 1 ?_
 try simp only [PU]
 refine tp 2 ?_
 try simp only [PU]
 refine tp 3 ?_
 try simp only [PU]
 refine tp 5 ?_
 try simp only [PU]
 refine tp 6 ?_
 try simp only [PU]
 refine tp 7 ?_
 try simp only [PU]
 refine tp 8 ?_
 try simp only [PU]
 refine tp 10 ?_
 try simp only [PU]
 refine tp 11 ?_
 try simp only [PU]
 refine tp 12 ?_
 try simp only [PU]
 refine tp 13 ?_
 try simp only [PU]
 refine tc 4 fun K hK => ?_
 go_simp
 (go_at_call 173; (with_reducible refine (HT1.out _ (HA.out.1.trans (hHeld.2.2.2.2.2.2.mono (show w.heap.size ≤ w.heap.size + 2 by omega)))).mono ?_); rintro e wm ⟨A5, k5, d5, rfl, hm5, hbq, _⟩; have HO := Aside0.mk ((HO.out.below (below_drew1 (Below.refl _ _))).below hbq); have HM5 := Aside0.mk hm5; clear hm5)
 refine hK.out _ _ ?_ fun hHeld => ?_
 ·(first | exact KP.out _ (bKeep hbq hHeld.2.2.2.2.2.2 (by have := HA.out.2; omega)) | (refine KP.out _ ?_; repeat (first | exact hHeld.2.2.2.2.2.2 | refine Below.setCell ?_ (by first | (simp; done) | (simp; omega)) _)))
 clear hK K; try simp only [PU]
 refine tc 9 fun K hK => ?_
 go_simp
 (go_at_call 173; (with_reducible refine (HT2.out _ (HA.out.1.trans (hHeld.2.2.2.2.2.2.mono (show w.heap.size ≤ w.heap.size + 2 by omega)))).mono ?_); rintro e wm ⟨A6, k6, d6, rfl, hm6, hbq, _⟩; have HO := Aside0.mk (HO.out.below hbq); have HM6 := Aside0.mk (N2.mk (HM5.out.below hbq) hm6); clear hm6)
 refine hK.out _ _ ?_ fun hHeld => ?_
 ·(first | exact KP.out _ (bKeep hbq hHeld.2.2.2.2.2.2 (by have := HA.out.2; omega)) | (refine KP.out _ ?_; repeat (first | exact hHeld.2.2.2.2.2.2 | refine Below.setCell ?_ (by first | (simp; done) | (simp; omega)) _)))
 clear hK K; try simp only [PU]
 refine tc 14 fun K hK => ?_
 go_simp
 (go_at_call 173; (with_reducible refine (HT3.out _ (HA.out.1.trans (hHeld.2.2.2.2.2.2.mono (show w.heap.size ≤ w.heap.size + 2 by omega)))).mono ?_); rintro e wm ⟨A7, k7, d7, rfl, hm7, hbq, _⟩; have HO := Aside0.mk (HO.out.below hbq); have HM7 := Aside0.mk (And.intro (HM6.out.below hbq) hm7); clear hm7)
 refine hK.out _ _ ?_ fun hHeld => ?_
 ·(first | exact KP.out _ (bKeep hbq hHeld.2.2.2.2.2.2 (by have := HA.out.2; omega)) | (refine KP.out _ ?_; repeat (first | exact hHeld.2.2.2.2.2.2 | refine Below.setCell ?_ (by first | (simp; done) | (simp; omega)) _)))
 clear hK K; try simp only [PU]
 refine tp 15 ?_
 try simp only [PU]
 refine tp 16 ?_
 try simp only [PU]
 refine tp 17 ?_
 try simp only [PU]
 refine wpAnyH_done (by kernel_rfl) ?_ _
 refine hK _ _ ?_
 have HX2 := Aside0.mk (And.intro hHeld.1 hHeld.2.2.2.1)
 have HA2 : Aside0 (Below w.heap.size w wm ∧ w.heap.size + 3 ≤ wm.heap.size) := ⟨(HA.out.1.trans (hHeld.2.2.2.2.2.2.mono (show w.heap.size ≤ w.heap.size + 2 by omega))), by have := hHeld.2.2.2.2.2.2.size; have := HA.out.2; omega⟩
 clear HX HA hHeld HT1 HT2 HT3
 have HX := HX2
 have HA := HA2
 clear HX2 HA2
 have x0 := HX.out.1
 have x3 := HX.out.2
 by_cases hsz : s = z
 ·subst hsz
  obtain rfl : s = S4 := by rw [← HSX.out.1]; unfold plS; rw [if_pos rfl]
  have e2 : x1 + x2 = X4 := by rw [← HSX.out.2]; unfold plN; rw [if_pos rfl]
  have HOP := natAdd_at HM7.out.1 s1 s2
  rw [e2] at HOP
  clear e2 s1 s2 HSX
  unfold RF at HOP
  go_wp2_with fail
  clear HX x3
  have HX := Aside0.mk x0
  clear x0
  rename_i Q2 K2 hK2
  have KP : Aside0 (∀ V, Below (w.heap.size + 2) wm V → (fun V => V.cell? ⟨w.heap.size, 0, none⟩ = some (.bool s) ∧ Below (w.heap.size + 2) wm V) V) := ⟨fun V hBB => ⟨keepB hBB (by omega) HX.out, hBB⟩⟩
  refine wq KP fun hHeld => ?_
  refine tp 0 ?_
  try simp only [PU]
  refine tp 1 ?_
  try simp only [PU]
  refine tp 2 ?_
  try simp only [PU]
  refine tp 3 ?_
  try simp only [PU]
  refine tp 5 ?_
  try simp only [PU]
  refine tc 4 fun K hK => ?_
  go_simp
  (go_at_call 174; (with_reducible refine (HOP.out _ (below_drew1 (Below.refl _ _))).mono ?_); rintro e wn ⟨A8, k8, d8, rfl, hm8, hbq, _⟩; have HO := Aside0.mk ((HO.out.below (below_drew1 (Below.refl _ _))).below hbq); have HM9 := Aside0.mk (N2.mk hm8 ((HM7.out.2.below (below_drew1 (Below.refl _ _))).below hbq)); clear hm8; have q0 := HO.out.cell0; have q1 := HO.out.cell1; have q2 := HO.out.cell2; have q4 := HO.out.fr 0; have q5 := HO.out.fr 1; have q6 := HO.out.fr 2)
  refine hK.out _ _ ?_ fun hHeld => ?_
  ·(first | exact KP.out _ (bKeep hbq hHeld.2 (by have := HA.out.2; omega)) | (refine KP.out _ ?_; repeat (first | exact hHeld.2 | refine Below.setCell ?_ (by first | (simp; done) | (simp; omega)) _)))
  clear hK K; try simp only [PU]
  refine tp 6 ?_
  try simp only [PU]
  refine tc 7 fun K hK => ?_
  go_simp
  refine hK.out _ _ ?_ fun hHeld => ?_
  ·(first | exact KP.out _ (bKeep hbq hHeld.2 (by have := HA.out.2; omega)) | (refine KP.out _ ?_; repeat (first | exact hHeld.2 | refine Below.setCell ?_ (by first | (simp; done) | (simp; omega)) _)))
  clear hK K; try simp only [PU]
  refine wpAnyH_done (by kernel_rfl) ?_ _
  refine hK2 _ _ ?_
  go_wp2
  exact q_ret Tryz.results118 rfl HO.out.put3 ⟨A8, k8, d8, A7, k7, d7, rfl, N2.put3 HO.out HM9.out, (HA.out.1.trans (hHeld.2.mono (show w.heap.size ≤ w.heap.size + 2 by omega)))⟩
 ·have HCM := Aside0.mk (cmp_calls HM7.out.1.m1 HM7.out.1.m2 (Nat.le_trans (HM7.out.1.m1.sz s1) (by omega)) (Nat.le_trans (HM7.out.1.m2.sz s2) (by omega)))
  have hsz' : (s == z) = false := by simpa using hsz
  by_cases hle : x2 ≤ x1
  ·obtain rfl : s = S4 := by rw [← HSX.out.1]; unfold plS; rw [if_neg hsz, if_pos hle]
   have e2 : x1 - x2 = X4 := by rw [← HSX.out.2]; unfold plN; rw [if_neg hsz, if_pos hle]
   clear HSX hsz
   go_wp2_with (first | (go_at_call 175; (with_reducible refine HCM.out.mono ?_); rintro e wc ⟨v, rfl, hv, hbc⟩; have hv1 : (0 : Int) ≤ v := (by have := hv.1; omega); have y0 := (hbc.cell (p := ⟨w.heap.size, 0, none⟩) (show w.heap.size < wm.heap.size by have := HA.out.2; omega)).trans HX.out.1; have y3 := (hbc.cell (p := ⟨w.heap.size + 1, 0, none⟩) (show w.heap.size + 1 < wm.heap.size by have := HA.out.2; omega)).trans HX.out.2; have HO2 := Aside0.mk (HO.out.below hbc); clear HO; have HO := HO2; clear HO2; have HM8 := Aside0.mk (And.intro (HM7.out.1.below hbc) (HM7.out.2.below hbc)); clear HM7; have HM7 := HM8; clear HM8; have HA2 : Aside0 (Below w.heap.size w wc ∧ w.heap.size + 3 ≤ wc.heap.size) := ⟨HA.out.1.trans (hbc.mono HA.out.1.size), Nat.le_trans HA.out.2 hbc.size⟩; clear HA x0 x3; have HA := HA2; clear HA2 hbc hv))
   have HOP := natSub_at HM7.out.1 s1 s2 hle
   rw [e2] at HOP
   clear e2 s1 s2 HCM hle HX y3
   unfold RF at HOP
   have HX := Aside0.mk y0
   clear y0
   rename_i Q2 K2 hK2
   have KP : Aside0 (∀ V, Below (w.heap.size + 2) wc V → (fun V => V.cell? ⟨w.heap.size, 0, none⟩ = some (.bool s) ∧ Below (w.heap.size + 2) wc V) V) := ⟨fun V hBB => ⟨keepB hBB (by omega) HX.out, hBB⟩⟩
   refine wq KP fun hHeld => ?_
   refine tp 0 ?_
   try simp only [PU]
   refine tp 1 ?_
   try simp only [PU]
   refine tp 2 ?_
   try simp only [PU]
   refine tp 3 ?_
   try simp only [PU]
   refine tp 5 ?_
   try simp only [PU]
   refine tc 4 fun K hK => ?_
   go_simp
   (go_at_call 176; (with_reducible refine (HOP.out _ (below_drew1 (Below.refl _ _))).mono ?_); rintro e wn ⟨A8, k8, d8, rfl, hm8, hbq, _⟩; have HO := Aside0.mk ((HO.out.below (below_drew1 (Below.refl _ _))).below hbq); have HM9 := Aside0.mk (N2.mk hm8 ((HM7.out.2.below (below_drew1 (Below.refl _ _))).below hbq)); clear hm8; have q0 := HO.out.cell0; have q1 := HO.out.cell1; have q2 := HO.out.cell2; have q4 := HO.out.fr 0; have q5 := HO.out.fr 1; have q6 := HO.out.fr 2)
   refine hK.out _ _ ?_ fun hHeld => ?_
   ·(first | exact KP.out _ (bKeep hbq hHeld.2 (by have := HA.out.2; omega)) | (refine KP.out _ ?_; repeat (first | exact hHeld.2 | refine Below.setCell ?_ (by first | (simp; done) | (simp; omega)) _)))
   clear hK K; try simp only [PU]
   refine tp 6 ?_
   try simp only [PU]
   refine tc 7 fun K hK => ?_
   go_simp
   refine hK.out _ _ ?_ fun hHeld => ?_
   ·(first | exact KP.out _ (bKeep hbq hHeld.2 (by have := HA.out.2; omega)) | (refine KP.out _ ?_; repeat (first | exact hHeld.2 | refine Below.setCell ?_ (by first | (simp; done) | (simp; omega)) _)))
   clear hK K; try simp only [PU]
   refine wpAnyH_done (by kernel_rfl) ?_ _
   refine hK2 _ _ ?_
   go_wp2
   exact q_ret Tryz.results118 rfl HO.out.put3 ⟨A8, k8, d8, A7, k7, d7, rfl, N2.put3 HO.out HM9.out, (HA.out.1.trans (hHeld.2.mono (show w.heap.size ≤ w.heap.size + 2 by omega)))⟩
  ·obtain rfl : z = S4 := by rw [← HSX.out.1]; unfold plS; rw [if_neg hsz, if_neg hle]
   have e2 : x2 - x1 = X4 := by rw [← HSX.out.2]; unfold plN; rw [if_neg hsz, if_neg hle]
   clear HSX hsz
   go_wp2_with (first | (go_at_call 175; (with_reducible refine HCM.out.mono ?_); rintro e wc ⟨v, rfl, hv, hbc⟩; have hv1 : ¬ (0 : Int) ≤ v := (by have := hv.1; omega); have y0 := (hbc.cell (p := ⟨w.heap.size, 0, none⟩) (show w.heap.size < wm.heap.size by have := HA.out.2; omega)).trans HX.out.1; have y3 := (hbc.cell (p := ⟨w.heap.size + 1, 0, none⟩) (show w.heap.size + 1 < wm.heap.size by have := HA.out.2; omega)).trans HX.out.2; have HO2 := Aside0.mk (HO.out.below hbc); clear HO; have HO := HO2; clear HO2; have HM8 := Aside0.mk (And.intro (HM7.out.1.below hbc) (HM7.out.2.below hbc)); clear HM7; have HM7 := HM8; clear HM8; have HA2 : Aside0 (Below w.heap.size w wc ∧ w.heap.size + 3 ≤ wc.heap.size) := ⟨HA.out.1.trans (hbc.mono HA.out.1.size), Nat.le_trans HA.out.2 hbc.size⟩; clear HA x0 x3; have HA := HA2; clear HA2 hbc hv))
   have HOP := natSub_at (N2.mk HM7.out.1.m2 HM7.out.1.m1) s2 s1 (by omega)
   rw [e2] at HOP
   clear e2 s1 s2 HCM hle HX y0
   unfold RF at HOP
   have HX := Aside0.mk y3
   clear y3
   rename_i Q2 K2 hK2
   have KP : Aside0 (∀ V, Below (w.heap.size + 2) wc V → (fun V => V.cell? ⟨w.heap.size + 1, 0, none⟩ = some (.bool z) ∧ Below (w.heap.size + 2) wc V) V) := ⟨fun V hBB => ⟨keepB hBB (by omega) HX.out, hBB⟩⟩
   refine wq KP fun hHeld => ?_
   refine tp 0 ?_
   try simp only [PU]
   refine tp 1 ?_
   try simp only [PU]
   refine tp 2 ?_
   try simp only [PU]
   refine tp 3 ?_
   try simp only [PU]
   refine tp 5 ?_
   try simp only [PU]
   refine tc 4 fun K hK => ?_
   go_simp
   (go_at_call 176; (with_reducible refine (HOP.out _ (below_drew1 (Below.refl _ _))).mono ?_); rintro e wn ⟨A8, k8, d8, rfl, hm8, hbq, _⟩; have HO := Aside0.mk ((HO.out.below (below_drew1 (Below.refl _ _))).below hbq); have HM9 := Aside0.mk (N2.mk hm8 ((HM7.out.2.below (below_drew1 (Below.refl _ _))).below hbq)); clear hm8; have q0 := HO.out.cell0; have q1 := HO.out.cell1; have q2 := HO.out.cell2; have q4 := HO.out.fr 0; have q5 := HO.out.fr 1; have q6 := HO.out.fr 2)
   refine hK.out _ _ ?_ fun hHeld => ?_
   ·(first | exact KP.out _ (bKeep hbq hHeld.2 (by have := HA.out.2; omega)) | (refine KP.out _ ?_; repeat (first | exact hHeld.2 | refine Below.setCell ?_ (by first | (simp; done) | (simp; omega)) _)))
   clear hK K; try simp only [PU]
   refine tp 6 ?_
   try simp only [PU]
   refine tc 7 fun K hK => ?_
   go_simp
   refine hK.out _ _ ?_ fun hHeld => ?_
   ·(first | exact KP.out _ (bKeep hbq hHeld.2 (by have := HA.out.2; omega)) | (refine KP.out _ ?_; repeat (first | exact hHeld.2 | refine Below.setCell ?_ (by first | (simp; done) | (simp; omega)) _)))
   clear hK K; try simp only [PU]
   refine wpAnyH_done (by kernel_rfl) ?_ _
   refine hK2 _ _ ?_
   go_wp2
   exact q_ret Tryz.results118 rfl HO.out.put3 ⟨A8, k8, d8, A7, k7, d7, rfl, N2.put3 HO.out HM9.out, (HA.out.1.trans (hHeld.2.mono (show w.heap.size ≤ w.heap.size + 2 by omega)))⟩
theorem qMinus_calls {w : World} {s z : Bool} {A1 A2 A3 A4 : Option Addr} {L1 c1 L2 c2 L3 c3 L4 c4 p q u v : Nat} (h1 : N2 w A1 L1 c1 p A2 L2 c2 q) (h2 : N2 w A3 L3 c3 u A4 L4 c4 v)
 (hp : Sz 100000 p) (hq : Sz 100000 q) (hu : Sz 100000 u) (hv : Sz 100000 v) :
 Calls Tryz.prog 80 #[qV s A1 L1 c1 A2 L2 c2, qV z A3 L3 c3 A4 L4 c4] w fun e w' => QX w (plS s (p * v) (!z) (u * q)) (plN s (p * v) (!z) (u * q)) (q * v) e w' := by
 have HT1 : Aside0 (∀ W, Below w.heap.size w W → Calls Tryz.prog 92 #[qV z A3 L3 c3 A4 L4 c4] W fun e w' => QX W (!z) u v e w') := ⟨fun W hb => qOpposite_calls (h2.below hb)⟩
 have HPL : Aside0 (∀ W A k c A' k' c', Below w.heap.size w W → N2 W A k c u A' k' c' v → Calls Tryz.prog 118 #[qV s A1 L1 c1 A2 L2 c2, qV (!z) A k c A' k' c'] W fun e w' => QX W (plS s (p * v) (!z) (u * q)) (plN s (p * v) (!z) (u * q)) (q * v) e w') := ⟨fun W A k c A' k' c' hb h => qPlus_calls (h1.below hb) h hp hq hu hv⟩
 clear h1 h2 hp hq hu hv
 generalize plS s (p * v) (!z) (u * q) = S4 at *
 generalize plN s (p * v) (!z) (u * q) = X4 at *
 generalize q * v = x3 at *
 generalize (!z) = y at *
 unfold QX at *
 unfold qV at *
 go_enter Tryz.func80, Tryz.ntmps80
 go_wp2_with fail
 obtain ⟨wr, hwr⟩ : ∃ wr, (((w.alloc (.cells #[.bool s, .slice A1 L1 c1, .slice A2 L2 c2] 102)).alloc (.cells #[.bool z, .slice A3 L3 c3, .slice A4 L4 c4] 102)).alloc (.cells #[.bool false, .slice none 0 0, .slice none 0 0] 102)) = wr := ⟨_, rfl⟩
 have HF : QF wr w.heap.size s A1 L1 c1 A2 L2 c2 ∧ QF wr (w.heap.size + 1) z A3 L3 c3 A4 L4 c4 ∧ QF wr (w.heap.size + 1 + 1) false none 0 0 none 0 0 := by
  subst hwr
  exact ⟨((QF.new w _ rfl _ _ _ _ _ _ _).alloc _).alloc _, (QF.new _ _ (by simp) _ _ _ _ _ _ _).alloc _, QF.new _ _ (by simp) _ _ _ _ _ _ _⟩
 have HX := Aside0.mk (And.intro HF.1.cell0 (And.intro HF.1.cell1 (And.intro HF.1.cell2 (And.intro HF.2.1.cell0 (And.intro HF.2.1.cell1 HF.2.1.cell2)))))
 have HO := Aside0.mk HF.2.2
 have HA : Aside0 (Below w.heap.size w wr ∧ w.heap.size + 3 ≤ wr.heap.size) := ⟨by subst hwr; repeat (first | exact Below.refl _ _ | apply below_alloc), by subst hwr; simp⟩
 rw [hwr]
 clear hwr HF
 rename_i Q' K hK
 have KP : Aside0 (∀ V, Below (w.heap.size + 2) wr V → (fun V => V.cell? ⟨w.heap.size, 0, none⟩ = some (.bool s) ∧ V.cell? ⟨w.heap.size, 1, none⟩ = some (.slice A1 L1 c1) ∧ V.cell? ⟨w.heap.size, 2, none⟩ = some (.slice A2 L2 c2) ∧ V.cell? ⟨w.heap.size + 1, 0, none⟩ = some (.bool z) ∧ V.cell? ⟨w.heap.size + 1, 1, none⟩ = some (.slice A3 L3 c3) ∧ V.cell? ⟨w.heap.size + 1, 2, none⟩ = some (.slice A4 L4 c4) ∧ Below (w.heap.size + 2) wr V) V) := ⟨fun V hBB => ⟨keepB hBB (by omega) HX.out.1, keepB hBB (by omega) HX.out.2.1, keepB hBB (by omega) HX.out.2.2.1, keepB hBB (by omega) HX.out.2.2.2.1, keepB hBB (by omega) HX.out.2.2.2.2.1, keepB hBB (by omega) HX.out.2.2.2.2.2, hBB⟩⟩
 refine wq KP fun hHeld => ?_
 refine tp 0 ?_
 try simp only [PU]
 refine tp 1 ?_
 try simp only [PU]
 refine tc 2 fun K hK => ?_
 go_simp
 (go_at_call 92; (with_reducible refine (HT1.out _ (HA.out.1.trans (hHeld.2.2.2.2.2.2.mono (show w.heap.size ≤ w.heap.size + 2 by omega)))).mono ?_); rintro e wm ⟨A5, k5, d5, A6, k6, d6, rfl, hm5, hbq⟩; have HO := Aside0.mk ((HO.out.below (below_drew1 (Below.refl _ _))).below hbq); have HM5 := Aside0.mk hm5; clear hm5)
 refine hK.out _ _ ?_ fun hHeld => ?_
 ·(first | exact KP.out _ (bKeep hbq hHeld.2.2.2.2.2.2 (by have := HA.out.2; omega)) | (refine KP.out _ ?_; repeat (first | exact hHeld.2.2.2.2.2.2 | refine Below.setCell ?_ (by first | (simp; done) | (simp; omega)) _)))
 clear hK K; try simp only [PU]
 refine tc 3 fun K hK => ?_
 go_simp
 (go_at_call 118; (with_reducible refine (HPL.out _ _ _ _ _ _ _ (HA.out.1.trans (hHeld.2.2.2.2.2.2.mono (show w.heap.size ≤ w.heap.size + 2 by omega))) HM5.out).mono ?_); rintro e wm ⟨A7, k7, d7, A8, k8, d8, rfl, hm7, hbq⟩; have HO := Aside0.mk (HO.out.below hbq); have HM7 := Aside0.mk hm7; clear hm7; have q0 := HO.out.cell0; have q1 := HO.out.cell1; have q2 := HO.out.cell2; have q4 := HO.out.fr 0; have q5 := HO.out.fr 1; have q6 := HO.out.fr 2)
 refine hK.out _ _ ?_ fun hHeld => ?_
 ·(first | exact KP.out _ (bKeep hbq hHeld.2.2.2.2.2.2 (by have := HA.out.2; omega)) | (refine KP.out _ ?_; repeat (first | exact hHeld.2.2.2.2.2.2 | refine Below.setCell ?_ (by first | (simp; done) | (simp; omega)) _)))
 clear hK K; try simp only [PU]
 refine tc 4 fun K hK => ?_
 go_simp
 refine hK.out _ _ ?_ fun hHeld => ?_
 ·(first | exact KP.out _ (bKeep hbq hHeld.2.2.2.2.2.2 (by have := HA.out.2; omega)) | (refine KP.out _ ?_; repeat (first | exact hHeld.2.2.2.2.2.2 | refine Below.setCell ?_ (by first | (simp; done) | (simp; omega)) _)))
 clear hK K; try simp only [PU]
 refine wpAnyH_done (by kernel_rfl) ?_ _
 refine hK _ _ ?_
 go_wp2
 exact q_ret Tryz.results80 rfl HO.out.put3 ⟨A7, k7, d7, A8, k8, d8, rfl, N2.put3 HO.out HM7.out, (HA.out.1.trans (hHeld.2.2.2.2.2.2.mono (show w.heap.size ≤ w.heap.size + 2 by omega)))⟩
end
section
open Go.RowKit Go.Shelf
theorem bX : (Tryz.prog.info? 263).map (·.size) = some 2 := by kernel_rfl
theorem bY : liesAt Tryz.prog Tryz.prog.depth 263 (2 / Tryz.prog.cellsOf 263) 0 263 1 = true := by kernel_rfl
theorem bZ : (Tryz.prog.info? 5).map (fun i => (i.zero, i.size, i.bytes)) = some (some (.int .u8 0), 1, 1) := by kernel_rfl
theorem copyCheck_used (b : Nat) (w : World) (h0 : w.cell? ⟨b, 0, none⟩ = some (.pointer (some ⟨b, 0, none⟩))) :
 Calls Tryz.prog 237 #[.pointer (some ⟨b, 0, none⟩)] w fun e w' => e = .returned (.tuple #[]) ∧ w' = w := by
 obtain ⟨j, hj, _⟩ := Option.map_eq_some_iff.1 bX
 go_enter Tryz.func237, Tryz.ntmps237
 go_wp2
 rw [Lib.run_neq_ptr_same w _ Tryz.underlying261 hj]
 go_wp2
 go_end0
 exact ⟨rfl, rfl⟩
theorem copyCheck_fresh (b : Nat) (w : World) (h0 : w.cell? ⟨b, 0, none⟩ = some (.pointer none)) (hsh : w.shape? b = some (263, 2)) (hfz : w.frozen? ⟨b, 0, none⟩ = false) :
 Calls Tryz.prog 237 #[.pointer (some ⟨b, 0, none⟩)] w fun e w' => e = .returned (.tuple #[]) ∧ w' = w.setCell ⟨b, 0, none⟩ (.pointer (some ⟨b, 0, none⟩)) := by
 obtain ⟨j, hj, hjs⟩ := Option.map_eq_some_iff.1 bX
 go_enter Tryz.func237, Tryz.ntmps237
 go_wp2
 rw [Lib.run_to_unsafe w ⟨b, 0, none⟩ Tryz.underlying261 Tryz.underlying280 hj (by rw [hjs]; decide) hsh (Nat.zero_lt_succ 1)]
 simp only [Result.andThen]
 rw [Oper.upon_value]
 go_wp2
 rw [run_callFunc_extern Tryz.func243 (by kernel_rfl) (by kernel_rfl) (by kernel_rfl) (e := Extern.AbiNoEscape.same) (by kernel_rfl)]
 rw [Lib.run_noEscape]
 simp only [Result.andThen]
 rw [Oper.upon_value]
 go_wp2
 rw [Lib.run_from_unsafe w ⟨b, 0, none⟩ Tryz.underlying280 Tryz.underlying261 hj hsh bY]
 simp only [Result.andThen]
 rw [Oper.upon_value]
 go_wp2
 go_end0
 exact ⟨rfl, rfl⟩
theorem copyCheck_calls (B b : Nat) (bs : List Value) (w : World) (h : Lib.IsBuilderF 263 5 B b bs w) :
 Calls Tryz.prog 237 #[.pointer (some ⟨b, 0, none⟩)] w fun e w' => e = .returned (.tuple #[]) ∧ (Lib.BuilderAtF 263 5 B b (.pointer (some ⟨b, 0, none⟩)) bs w' ∧ Below B w w' ∧ Lib.OthersKept 5 (some b) w w') := by
 rcases h with h | h
 ·refine (copyCheck_fresh b w h.cell0 h.shape h.frozen0).mono ?_
  rintro e w' ⟨rfl, rfl⟩
  exact ⟨rfl, h.used _, (Below.refl B w).setCell (p := ⟨b, 0, none⟩) h.1 _, (Lib.OthersKept.refl _ _ w).setCell ⟨b, 0, none⟩ rfl _⟩
 ·refine (copyCheck_used b w h.cell0).mono ?_
  rintro e w' ⟨rfl, rfl⟩
  exact ⟨rfl, h, Below.refl B _, Lib.OthersKept.refl _ _ _⟩
theorem writeByte_calls (B b : Nat) (bs : List Value) (c : Int) (w : World) (h : Lib.IsBuilderF 263 5 B b bs w) (hlen : bs.length + 1 ≤ 140737488355328) (hBw : B ≤ w.heap.size) :
 Calls Tryz.prog 228 #[.pointer (some ⟨b, 0, none⟩), .int .u8 c] w fun e w' => e = .returned .nilIface ∧ (Lib.BuilderAtF 263 5 B b (.pointer (some ⟨b, 0, none⟩)) (bs ++ [.int .u8 c]) w' ∧ Below B w w' ∧ Lib.OthersKept 5 (some b) w w') := by
 obtain ⟨i0, hi, hz0, hz1, hz2⟩ := info_parts bZ
 go_enter Tryz.func228, Tryz.ntmps228
 go_wp2_with (go_at_call 237; refine (copyCheck_calls B b bs _ h).mono ?_)
 rintro e w1 ⟨rfl, h1, hb1, hk1⟩
 obtain ⟨hB, v, hbk, hown, hne⟩ := h1
 have c0 : w1.cell? ⟨b, 0, none⟩ = some (.pointer (some ⟨b, 0, none⟩)) := by rw [Lib.cell_of_heap hbk]; rfl
 have c1 : w1.cell? ⟨b, 1, none⟩ = some v := by rw [Lib.cell_of_heap hbk]; rfl
 go_wp2_with (at_builtin; refine wpList_append_ownF _ rfl _ _ 232 rfl B 5 i0 (.int .u8 0) 1 1 Tryz.underlying232 hi hz0 hz1 hz2 rfl (by decide) _ _ _ rfl (hown.alloc _) ⟨w1.heap.size, 0, none⟩ 1 1 [.int .u8 c] rfl rfl ?c1 ?c2 ?c3 ?c4 ?c5 ?_)
 case c1 =>
  intro j u hj
  match j, hj with
  | 0, hj => simp at hj; subst hj; simp [Addr.add]
 case c2 => intro u hu; simp at hu; subst hu; rfl
 case c3 => unfold maxLen; omega
 case c4 => omega
 case c5 => have := hb1.size; simp; omega
 intro v' w2 hown' hgrow _
 have hlt : b < w1.heap.size := by
  rcases Nat.lt_or_ge b w1.heap.size with h' | h'
  ·exact h'
  ·simp [Array.getElem?_eq_none h'] at hbk
 have hb2 : w2.heap[b]? = some (.cells #[.pointer (some ⟨b, 0, none⟩), v] 263 (0, 0)) := by
  rw [hgrow.block b (by simp; omega) (fun e => hne e.symm), Lib.alloc_old w1 _ b hlt]
  exact hbk
 have d0 : w2.cell? ⟨b, 0, none⟩ = some (.pointer (some ⟨b, 0, none⟩)) := by rw [Lib.cell_of_heap hb2]; rfl
 have d1 : w2.cell? ⟨b, 1, none⟩ = some v := by rw [Lib.cell_of_heap hb2]; rfl
 have f1 : w2.frozen? ⟨b, 1, none⟩ = false := Lib.frozen_of_heap hb2 1
 obtain ⟨g, cap, rfl⟩ : ∃ g cap, v' = .slice (some ⟨g, 0, none⟩) (bs.length + 1) cap := by
  rcases hown'.2 with ⟨_, h0⟩ | ⟨g, cap, cur, fz, hv, _⟩
  ·omega
  ·exact ⟨g, cap, hv⟩
 go_wp2
 go_ret
 refine ⟨rfl, ?_, ?_, ((hk1.alloc _).grown hgrow (Lib.ownsRowF_kind (hown.alloc _))).setCell ⟨b, 1, none⟩ rfl _⟩
 ·exact Lib.BuilderAtF.put (T := 263) (e := 5) hB hb2 (bs' := bs ++ [.int .u8 c]) (by simpa using hown') (by decide)
 ·exact ((hb1.alloc (by have := hb1.size; omega) _).grown hgrow (by have := hb1.size; simp; omega) (fun k hk => (hown.lt k hk).1)).setCell (p := ⟨b, 1, none⟩) hB _
end
section
open Go.Lib Go.RowKit Go.Shelf
section
variable {P : Program} (w : World)
theorem run_append_string_at (base : Nat) (t u ty e : TypeId) (i : TypeInfo) (ht : P.underlying t = some (.slice e)) (hu : P.underlying u = some .string) (hi : P.info? e = some i) (hz : i.zero = some (.int .u8 0))
 (hsize : i.size = 1) (hby : i.bytes = 1)
 (v : Value) (n : Nat) (xs : List Value) (hown : w.ownsRowF base e 1 v n xs) (s : ByteArray)
 (h63 : n + s.size ≤ maxLen) (hbytes : n + s.size ≤ 140737488355328) (hbase : base ≤ w.heap.size) :
 ∃ v' w', (Builtin.append_ #[t, u] ty #[v, .string s]).run P w = .ok v' w' ∧ w'.ownsRowF base e 1 v' (n + s.size) (xs ++ strCells s) ∧ w.grownBy w' v.ownBlock ∧
  (∀ g, v'.ownBlock = some g → v.ownBlock = some g ∨ w.heap.size ≤ g) := by
 rcases hown.2 with ⟨rfl, rfl⟩ | ⟨g, cap, cur, fz, rfl, hbg, hg, hfz, hnc, hcm, hcs, htake⟩
 ·obtain ⟨v', w', h1, h2, h3, h4⟩ := run_append_own_string (P := P) w w.heap.size t u ty e i ht hu hi hz hsize hby (.slice none 0 0) 0 xs ⟨hown.1, .inl ⟨rfl, rfl⟩⟩ s h63 hbytes (Nat.le_refl _)
  have h2' := World.ownsRowF_of h2
  refine ⟨v', w', h1, ⟨h2'.1, ?_⟩, h3, fun g hg => .inr (h2'.lt g hg).1⟩
  rcases h2'.2 with h | ⟨g, cap, cur, fz, hv, hb, hr⟩
  ·exact .inl h
  ·exact .inr ⟨g, cap, cur, fz, hv, Nat.le_trans hbase hb, hr⟩
 ·have hsmall : n + s.size ≤ 9223372036854775807 := by simp only [maxLen] at h63; omega
  have hxl : xs.length = n := by simpa using hown.1
  have hlen : (xs ++ strCells s).length = (n + s.size) * 1 := by rw [List.length_append, hxl, strCells_length, Nat.mul_one]
  by_cases hroom : n + s.size ≤ cap
  ·have hcs' : cur.size = cap := by simpa using hcs
   have hr := run_append_room_stringF (P := P) w t u ty e i ht hu hi hsize g n cap cur fz hg (by simpa using hfz) s hroom (by omega)
   refine ⟨_, _, hr, ⟨hlen, .inr ⟨g, cap, _, fz, rfl, hbg, setRow_heap w g cur _ e _ hg, by omega, hroom, hcm, ?_, ?_⟩⟩, ⟨rfl, rfl, rfl, by simp, fun k _ hk => setRow_other w g k _ (fun e => hk (by simp [Value.ownBlock, e]))⟩, fun x hx => .inl hx⟩
   ·simp only [List.size_toArray, List.length_append, List.length_take, List.length_drop, Array.length_toList, strCells_length]
    omega
   ·have ht' : cur.toList.take n = xs := by simpa using htake
    rw [ht', ← hlen]
    exact List.take_left
  ·have holds : ∀ j u, xs[j]? = some u → w.cell? ((⟨g, 0, none⟩ : Addr).add j) = some u := hown.cells (g := g) rfl
   have hr := run_append_grow_string (P := P) w t u ty e i (.int .u8 0) ht hu hi hz ⟨g, 0, none⟩ n cap xs (by rw [hsize]; simpa using hxl) holds s (by omega) (by omega) (by rw [hby]; exact growslice_fits (by omega) (by omega))
   have hge := grownCap_ge w (n + s.size) cap e
   have hcm2 : grownCap w (n + s.size) cap e ≤ maxLen := grownCap_le_maxLen w (n + s.size) cap e h63
   refine ⟨_, _, hr, ⟨hlen, .inr ⟨w.heap.size, _, _, (0, 0), rfl, hbase, heap_alloc_new w.drew _, Nat.zero_le _, hge, hcm2, ?_, ?_⟩⟩, ⟨rfl, rfl, rfl, by simp, fun k hk _ => by first | exact heap_alloc_old w.drew _ k hk | exact heap_alloc_old w.drew _ hk⟩, fun x hx => .inr (by simp [Value.ownBlock] at hx; omega)⟩
   ·have hz1 : (Value.int IntKind.u8 0).cells.size = 1 := rfl
    simp only [Array.size_append, List.size_toArray, size_zeroCells, hz1, hxl, strCells_length]
    omega
   ·simp only [Array.toList_append, List.append_assoc]
    rw [← List.append_assoc, ← hlen]
    exact List.take_left
theorem wpList_append_string_at {ops : Array Oper} {rest : List Oper} {o : Oper} {a : Act} {Q : Exit → Act → World → Prop} (hgd : o.guard = none) (sl x : Operand) (t u : TypeId)
 (ho : o.op = .call { callee := .builtin .append, args := #[sl, x], argTypes := #[t, u] })
 (base : Nat) (e : TypeId) (i : TypeInfo) (ht : P.underlying t = some (.slice e)) (hu : P.underlying u = some .string) (hi : P.info? e = some i) (hz : i.zero = some (.int .u8 0))
 (hsize : i.size = 1) (hby : i.bytes = 1)
 (v : Value) (n : Nat) (xs : List Value) (hs : a.eval sl = v) (hown : w.ownsRowF base e 1 v n xs) (s : ByteArray) (hx : a.eval x = .string s)
 (h63 : n + s.size ≤ maxLen) (hbytes : n + s.size ≤ 140737488355328) (hbase : base ≤ w.heap.size)
 (h : ∀ v' w', w'.ownsRowF base e 1 v' (n + s.size) (xs ++ strCells s) → w.grownBy w' v.ownBlock → (∀ g, v'.ownBlock = some g → v.ownBlock = some g ∨ w.heap.size ≤ g) → wpList P ops Q rest (a.put o.dst v') w') : wpList P ops Q (o :: rest) a w := by
 refine wpList_plain hgd fun K hK => ?_
 obtain ⟨v', w', hr, h2, h3, h4⟩ := run_append_string_at (P := P) w base t u o.type e i ht hu hi hz hsize hby v n xs hown s h63 hbytes hbase
 unfold Oper.wp execOp
 simp only [ho, resolve, invoke, builtin, Sem.run_bind, Sem.run_pure, Result.andThen_ok, List.map_toArray, List.map_cons, List.map_nil, hs, hx, hr]
 exact hK _ _ (h v' w' h2 h3 h4)
end
/-- A builder with its row in sight. -/
def BX (B b : Nat) (p v : Value) (bs : List Value) (w : World) : Prop :=
 (p = .pointer none ∨ p = .pointer (some ⟨b, 0, none⟩)) ∧ B ≤ b ∧ w.heap[b]? = some (.cells #[p, v] 263 (0, 0)) ∧ w.ownsRowF B 5 1 v bs.length bs ∧ v.ownBlock ≠ some b
theorem BX.of {B b : Nat} {bs : List Value} {w : World} (h : Lib.IsBuilderF 263 5 B b bs w) : ∃ p v, BX B b p v bs w := by
 rcases h with ⟨h1, v, h2⟩ | ⟨h1, v, h2⟩
 ·exact ⟨_, v, .inl rfl, h1, h2⟩
 ·exact ⟨_, v, .inr rfl, h1, h2⟩
theorem BX.builder {B b : Nat} {p v : Value} {bs : List Value} {w : World} (h : BX B b p v bs w) : Lib.IsBuilderF 263 5 B b bs w := by
 obtain ⟨h0, h1, h2⟩ := h
 rcases h0 with rfl | rfl
 ·exact .inl ⟨h1, v, h2⟩
 ·exact .inr ⟨h1, v, h2⟩
theorem BX.lt {B b : Nat} {p v : Value} {bs : List Value} {w : World} (h : BX B b p v bs w) : b < w.heap.size := (Array.getElem?_eq_some_iff.1 h.2.2.1).1
theorem BX.below {B b : Nat} {p v : Value} {bs : List Value} {w w' : World} (h : BX B b p v bs w) (hb : Below w.heap.size w w') : BX B b p v bs w' := by
 have hl := h.lt
 obtain ⟨h0, h1, h2, h3, h4⟩ := h
 refine ⟨h0, h1, (hb.block b hl).trans h2, ⟨h3.1, ?_⟩, h4⟩
 have h3' := h3
 rcases h3.2 with hn | ⟨g, cap, cur, fz, rfl, hbg, hg, hr⟩
 ·exact .inl hn
 ·exact .inr ⟨g, cap, cur, fz, rfl, hbg, (hb.block g (h3'.lt g rfl).2).trans hg, hr⟩
theorem copyCheckX {B b : Nat} {p v : Value} {bs : List Value} {w : World} (h : BX B b p v bs w) :
 Calls Tryz.prog 237 #[.pointer (some ⟨b, 0, none⟩)] w fun e w' => e = .returned (.tuple #[]) ∧ (BX B b (.pointer (some ⟨b, 0, none⟩)) v bs w' ∧ Below B w w' ∧ w'.heap.size = w.heap.size ∧ ∀ k, k ≠ b → w'.heap[k]? = w.heap[k]?) := by
 obtain ⟨h0, h1, h2, h3, h4⟩ := h
 rcases h0 with rfl | rfl
 ·have hb : Lib.BuilderAtF 263 5 B b (.pointer none) bs w := ⟨h1, v, h2, h3, h4⟩
  refine (copyCheck_fresh b w hb.cell0 hb.shape hb.frozen0).mono ?_
  rintro e w' ⟨rfl, rfl⟩
  refine ⟨rfl, ⟨.inr rfl, h1, ?_, ?_, h4⟩, (Below.refl B w).setCell (p := ⟨b, 0, none⟩) h1 _, by simp, fun k hk => Below.heap_setCell _ _ _ _ (fun e => hk (by first | exact e | exact e.symm))⟩
  ·simp [World.setCell, Array.getElem?_modify, h2]
  ·exact h3.kept (row := some b) ⟨rfl, rfl, rfl, by simp [World.setCell], fun k _ hk => Below.heap_setCell _ _ _ _ (fun e => hk (by simp [e]))⟩ (.inr h4)
 ·refine (copyCheck_used b w (Lib.BuilderAtF.cell0 (p := .pointer (some ⟨b, 0, none⟩)) ⟨h1, v, h2, h3, h4⟩)).mono ?_
  rintro e w' ⟨rfl, rfl⟩
  exact ⟨rfl, ⟨.inr rfl, h1, h2, h3, h4⟩, Below.refl B _, rfl, fun _ _ => rfl⟩
theorem writeStringX {B b : Nat} {p v : Value} {bs : List Value} {w : World} (s : ByteArray) (h : BX B b p v bs w) (hlen : bs.length + s.size ≤ 140737488355328) (hBw : B ≤ w.heap.size) :
 Calls Tryz.prog 231 #[.pointer (some ⟨b, 0, none⟩), .string s] w fun e w' => ∃ p' v', e = .returned (.tuple #[.int .i64 s.size, .nilIface]) ∧ BX B b p' v' (bs ++ Lib.strCells s) w' ∧ Below B w w' ∧ (∀ k, k < w.heap.size → k ≠ b → v.ownBlock ≠ some k → w'.heap[k]? = w.heap[k]?) ∧ (∀ g, v'.ownBlock = some g → v.ownBlock = some g ∨ w.heap.size ≤ g) := by
 obtain ⟨i0, hi, hz0, hz1, hz2⟩ := info_parts bZ
 go_enter Tryz.func231, Tryz.ntmps231
 go_wp2_with (go_at_call 237; refine (copyCheckX h).mono ?_)
 rintro e w1 ⟨rfl, h1, hb1, hz1', hk1⟩
 obtain ⟨h0, hB, hbk, hown, hne⟩ := h1
 have c0 : w1.cell? ⟨b, 0, none⟩ = some (.pointer (some ⟨b, 0, none⟩)) := by rw [Lib.cell_of_heap hbk]; rfl
 have c1 : w1.cell? ⟨b, 1, none⟩ = some v := by rw [Lib.cell_of_heap hbk]; rfl
 go_wp2_with (at_builtin; refine wpList_append_string_at _ rfl _ _ 232 9 rfl B 5 i0 Tryz.underlying232 Tryz.underlying9 hi hz0 hz1 hz2 _ _ _ rfl hown s rfl ?c3 ?c4 ?c5 ?_)
 case c3 => unfold maxLen; omega
 case c4 => omega
 case c5 => have := hb1.size; omega
 intro v' w2 hown' hgrow hat
 have hlt : b < w1.heap.size := (Array.getElem?_eq_some_iff.1 hbk).1
 have hb2 : w2.heap[b]? = some (.cells #[.pointer (some ⟨b, 0, none⟩), v] 263 (0, 0)) := by
  rw [hgrow.block b hlt (fun e => hne e.symm)]
  exact hbk
 have d0 : w2.cell? ⟨b, 0, none⟩ = some (.pointer (some ⟨b, 0, none⟩)) := by rw [Lib.cell_of_heap hb2]; rfl
 have d1 : w2.cell? ⟨b, 1, none⟩ = some v := by rw [Lib.cell_of_heap hb2]; rfl
 have f1 : w2.frozen? ⟨b, 1, none⟩ = false := Lib.frozen_of_heap hb2 1
 obtain ⟨ao, n', cap, rfl⟩ : ∃ ao n' cap, v' = .slice ao n' cap := by
  rcases hown'.2 with ⟨hv, _⟩ | ⟨g, cap, cur, fz, hv, _⟩
  ·exact ⟨_, _, _, hv⟩
  ·exact ⟨_, _, _, hv⟩
 go_wp2
 go_ret2
 have hp := Lib.BuilderAtF.put (T := 263) (e := 5) hB hb2 (bs' := bs ++ Lib.strCells s) (by simpa [Lib.strCells_length] using hown') (by decide)
 have hne' := Lib.ownBlock_neF hown' hb2 (by decide)
 have hown2 : w2.ownsRowF B 5 1 (.slice ao n' cap) (bs ++ Lib.strCells s).length (bs ++ Lib.strCells s) := by simpa [Lib.strCells_length] using hown'
 refine ⟨_, _, rfl, ⟨.inr rfl, hB, ?_, ?_, hne'⟩, ?_, fun k hk hkb hkv => ?_, fun g hg => ?_⟩
 ·simp [World.setCell, Array.getElem?_modify, hb2]
 ·exact hown2.kept (row := some b) ⟨rfl, rfl, rfl, by simp [World.setCell], fun k _ hk => Below.heap_setCell _ _ _ _ (fun e => hk (by simp [e]))⟩ (.inr hne')
 ·exact (hb1.grown hgrow (by have := hb1.size; omega) (fun k hk => (hown.lt k hk).1)).setCell (p := ⟨b, 1, none⟩) hB _
 ·rw [Below.heap_setCell _ _ _ _ (fun e => hkb (by first | exact e | exact e.symm)), hgrow.block k (by omega) (fun e => hkv e.symm), hk1 k hkb]
 ·exact hat g hg
end
section
open Go.Proofs.YtnjbinpbkjdjpaaGreatDoorW.PrintLast Go.Proofs.YtnjbinpbkjdjpaaGreatDoorW.PrintMore Go.Proofs.YtnjbinpbkjdjpaaGreatDoorW.PrintWords Go.RowKit Go.Shelf
/-- The table of powers of ten, as its initialiser lays it. -/
def Tens (w : World) : Prop := Lib.TabIs Tryz.prog w "internal/strconv.uint64pow10" .u64 Lib.pow10Tab
theorem below_grow (w : World) (k : Nat) (os : Array Obj) : Below w.heap.size w (Sort.grow (w.drewN k) os) :=
 ⟨rfl, rfl, rfl, by simp [Sort.grow, World.drewN], fun j hj => by simp [Sort.grow, World.drewN, Array.getElem?_append_left hj]⟩
theorem formatUint0_calls (u : Nat) (hu64 : u < 18446744073709551616) (w : World) (htab : Tens w) :
 Calls Tryz.prog 238 #[.int .u64 u, .int .i64 10] w fun e w' => e = .returned (.string ⟨(Lib.decDigits u).toArray⟩) ∧ Below w.heap.size w w' := by
 by_cases h100 : u < 100
 ·have hd : decide ((u : Int) < 100) = true := decide_eq_true (by omega)
  have hc : IntKind.i64.wrap (u : Int) = (u : Int) := IntWalk.i64_in _ (by omega)
  go_enter Tryz.func238, Tryz.ntmps238
  go_wp2_with (go_at_call 244; (with_reducible refine (Tryz.internal_strconv_small u h100 _).mono ?_); rintro e w' ⟨rfl, rfl⟩)
  go_ret
  exact ⟨rfl, Below.refl _ _⟩
 ·have hd : decide ((u : Int) < 100) = false := decide_eq_false (by omega)
  have hu1 : 1 ≤ u := by omega
  have htab' : Lib.TabIs Tryz.prog w "internal/strconv.uint64pow10" .u64 Lib.pow10Tab := htab
  have hnd20 : Lib.nDigits u ≤ 20 := by have := Lib.numDigits_eq u hu1 hu64; split at this <;> omega
  have hb : Lib.nDigits u ≤ 24 := by omega
  have hal : Tryz.prog.arrayLen 283 = 24 := by kernel_rfl
  have hsl : ∀ W, (Instr.sliceAt 283 (.pointer (some ⟨w.heap.size, 0, none⟩)) none (some (.int .i64 (Lib.nDigits u : Int))) none).run Tryz.prog W = .ok (.slice (some ⟨w.heap.size, 0, none⟩) (Lib.nDigits u) 24) W := fun W => by
   rw [run_sliceAt_array_h W 283 ⟨w.heap.size, 0, none⟩ (by kernel_rfl) .i64 (Lib.nDigits u : Int) (by omega) (by rw [hal]; omega)]
   go_simp
  have hH0 := Lib.holds_zero0 w 283 (Lib.nDigits u) hb
  have hfmt := Tryz.internal_strconv_formatBase10 w.heap.size 0 24 u (Array.replicate (Lib.nDigits u) 0) (w.alloc (.cells Lib.zeros24 283)) hH0 (by rw [Array.size_replicate]; exact Lib.lt_pow_nDigits u) hu64 (by rw [Array.size_replicate]; omega)
  rw [Array.size_replicate] at hfmt
  have HH0 := Lib.hid hH0
  clear hH0 hal
  go_enter Tryz.func238, Tryz.ntmps238
  go_wp2_with (go_at_call 245; (with_reducible refine (Tryz.internal_strconv_numDigits u hu1 hu64 _ (Lib.tabIs_alloc htab' _)).mono ?_); rintro e w' ⟨rfl, rfl⟩)
  go_at_call 246
  refine hfmt.mono ?_
  rintro e w' ⟨rfl, k, v', dk, rfl, hF⟩
  have hcv : (convert 232 9 (.slice (some ⟨w.heap.size, 0, none⟩) (Lib.nDigits u) 24)).run Tryz.prog ((Sort.putRow (fun (b : UInt8) => Value.int .u8 (b.toNat : Int)) (w.alloc (.cells Lib.zeros24 283)) w.heap.size 0 dk).drewN k) = .ok (.string ⟨(Lib.decDigits u).toArray⟩) ((Sort.putRow (fun (b : UInt8) => Value.int .u8 (b.toNat : Int)) (w.alloc (.cells Lib.zeros24 283)) w.heap.size 0 dk).drewN k) := by
   have h := run_convert_bytes_back (P := Tryz.prog) ((Sort.putRow (fun (b : UInt8) => Value.int .u8 (b.toNat : Int)) (w.alloc (.cells Lib.zeros24 283)) w.heap.size 0 dk).drewN k) 232 9 5 ⟨w.heap.size, 0, none⟩ 24 (Lib.decDigits u) Tryz.underlying232 Tryz.underlying5 Tryz.underlying9 (fun j hj => by
    rw [Lib.row_is_numeral hF j hj, Lib.add_plain, World.cell?_drewN]
    exact Sort.cell?_putRow (fun (b : UInt8) => Value.int .u8 (b.toNat : Int)) _ w.heap.size 0 _ dk HH0.out (by rw [hF.size, Array.size_replicate]) j (by rw [hF.size]; rw [Lib.decDigits_length] at hj; exact hj))
   rw [Lib.decDigits_length] at h
   exact h
  go_wp2
  go_ret
  obtain ⟨os, eo⟩ := Lib.fin_at w (.cells Lib.zeros24 283) dk k 0
  refine ⟨rfl, ?_⟩
  rw [eo]
  exact below_grow w k os
theorem Tens.below {w w' : World} (h : Tens w) (hb : Below w.heap.size w w') : Tens w' := by
 unfold Tens Lib.TabIs World.var? at *
 cases hg : Tryz.prog.globalNamed "internal/strconv.uint64pow10" with
 | none => simp [hg] at h
 | some g =>
   simp only [hg, Option.bind_some] at h ⊢
   have hlt : g < w.heap.size := by
    rcases Nat.lt_or_ge g w.heap.size with h' | h'
    ·exact h'
    ·rw [Array.getElem?_eq_none h'] at h; simp at h
   rw [hb.block g hlt]
   exact h
theorem formatUint_calls (u : Nat) (hu64 : u < 18446744073709551616) (w : World) (htab : Tens w) :
 Calls Tryz.prog 229 #[.int .u64 u, .int .i64 10] w fun e w' => e = .returned (.string ⟨(Lib.decDigits u).toArray⟩) ∧ Below w.heap.size w w' := by
 go_enter Tryz.func229, Tryz.ntmps229
 go_wp2_with (go_at_call 238; (with_reducible refine (formatUint0_calls u hu64 _ htab).mono ?_); rintro e w' ⟨rfl, hb⟩)
 go_ret
 exact ⟨rfl, hb⟩
end
section
open Go.Proofs.YtnjbinpbkjdjpaaGreatDoorW.PrintLast Go.Proofs.YtnjbinpbkjdjpaaGreatDoorW.PrintMore Go.Proofs.YtnjbinpbkjdjpaaGreatDoorW.PrintWords Go.RowKit
theorem add_any {w W : World} {B : Nat} {A1 A2 : Option Addr} {L1 L2 m n : Nat} (h1 : Mag w B A1 L1 m) (h2 : Mag w B A2 L2 n) (hB : B ≤ w.heap.size) (hL1 : L1 ≤ 90000) (hL2 : L2 ≤ 90000) (hb : Below w.heap.size w W) :
 Calls Tryz.prog 191 #[.agg #[.slice A1 L1 L1], .agg #[.slice A2 L2 L2]] W fun e w' => ∃ A k, e = .returned (.agg #[.slice A k k]) ∧ Mag w' w'.heap.size A k (m + n) ∧ Below W.heap.size W w' :=
 add_calls (h1.keep hB hb) (h2.keep hB hb) (Nat.le_trans hB hb.size) hL1 hL2
theorem less_any {w W : World} {B : Nat} {A1 A2 : Option Addr} {L1 L2 m n : Nat} (h1 : Mag w B A1 L1 m) (h2 : Mag w B A2 L2 n) (hB : B ≤ w.heap.size) (hnm : n ≤ m) (hb : Below w.heap.size w W) :
 Calls Tryz.prog 192 #[.agg #[.slice A1 L1 L1], .agg #[.slice A2 L2 L2]] W fun e w' => ∃ A k, e = .returned (.agg #[.slice A k k]) ∧ Mag w' w'.heap.size A k (m - n) ∧ Below W.heap.size W w' :=
 less_calls (h1.keep hB hb) (h2.keep hB hb) (Nat.le_trans hB hb.size) hnm
theorem order_any {w W : World} {B : Nat} {A1 A2 : Option Addr} {L1 L2 m n : Nat} (h1 : Mag w B A1 L1 m) (h2 : Mag w B A2 L2 n) (hB : B ≤ w.heap.size) (hb : Below w.heap.size w W) {x : Int} (hx : cmpI m n = x) :
 Calls Tryz.prog 182 #[.agg #[.slice A1 L1 L1], .agg #[.slice A2 L2 L2]] W fun e w' => e = .returned (.int .i64 x) ∧ Below W.heap.size W w' := by
 subst hx
 exact order_calls (h1.keep hB hb) (h2.keep hB hb) (Nat.le_trans hB hb.size)
theorem plus_calls {w : World} {B : Nat} {A1 A2 : Option Addr} {L1 L2 : Nat} {x y : Int} (h1 : Mag w B A1 L1 x.natAbs) (h2 : Mag w B A2 L2 y.natAbs) (hB : B ≤ w.heap.size) (hL1 : L1 ≤ 90000) (hL2 : L2 ≤ 90000) :
 Calls Tryz.prog 138 #[iV A1 L1 x, iV A2 L2 y] w fun e w' => ∃ A k, e = .returned (iV A k (x + y)) ∧ Mag w' w'.heap.size A k (x + y).natAbs ∧ Below w.heap.size w w' := by
 unfold iV
 have H1 : Aside0 (Mag w B A1 L1 x.natAbs) := ⟨h1⟩
 have H2 : Aside0 (Mag w B A2 L2 y.natAbs) := ⟨h2⟩
 clear h1 h2
 obtain ⟨f, hf⟩ : ∃ f, decide (x < 0) = f := ⟨_, rfl⟩
 obtain ⟨g, hg⟩ : ∃ g, decide (y < 0) = g := ⟨_, rfl⟩
 obtain ⟨r, hr⟩ : ∃ r, decide (x + y < 0) = r := ⟨_, rfl⟩
 by_cases hfg : f = g
 ·have HFG : Aside0 ((f && decide (x.natAbs + y.natAbs ≠ 0)) = r) := ⟨by
   rw [← hr, Bool.eq_iff_iff]
   rw [← hf, ← hg, decide_eq_decide] at hfg
   rw [← hf]; simp; omega⟩
  have HR : Aside0 ((x + y).natAbs = x.natAbs + y.natAbs) := ⟨by rw [← hf, ← hg, decide_eq_decide] at hfg; omega⟩
  rw [hf, hg, hr]
  clear hf hg hr
  subst hfg
  go_enter Tryz.func138, Tryz.ntmps138
  go_wp2_with fail
  obtain ⟨wr, hwr⟩ : ∃ wr, (((w.alloc (.cells #[.slice A1 L1 L1, .bool f] 111)).alloc (.cells #[.slice A2 L2 L2, .bool f] 111)).alloc (.cells #[.slice none 0 0, .bool false] 111)) = wr := ⟨_, rfl⟩
  have HX : Aside0 (wr.cell? ⟨w.heap.size, 0, none⟩ = some (.slice A1 L1 L1) ∧ wr.cell? ⟨w.heap.size, 1, none⟩ = some (.bool f) ∧ wr.cell? ⟨w.heap.size + 1, 0, none⟩ = some (.slice A2 L2 L2) ∧ wr.cell? ⟨w.heap.size + 1, 1, none⟩ = some (.bool f)) := ⟨by
   subst hwr
   refine ⟨?_, ?_, ?_, ?_⟩ <;> simp [go_sem]⟩
  have HO : Aside0 (Out wr (w.heap.size + 1 + 1)) := ⟨by
   subst hwr
   refine ⟨?_, ?_, ?_, ?_⟩ <;> simp [go_sem]⟩
  have HA : Aside0 (Below w.heap.size w wr ∧ w.heap.size + 3 ≤ wr.heap.size) := ⟨by subst hwr; repeat (first | exact Below.refl _ _ | apply below_alloc), by subst hwr; simp⟩
  rw [hwr]
  clear hwr
  rename_i Q' K1 hK1 K hK
  refine wp_region_held_drew (S := (fun V => V.cell? ⟨w.heap.size, 0, none⟩ = some (.slice A1 L1 L1) ∧ V.cell? ⟨w.heap.size, 1, none⟩ = some (.bool f) ∧ V.cell? ⟨w.heap.size + 1, 0, none⟩ = some (.slice A2 L2 L2) ∧ V.cell? ⟨w.heap.size + 1, 1, none⟩ = some (.bool f) ∧ Below (w.heap.size + 2) wr V)) (by kernel_rfl) ?_ (fun hHeld => ?_)
  ·(have tb := below_drew1 (Below.refl (w.heap.size + 2) wr); exact ⟨keepB tb (by omega) HX.out.1, keepB tb (by omega) HX.out.2.1, keepB tb (by omega) HX.out.2.2.1, keepB tb (by omega) HX.out.2.2.2, tb⟩)
  refine tp 0 ?_
  try simp only [PU]
  refine tp 1 ?_
  try simp only [PU]
  refine tp 2 ?_
  try simp only [PU]
  refine tp 3 ?_
  try simp only [PU]
  refine tp 5 ?_
  try simp only [PU]
  refine tp 6 ?_
  try simp only [PU]
  refine tc 4 fun K hK => ?_
  go_simp
  (go_at_call 191; (with_reducible refine (add_any H1.out H2.out hB hL1 hL2 (HA.out.1.trans (hHeld.2.2.2.2.mono (by omega)))).mono ?_); rintro e wm ⟨A, k, rfl, hm, hbq⟩; have HOm := Out.keep' (Out.keep' HO (below_drew1 (Below.refl _ _))) hbq)
  refine hK.out _ _ ?_ fun hHeld => ?_
  ·(first | (have hBB := bKeep hbq hHeld.2.2.2.2 (by have := HA.out.2; omega); exact ⟨keepB hBB (by omega) HX.out.1, keepB hBB (by omega) HX.out.2.1, keepB hBB (by omega) HX.out.2.2.1, keepB hBB (by omega) HX.out.2.2.2, hBB⟩) | (have hBB := (hHeld.2.2.2.2.setCell (p := ⟨w.heap.size + 1 + 1, 0, none⟩) (by simp) (.slice A k k)).setCell (p := ⟨w.heap.size + 1 + 1, 1, none⟩) (by simp) (.bool r); exact ⟨keepB hBB (by omega) HX.out.1, keepB hBB (by omega) HX.out.2.1, keepB hBB (by omega) HX.out.2.2.1, keepB hBB (by omega) HX.out.2.2.2, hBB⟩))
  clear hK K; try simp only [PU]
  refine tc 7 fun K hK => ?_
  go_simp
  (go_at_call 139; (with_reducible refine (signed_any hm (Nat.le_refl _) HFG.out).mono ?_); rintro e wq ⟨rfl, hmq, hbq⟩; have HOq := Out.keep' HOm hbq; obtain ⟨q1, q2, q3, q4⟩ := HOq.out)
  refine hK.out _ _ ?_ fun hHeld => ?_
  ·(first | (have hBB := bKeep hbq hHeld.2.2.2.2 (by have := HA.out.2; omega); exact ⟨keepB hBB (by omega) HX.out.1, keepB hBB (by omega) HX.out.2.1, keepB hBB (by omega) HX.out.2.2.1, keepB hBB (by omega) HX.out.2.2.2, hBB⟩) | (have hBB := (hHeld.2.2.2.2.setCell (p := ⟨w.heap.size + 1 + 1, 0, none⟩) (by simp) (.slice A k k)).setCell (p := ⟨w.heap.size + 1 + 1, 1, none⟩) (by simp) (.bool r); exact ⟨keepB hBB (by omega) HX.out.1, keepB hBB (by omega) HX.out.2.1, keepB hBB (by omega) HX.out.2.2.1, keepB hBB (by omega) HX.out.2.2.2, hBB⟩))
  clear hK K; try simp only [PU]
  refine tc 8 fun K hK => ?_
  go_simp
  refine hK.out _ _ ?_ fun hHeld => ?_
  ·(first | (have hBB := bKeep hbq hHeld.2.2.2.2 (by have := HA.out.2; omega); exact ⟨keepB hBB (by omega) HX.out.1, keepB hBB (by omega) HX.out.2.1, keepB hBB (by omega) HX.out.2.2.1, keepB hBB (by omega) HX.out.2.2.2, hBB⟩) | (have hBB := (hHeld.2.2.2.2.setCell (p := ⟨w.heap.size + 1 + 1, 0, none⟩) (by simp) (.slice A k k)).setCell (p := ⟨w.heap.size + 1 + 1, 1, none⟩) (by simp) (.bool r); exact ⟨keepB hBB (by omega) HX.out.1, keepB hBB (by omega) HX.out.2.1, keepB hBB (by omega) HX.out.2.2.1, keepB hBB (by omega) HX.out.2.2.2, hBB⟩))
  clear hK K; try simp only [PU]
  refine wpAnyH_done (by kernel_rfl) ?_ _
  (refine hK _ _ ?_; go_wp2; refine bodyPost_ret (v := .agg #[.slice A k k, .bool r]) (by simp [results, Tryz.results138, go_sem, q1, q2]) rfl ⟨A, k, rfl, ?_, HA.out.1.trans ((hHeld.2.2.2.2).mono (by omega))⟩; rw [HR.out]; exact (HOq.out.mag hmq _ _).more (by simpa using hbq.size))
 ·by_cases hlt : x.natAbs < y.natAbs
  ·have HFG : Aside0 ((g && decide (y.natAbs - x.natAbs ≠ 0)) = r) := ⟨by
    rw [← hr, Bool.eq_iff_iff]
    rw [← hf, ← hg, decide_eq_decide] at hfg
    rw [← hg]; simp; omega⟩
   have HR : Aside0 ((x + y).natAbs = y.natAbs - x.natAbs) := ⟨by rw [← hf, ← hg, decide_eq_decide] at hfg; omega⟩
   have HV : Aside0 (cmpI (x.natAbs : Int) y.natAbs = -1 ∧ x.natAbs ≤ y.natAbs) := ⟨by unfold cmpI; rw [if_pos (by omega)], by omega⟩
   rw [hf, hg, hr]
   clear hf hg hr hlt
   have hbe : (f == g) = false := by simp [hfg]
   go_enter Tryz.func138, Tryz.ntmps138
   go_wp2_with (go_at_call 182; (with_reducible refine (order_any H1.out H2.out hB (by repeat (first | exact Below.refl _ _ | apply below_alloc)) HV.out.1).mono ?_); rintro e wr ⟨rfl, hbr⟩)
   obtain ⟨f0, f1⟩ := bcell hbr
   have HX : Aside0 (wr.cell? ⟨w.heap.size, 0, none⟩ = some (.slice A1 L1 L1) ∧ wr.cell? ⟨w.heap.size, 1, none⟩ = some (.bool f) ∧ wr.cell? ⟨w.heap.size + 1, 0, none⟩ = some (.slice A2 L2 L2) ∧ wr.cell? ⟨w.heap.size + 1, 1, none⟩ = some (.bool g)) := ⟨(f0 _ _ (by first | (simp; done) | (simp; omega))).trans (by simp [go_sem]), (f0 _ _ (by first | (simp; done) | (simp; omega))).trans (by simp [go_sem]), (f0 _ _ (by first | (simp; done) | (simp; omega))).trans (by simp [go_sem]), (f0 _ _ (by first | (simp; done) | (simp; omega))).trans (by simp [go_sem])⟩
   have HO : Aside0 (Out wr (w.heap.size + 1 + 1)) := ⟨(f0 _ _ (by first | (simp; done) | (simp; omega))).trans (by simp [go_sem]), (f0 _ _ (by first | (simp; done) | (simp; omega))).trans (by simp [go_sem]), (f1 _ _ (by first | (simp; done) | (simp; omega))).trans (by simp [go_sem]), (f1 _ _ (by first | (simp; done) | (simp; omega))).trans (by simp [go_sem])⟩
   have HA : Aside0 (Below w.heap.size w wr ∧ w.heap.size + 3 ≤ wr.heap.size) := ⟨below_step (by repeat (first | exact Below.refl _ _ | apply below_alloc)) hbr, by have := hbr.size; simp at this; omega⟩
   clear f0 f1 hbr
   rename_i Q' K hK
   refine wp_region_held_drew (S := (fun V => V.cell? ⟨w.heap.size, 0, none⟩ = some (.slice A1 L1 L1) ∧ V.cell? ⟨w.heap.size, 1, none⟩ = some (.bool f) ∧ V.cell? ⟨w.heap.size + 1, 0, none⟩ = some (.slice A2 L2 L2) ∧ V.cell? ⟨w.heap.size + 1, 1, none⟩ = some (.bool g) ∧ Below (w.heap.size + 2) wr V)) (by kernel_rfl) ?_ (fun hHeld => ?_)
   ·(have tb := below_drew1 (Below.refl (w.heap.size + 2) wr); exact ⟨keepB tb (by omega) HX.out.1, keepB tb (by omega) HX.out.2.1, keepB tb (by omega) HX.out.2.2.1, keepB tb (by omega) HX.out.2.2.2, tb⟩)
   refine tp 0 ?_
   try simp only [PU]
   refine tp 1 ?_
   try simp only [PU]
   refine tp 2 ?_
   try simp only [PU]
   refine tp 3 ?_
   try simp only [PU]
   refine tp 5 ?_
   try simp only [PU]
   refine tp 6 ?_
   try simp only [PU]
   refine tc 4 fun K hK => ?_
   go_simp
   (go_at_call 192; (with_reducible refine (less_any H2.out H1.out hB HV.out.2 (HA.out.1.trans (hHeld.2.2.2.2.mono (by omega)))).mono ?_); rintro e wm ⟨A, k, rfl, hm, hbq⟩; have HOm := Out.keep' (Out.keep' HO (below_drew1 (Below.refl _ _))) hbq)
   refine hK.out _ _ ?_ fun hHeld => ?_
   ·(first | (have hBB := bKeep hbq hHeld.2.2.2.2 (by have := HA.out.2; omega); exact ⟨keepB hBB (by omega) HX.out.1, keepB hBB (by omega) HX.out.2.1, keepB hBB (by omega) HX.out.2.2.1, keepB hBB (by omega) HX.out.2.2.2, hBB⟩) | (have hBB := (hHeld.2.2.2.2.setCell (p := ⟨w.heap.size + 1 + 1, 0, none⟩) (by simp) (.slice A k k)).setCell (p := ⟨w.heap.size + 1 + 1, 1, none⟩) (by simp) (.bool r); exact ⟨keepB hBB (by omega) HX.out.1, keepB hBB (by omega) HX.out.2.1, keepB hBB (by omega) HX.out.2.2.1, keepB hBB (by omega) HX.out.2.2.2, hBB⟩))
   clear hK K; try simp only [PU]
   refine tc 7 fun K hK => ?_
   go_simp
   (go_at_call 139; (with_reducible refine (signed_any hm (Nat.le_refl _) HFG.out).mono ?_); rintro e wq ⟨rfl, hmq, hbq⟩; have HOq := Out.keep' HOm hbq; obtain ⟨q1, q2, q3, q4⟩ := HOq.out)
   refine hK.out _ _ ?_ fun hHeld => ?_
   ·(first | (have hBB := bKeep hbq hHeld.2.2.2.2 (by have := HA.out.2; omega); exact ⟨keepB hBB (by omega) HX.out.1, keepB hBB (by omega) HX.out.2.1, keepB hBB (by omega) HX.out.2.2.1, keepB hBB (by omega) HX.out.2.2.2, hBB⟩) | (have hBB := (hHeld.2.2.2.2.setCell (p := ⟨w.heap.size + 1 + 1, 0, none⟩) (by simp) (.slice A k k)).setCell (p := ⟨w.heap.size + 1 + 1, 1, none⟩) (by simp) (.bool r); exact ⟨keepB hBB (by omega) HX.out.1, keepB hBB (by omega) HX.out.2.1, keepB hBB (by omega) HX.out.2.2.1, keepB hBB (by omega) HX.out.2.2.2, hBB⟩))
   clear hK K; try simp only [PU]
   refine tc 8 fun K hK => ?_
   go_simp
   refine hK.out _ _ ?_ fun hHeld => ?_
   ·(first | (have hBB := bKeep hbq hHeld.2.2.2.2 (by have := HA.out.2; omega); exact ⟨keepB hBB (by omega) HX.out.1, keepB hBB (by omega) HX.out.2.1, keepB hBB (by omega) HX.out.2.2.1, keepB hBB (by omega) HX.out.2.2.2, hBB⟩) | (have hBB := (hHeld.2.2.2.2.setCell (p := ⟨w.heap.size + 1 + 1, 0, none⟩) (by simp) (.slice A k k)).setCell (p := ⟨w.heap.size + 1 + 1, 1, none⟩) (by simp) (.bool r); exact ⟨keepB hBB (by omega) HX.out.1, keepB hBB (by omega) HX.out.2.1, keepB hBB (by omega) HX.out.2.2.1, keepB hBB (by omega) HX.out.2.2.2, hBB⟩))
   clear hK K; try simp only [PU]
   refine wpAnyH_done (by kernel_rfl) ?_ _
   (refine hK _ _ ?_; go_wp2; refine bodyPost_ret (v := .agg #[.slice A k k, .bool r]) (by simp [results, Tryz.results138, go_sem, q1, q2]) rfl ⟨A, k, rfl, ?_, HA.out.1.trans ((hHeld.2.2.2.2).mono (by omega))⟩; rw [HR.out]; exact (HOq.out.mag hmq _ _).more (by simpa using hbq.size))
  ·have HFG : Aside0 ((f && decide (x.natAbs - y.natAbs ≠ 0)) = r) := ⟨by
    rw [← hr, Bool.eq_iff_iff]
    rw [← hf, ← hg, decide_eq_decide] at hfg
    rw [← hf]; simp; omega⟩
   have HR : Aside0 ((x + y).natAbs = x.natAbs - y.natAbs) := ⟨by rw [← hf, ← hg, decide_eq_decide] at hfg; omega⟩
   obtain ⟨c, hc⟩ : ∃ c, cmpI (x.natAbs : Int) y.natAbs = c := ⟨_, rfl⟩
   have hcd : decide (0 ≤ c) = true := decide_eq_true (by rw [← hc]; unfold cmpI; rw [if_neg (by omega)]; split <;> omega)
   have hcd' : decide (c ≥ 0) = true := hcd
   have HV : Aside0 (cmpI (x.natAbs : Int) y.natAbs = c ∧ y.natAbs ≤ x.natAbs) := ⟨hc, by omega⟩
   rw [hf, hg, hr]
   clear hf hg hr hlt hc
   have hbe : (f == g) = false := by simp [hfg]
   go_enter Tryz.func138, Tryz.ntmps138
   go_wp2_with (go_at_call 182; (with_reducible refine (order_any H1.out H2.out hB (by repeat (first | exact Below.refl _ _ | apply below_alloc)) HV.out.1).mono ?_); rintro e wr ⟨rfl, hbr⟩)
   obtain ⟨f0, f1⟩ := bcell hbr
   have HX : Aside0 (wr.cell? ⟨w.heap.size, 0, none⟩ = some (.slice A1 L1 L1) ∧ wr.cell? ⟨w.heap.size, 1, none⟩ = some (.bool f) ∧ wr.cell? ⟨w.heap.size + 1, 0, none⟩ = some (.slice A2 L2 L2) ∧ wr.cell? ⟨w.heap.size + 1, 1, none⟩ = some (.bool g)) := ⟨(f0 _ _ (by first | (simp; done) | (simp; omega))).trans (by simp [go_sem]), (f0 _ _ (by first | (simp; done) | (simp; omega))).trans (by simp [go_sem]), (f0 _ _ (by first | (simp; done) | (simp; omega))).trans (by simp [go_sem]), (f0 _ _ (by first | (simp; done) | (simp; omega))).trans (by simp [go_sem])⟩
   have HO : Aside0 (Out wr (w.heap.size + 1 + 1)) := ⟨(f0 _ _ (by first | (simp; done) | (simp; omega))).trans (by simp [go_sem]), (f0 _ _ (by first | (simp; done) | (simp; omega))).trans (by simp [go_sem]), (f1 _ _ (by first | (simp; done) | (simp; omega))).trans (by simp [go_sem]), (f1 _ _ (by first | (simp; done) | (simp; omega))).trans (by simp [go_sem])⟩
   have HA : Aside0 (Below w.heap.size w wr ∧ w.heap.size + 3 ≤ wr.heap.size) := ⟨below_step (by repeat (first | exact Below.refl _ _ | apply below_alloc)) hbr, by have := hbr.size; simp at this; omega⟩
   clear f0 f1 hbr
   rename_i Q' K1 hK1 K hK
   refine wp_region_held_drew (S := (fun V => V.cell? ⟨w.heap.size, 0, none⟩ = some (.slice A1 L1 L1) ∧ V.cell? ⟨w.heap.size, 1, none⟩ = some (.bool f) ∧ V.cell? ⟨w.heap.size + 1, 0, none⟩ = some (.slice A2 L2 L2) ∧ V.cell? ⟨w.heap.size + 1, 1, none⟩ = some (.bool g) ∧ Below (w.heap.size + 2) wr V)) (by kernel_rfl) ?_ (fun hHeld => ?_)
   ·(have tb := below_drew1 (Below.refl (w.heap.size + 2) wr); exact ⟨keepB tb (by omega) HX.out.1, keepB tb (by omega) HX.out.2.1, keepB tb (by omega) HX.out.2.2.1, keepB tb (by omega) HX.out.2.2.2, tb⟩)
   refine tp 0 ?_
   try simp only [PU]
   refine tp 1 ?_
   try simp only [PU]
   refine tp 2 ?_
   try simp only [PU]
   refine tp 3 ?_
   try simp only [PU]
   refine tp 5 ?_
   try simp only [PU]
   refine tp 6 ?_
   try simp only [PU]
   refine tc 4 fun K hK => ?_
   go_simp
   (go_at_call 192; (with_reducible refine (less_any H1.out H2.out hB HV.out.2 (HA.out.1.trans (hHeld.2.2.2.2.mono (by omega)))).mono ?_); rintro e wm ⟨A, k, rfl, hm, hbq⟩; have HOm := Out.keep' (Out.keep' HO (below_drew1 (Below.refl _ _))) hbq)
   refine hK.out _ _ ?_ fun hHeld => ?_
   ·(first | (have hBB := bKeep hbq hHeld.2.2.2.2 (by have := HA.out.2; omega); exact ⟨keepB hBB (by omega) HX.out.1, keepB hBB (by omega) HX.out.2.1, keepB hBB (by omega) HX.out.2.2.1, keepB hBB (by omega) HX.out.2.2.2, hBB⟩) | (have hBB := (hHeld.2.2.2.2.setCell (p := ⟨w.heap.size + 1 + 1, 0, none⟩) (by simp) (.slice A k k)).setCell (p := ⟨w.heap.size + 1 + 1, 1, none⟩) (by simp) (.bool r); exact ⟨keepB hBB (by omega) HX.out.1, keepB hBB (by omega) HX.out.2.1, keepB hBB (by omega) HX.out.2.2.1, keepB hBB (by omega) HX.out.2.2.2, hBB⟩))
   clear hK K; try simp only [PU]
   refine tc 7 fun K hK => ?_
   go_simp
   (go_at_call 139; (with_reducible refine (signed_any hm (Nat.le_refl _) HFG.out).mono ?_); rintro e wq ⟨rfl, hmq, hbq⟩; have HOq := Out.keep' HOm hbq; obtain ⟨q1, q2, q3, q4⟩ := HOq.out)
   refine hK.out _ _ ?_ fun hHeld => ?_
   ·(first | (have hBB := bKeep hbq hHeld.2.2.2.2 (by have := HA.out.2; omega); exact ⟨keepB hBB (by omega) HX.out.1, keepB hBB (by omega) HX.out.2.1, keepB hBB (by omega) HX.out.2.2.1, keepB hBB (by omega) HX.out.2.2.2, hBB⟩) | (have hBB := (hHeld.2.2.2.2.setCell (p := ⟨w.heap.size + 1 + 1, 0, none⟩) (by simp) (.slice A k k)).setCell (p := ⟨w.heap.size + 1 + 1, 1, none⟩) (by simp) (.bool r); exact ⟨keepB hBB (by omega) HX.out.1, keepB hBB (by omega) HX.out.2.1, keepB hBB (by omega) HX.out.2.2.1, keepB hBB (by omega) HX.out.2.2.2, hBB⟩))
   clear hK K; try simp only [PU]
   refine tc 8 fun K hK => ?_
   go_simp
   refine hK.out _ _ ?_ fun hHeld => ?_
   ·(first | (have hBB := bKeep hbq hHeld.2.2.2.2 (by have := HA.out.2; omega); exact ⟨keepB hBB (by omega) HX.out.1, keepB hBB (by omega) HX.out.2.1, keepB hBB (by omega) HX.out.2.2.1, keepB hBB (by omega) HX.out.2.2.2, hBB⟩) | (have hBB := (hHeld.2.2.2.2.setCell (p := ⟨w.heap.size + 1 + 1, 0, none⟩) (by simp) (.slice A k k)).setCell (p := ⟨w.heap.size + 1 + 1, 1, none⟩) (by simp) (.bool r); exact ⟨keepB hBB (by omega) HX.out.1, keepB hBB (by omega) HX.out.2.1, keepB hBB (by omega) HX.out.2.2.1, keepB hBB (by omega) HX.out.2.2.2, hBB⟩))
   clear hK K; try simp only [PU]
   refine wpAnyH_done (by kernel_rfl) ?_ _
   (refine hK _ _ ?_; go_wp2; refine bodyPost_ret (v := .agg #[.slice A k k, .bool r]) (by simp [results, Tryz.results138, go_sem, q1, q2]) rfl ⟨A, k, rfl, ?_, HA.out.1.trans ((hHeld.2.2.2.2).mono (by omega))⟩; rw [HR.out]; exact (HOq.out.mag hmq _ _).more (by simpa using hbq.size))
end
section
open Go
/-- No operation is a defer statement. -/
def plainOps (ops : Array Oper) : Bool := ops.all fun o => match o.op with | .defer _ => false | _ => true
theorem plainOps_at {ops : Array Oper} (h : plainOps ops = true) {i : Nat} {o : Oper} (ho : ops[i]? = some o) : ∀ c, o.op ≠ .defer c := by
 intro c e
 have hm : o ∈ ops := Array.mem_of_getElem? ho
 have := (Array.all_eq_true_iff_forall_mem.1 h) o hm
 simp [e] at this
theorem rowsIn_round {l n : Nat} {P : Program} {row : String} {args : Array Value} {w : World} {R : Value → World → Prop} (h : Rows P row args w R) : RowsIn (Fence.wide.inRound l) n P row args w R :=
 fun c cs _ => let ⟨v, w', r, s⟩ := h c cs; ⟨v, w', r, stepsIn_wide.2 s⟩
theorem wpOpIn_round {l n : Nat} {P : Program} {ops : Array Oper} {Q : Exit → Act → World → Prop} (hp : plainOps ops = true) (hout : ¬ LetsOut Q) {i : Nat} {K K' : Act → World → Prop} (hk : ∀ a w, K a w → K' a w) {a : Act} {w : World}
 (h : wpOp P ops Q i K a w) : wpOpIn (Fence.wide.inRound l) n P ops Q i K' a w := by
 unfold wpOp at h
 unfold wpOpIn
 split
 ·rename_i hn
  rw [hn] at h
  exact hk _ _ h
 ·rename_i o ho
  rw [ho] at h
  simp only at h
  split
  ·rename_i hw
   rw [if_pos hw] at h
   rcases h with h | h
   ·refine ⟨fun _ _ => trivial, ?_⟩
    rw [Oper.semAt_eq _ _ _ (plainOps_at hp ho)]
    unfold Oper.wp at h
    generalize (execOp a.eval o).run P w = r at *
    cases r with
    | ok x w' =>
      cases x <;> simp only [Oper.upon, Oper.uponIn] at h ⊢
      case value => exact hk _ _ h
      case skip => exact hk _ _ h
      case defer => exact hk _ _ h
      case enter f args =>
       refine ⟨fun e => by simp [Fence.wide, Fence.inRound] at e, ?_⟩
       refine ((callsIn_wide.2 h).inRound l).mono ?_
       intro e w2 he
       cases e with
       | returned v => exact hk _ _ he
       | panicked c => exact he
       | outgrown => exact he
      case row row args =>
       refine ⟨fun e => by simp [Fence.wide, Fence.inRound] at e, ?_⟩
       exact rowsIn_round (h.mono fun v w2 he => hk _ _ he)
    | halt x w' => cases x <;> simp only [Oper.upon, Oper.uponIn] at h ⊢ <;> exact h
   ·exact absurd h.2 hout
  ·rename_i hw
   rw [if_neg hw] at h
   exact ⟨fun _ _ => trivial, hk _ _ h⟩
theorem wpAnyIn_round {l n : Nat} {P : Program} {md : Region.Mode} {ops : Array Oper} {Q : Exit → Act → World → Prop} (hp : plainOps ops = true) (hout : ¬ LetsOut Q) :
 ∀ (fuel : Nat) (listed : Array Bool) (a : Act) (w : World), wpAny P md ops Q fuel listed a w → wpAnyIn (Fence.wide.inRound l) n P md ops Q fuel listed a w
 | 0, _, _, _, h => h
 | fuel + 1, _, _, _, h => ⟨h.1, fun i hi => wpOpIn_round hp hout (fun a w h' => wpAnyIn_round hp hout fuel _ a w h') (h.2 i hi)⟩
theorem wpIn_round_held_drew {l n : Nat} {P : Program} {ops : Array Oper} {Q : Exit → Act → World → Prop} {S : World → Prop} {id : Nat} {a : Act} {w : World} (hm : P.follows .mixedOrders = true) (hp : plainOps ops = true) (hout : ¬ LetsOut Q) (hS : S w.drew)
 (h : S w.drew → wpAnyH P .any ops Q S ops.size (Array.replicate ops.size false) a w.drew) : (Code.region id ops true).wpIn (Fence.wide.inRound l) n P Q a w :=
 wpIn_region_any hm (wpAnyIn_round hp hout _ _ _ _ (wpAny_of_held _ _ _ _ (h hS)))
theorem letsOut_then {K : Act → World → Prop} {Q : Exit → Act → World → Prop} (h : ¬ LetsOut Q) : ¬ LetsOut (Exit.then K Q) := fun ⟨a, w, e⟩ => h ⟨a, w, e⟩
/-- A scope that nothing jumps out of or about in, in a round. -/
theorem wpIn_scope_straight {F : Fence} {n : Nat} {P : Program} {c : Code} {Q : Exit → Act → World → Prop} {a : Act} {w : World} (h : c.wpIn F n P (Exit.noGoto Q) a w) : (Code.scope c).wpIn F n P Q a w := by
 intro b k cs hro hb hr
 have h0 : (lone (b.atR a (.code (.scope c) :: k)) cs w).fenced P F := fenced_calm hb hr rfl
 have s0 : step P (lone (b.atR a (.code (.scope c) :: k)) cs w) = .next (lone (b.atR a (.code c :: .inScope c :: k)) cs w) := step_lone_go (by simp [stepG, stepG.exec, Frame.atR])
 obtain ⟨e, a₁, w₁, hq, harr⟩ := h b (.inScope c :: k) cs hro hb hr
 have s1 : step P (lone (b.atR a₁ (.inScope c :: k)) cs w₁) = .next (lone (b.atR a₁ k) cs w₁) := step_lone_go (by simp [stepG, stepG.exec, Frame.atR])
 cases e with
 | normal => exact ⟨.normal, a₁, w₁, hq, .head h0 s0 (StepsIn.trans harr (.one (fenced_calm hb hr rfl) s1))⟩
 | exit id' =>
   have hx : exitTo id' (.inScope c :: k) = exitTo id' k := by simp [exitTo]
   exact ⟨.exit id', a₁, w₁, hq, fun k' hk => .head h0 s0 (harr.1 k' (by rw [hx]; exact hk)),
    fun hr' hk => let ⟨k₁, h1, h2⟩ := harr.2 hr' (by rw [hx]; exact hk); ⟨k₁, h1, .head h0 s0 h2⟩⟩
 | goto l => exact hq.elim
 | ret => exact ⟨_, a₁, w₁, hq, .of_steps (.one h0 s0) harr⟩
 | panic ch => exact ⟨_, a₁, w₁, hq, .of_steps (.one h0 s0) harr⟩
 | outgrown => exact ⟨_, a₁, w₁, hq, .of_steps (.one h0 s0) harr⟩
theorem noGoto_normal {Q : Exit → Act → World → Prop} {a : Act} {w : World} (h : Q .normal a w) : Exit.noGoto Q .normal a w := h
/-- append, by the equation of its run. -/
theorem wpListIn_append_run {F : Fence} {nF : Nat} {P : Program} {w w' : World} {ops : Array Oper} {rest : List Oper} {o : Oper} {a : Act} {Q : Exit → Act → World → Prop} (hgd : o.guard = none) (s x : Operand) (t : TypeId)
 (ho : o.op = .call { callee := .builtin .append, args := #[s, x], argTypes := #[t, t] }) {v vs vx : Value} (hs : a.eval s = vs) (hx : a.eval x = vx) (hr : (Builtin.append_ #[t, t] o.type #[vs, vx]).run P w = .ok v w')
 (h : wpListIn F nF P ops Q rest (a.put o.dst v) w') : wpListIn F nF P ops Q (o :: rest) a w := by
 refine wpListIn_plain hgd fun K hK => ?_
 unfold Oper.wpIn
 refine ⟨by simp [Oper.about, ho, resolve, Target.leads, Sem.run_pure], ?_⟩
 rw [Oper.semAt_plain F _ _ (by rw [ho]; intro c hc'; cases hc')]
 simp [execOp, ho, resolve, invoke, builtin, hs, hx, hr, Result.andThen]
 exact hK _ _ h
/-- A code's end as a word about its values and its world. -/
theorem wpIn_midC {F : Fence} {n : Nat} {P : Program} {c : Code} {Q : Exit → Act → World → Prop} {a : Act} {w : World} (M : Array Value → Array Value → World → Prop)
 (h : c.wpIn F n P (fun e a' w' => match e with | .normal => a'.defers = a.defers ∧ M a.tmps a'.tmps w' | _ => False) a w) (hk : ∀ T w', M a.tmps T w' → Q .normal { tmps := T, defers := a.defers } w') : c.wpIn F n P Q a w :=
 wpIn_mono h (fun e a' w' h => by
  cases e <;> first | exact h.elim | skip
  obtain ⟨h1, h2⟩ := h
  have := hk _ _ h2
  rw [← h1] at this
  exact this)
end
section
open Go.Proofs.YtnjbinpbkjdjpaaGreatDoor.Rf Go.Proofs.YtnjbinpbkjdjpaaGreatDoorW.PrintLast Go.Proofs.YtnjbinpbkjdjpaaGreatDoorW.PrintMore Go.Proofs.YtnjbinpbkjdjpaaGreatDoorW.PrintWords Go.RowKit Go.Shelf
attribute [local go_sem] Oper.semAt_some
theorem row_turn {n₀ : Nat} {own : List Nat} {A B : World} {b : Nat} {xs : List Nat} (h : Row A b xs) (ht : Turn n₀ own A B) (hno : b ∉ own) : Row B b xs := ht.cells b _ h rfl hno
theorem Row.other {w : World} {g : Nat} {xs : List Nat} (h : Row w g xs) {b : Nat} (hne : g ≠ b) (o : Nat) (v : Value) : Row (w.setCell ⟨b, o, none⟩ v) g xs := (Below.heap_setCell _ _ _ _ hne).trans h
theorem Boxed.otherO {W : World} {B B' : Nat} {t : TypeId} {v : Value} (h : Boxed W B t v) (hne : B ≠ B') (o : Nat) (u : Value) : Boxed (W.setCell ⟨B', o, none⟩ u) B t v := (Below.heap_setCell _ _ _ _ hne).trans h
theorem Boxed.drewN {W : World} {B : Nat} {t : TypeId} {v : Value} (h : Boxed W B t v) : Boxed W.drew B t v := h
theorem Row.drewN {W : World} {g : Nat} {xs : List Nat} (h : Row W g xs) : Row W.drew g xs := h
theorem Mag.putD {W : World} {B D : Nat} {A : Option Addr} {L n : Nat} {x : Option (List Deferred)} (h : Mag W B A L n) (hD : W.heap[D]? = some (.deferred x)) (o : Obj) : Mag (W.putObj D o) B A L n := by
 obtain ⟨h1, h2, h3⟩ := h
 refine ⟨h1, h2, fun hL => ?_⟩
 obtain ⟨c, rfl, hlt, hc⟩ := h3 hL
 have hne : c ≠ D := by
  rintro rfl
  have := hc 0 hL
  simp [World.cell?, hD] at this
 exact ⟨c, rfl, hlt, fun j hj => (World.cell?_of_block (World.putObj_heap_other hne)).trans (hc j hj)⟩
theorem lst_lit {b : Nat} {W cur : World} (h : Below b W cur) (d : Nat) (t : TypeId) : Lst (cur.alloc (.cells #[.int .u32 d] t)) (cur.heap.size + 1) (some ⟨cur.heap.size, 0, none⟩) 1 [d] := lst_one cur d t
theorem lst_up {W W2 : World} {B : Nat} {A : Option Addr} {L : Nat} {xs : List Nat} (h : Lst W B A L xs) (hB : B ≤ W.heap.size) (hb : Below W.heap.size W W2) : Lst W2 B A L xs := h.below (hb.mono hB)
theorem strip_lit {cur : World} {B : Nat} {A : Option Addr} {d : Nat} (h : Lst cur B A 1 [d]) (hd : d < BB) (hB : B ≤ cur.heap.size) :
 Calls Tryz.prog 180 #[.slice A 1 1] cur fun e w' => ∃ A2 k, e = .returned (.slice A2 k k) ∧ Mag w' w'.heap.size A2 k d ∧ Below cur.heap.size cur w' := by
 refine (strip_calls h (by intro x hx; rw [List.mem_singleton.1 hx]; exact hd) (Nat.le_refl _) (by omega) hB).mono ?_
 rintro e w' ⟨k, rfl, hm, hb⟩
 rw [val_one] at hm
 exact ⟨A, k, rfl, hm.more (Nat.le_trans hB hb.size), hb⟩
theorem keepF {w1 W2 : World} (h : Below w1.heap.size w1 W2) {b o : Nat} {v : Value} (hc : w1.cell? ⟨b, 0, none⟩ = some v) (hf : w1.frozen? ⟨b, o, none⟩ = false) : W2.frozen? ⟨b, o, none⟩ = false :=
 (h.frozen (p := ⟨b, o, none⟩) (show b < w1.heap.size from World.block_lt_of_cell? w1 ⟨b, 0, none⟩ hc)).trans hf
/-- What lies in memory between two rounds of short. -/
structure SI (w : World) (m d L : Nat) (pre : List (Nat × Nat)) (own : List Nat) (W : World) : Prop where
 rd : Boxed W (w.heap.size + 1) 22 (.int .u32 (d : Int))
 r2 : Boxed W (w.heap.size + 1 + 1) 109 (.slice none 0 0)
 r3 : Boxed W (w.heap.size + 1 + 1 + 1) 109 (.slice none 0 0)
 ro : Boxed W (w.heap.size + 1 + 1 + 1 + 1 + 1) 99 (.slice (some ⟨w.heap.size + 1 + 1 + 1 + 1, 0, none⟩) L L)
 st : ∃ k, k ≤ L ∧ pre = backs (dg BB m) k ∧ Boxed W (w.heap.size + 1 + 1 + 1 + 1 + 1 + 1) 53 (.int .u64 ((m / BB ^ (L - k) % d : Nat) : Int)) ∧ Row W (w.heap.size + 1 + 1 + 1 + 1) (tops BB (m / d) L (L - k))
 no : ∀ k, k < 7 → w.heap.size + k ∉ own
 bl : Below w.heap.size w W
theorem SI.turn {w : World} {m d L : Nat} {pre : List (Nat × Nat)} {own : List Nat} {A B : World} (h : SI w m d L pre own A) (ht : Turn w.heap.size own A B) : SI w m d L pre own B := by
 obtain ⟨rd, r2, r3, ro, ⟨k, hk, hp, s1, s2⟩, no, bl⟩ := h
 exact ⟨boxed_turn rd ht (no 1 (by omega)), boxed_turn r2 ht (no 2 (by omega)), boxed_turn r3 ht (no 3 (by omega)), boxed_turn ro ht (no 5 (by omega)), ⟨k, hk, hp, boxed_turn s1 ht (no 6 (by omega)), row_turn s2 ht (no 4 (by omega))⟩, no, below_turn bl ht⟩
theorem SI.adopt {w : World} {m d L : Nat} {pre : List (Nat × Nat)} {own : List Nat} {A : World} {r : Nat} (h : SI w m d L pre own A) (hr : A.heap.size ≤ r) : SI w m d L pre (r :: own) A := by
 obtain ⟨rd, r2, r3, ro, ⟨k, hk, hp, s1, s2⟩, no, bl⟩ := h
 refine ⟨rd, r2, r3, ro, ⟨k, hk, hp, s1, s2⟩, fun j hj => ?_, bl⟩
 have := s1.lt
 simp only [List.mem_cons, not_or]
 exact ⟨by omega, no j hj⟩
/-- What short hands back when its mark has been taken. -/
theorem short_end (w W3 : World) (D : Nat) (tmps : Array Value) (x y : Value) (R : Ending → World → Prop) (h4 : tmps[4]?.getD undef = .pointer (some ⟨w.heap.size + 1 + 1, 0, none⟩)) (h5 : tmps[5]?.getD undef = .pointer (some ⟨w.heap.size + 1 + 1 + 1, 0, none⟩)) (hD : w.heap.size + 3 < D) (hK : W3.heap[D]? = some (.deferred (some [])))
 (c2 : W3.cell? ⟨w.heap.size + 1 + 1, 0, none⟩ = some x) (c3 : W3.cell? ⟨w.heap.size + 1 + 1 + 1, 0, none⟩ = some y) (hR : R (.returned (.tuple #[.agg #[x], .agg #[y]])) (W3.putObj D (.deferred none))) : bodyPostM Fence.wide 6 Tryz.prog Tryz.f215 R Exit.ret { tmps, defers := [{ target := .collected D, args := #[] }] } W3 := by
 refine ⟨by simp, .inl ⟨_, _, rfl, run_takeDeferred hK, ?_⟩⟩
 refine ⟨_, ?_, hR⟩
 have k2 : (W3.putObj D (.deferred none)).cell? ⟨w.heap.size + 1 + 1, 0, none⟩ = some x := (World.cell?_of_block (World.putObj_heap_other (by simp; omega))).trans c2
 have k3 : (W3.putObj D (.deferred none)).cell? ⟨w.heap.size + 1 + 1 + 1, 0, none⟩ = some y := (World.cell?_of_block (World.putObj_heap_other (by simp; omega))).trans c3
 simp [results, Tryz.results215, go_sem, h4, h5, k2, k3]
theorem short_calls {w : World} {B : Nat} {A : Option Addr} {L m d : Nat} (h1 : Mag w B A L m) (hB : B ≤ w.heap.size) (hd0 : 0 < d) (hd1 : d < BB) :
 Calls Tryz.prog 215 #[.agg #[.slice A L L], .int .u32 (d : Int)] w fun e w' => ∃ A1 k1 A2 k2, e = .returned (.tuple #[.agg #[.slice A1 k1 k1], .agg #[.slice A2 k2 k2]]) ∧ Mag w' w'.heap.size A1 k1 (m / d) ∧ Mag w' w'.heap.size A2 k2 (m % d) ∧ Below w.heap.size w w' := by
 have hlen := h1.2.1
 have H1 : Aside0 (Mag w B A L m) := ⟨h1⟩
 clear h1
 have hmk := make_u32 (L : Int) L rfl (by omega)
 refine (callsIn_wide (n := 6)).1 ?_
 refine callsIn_of_wp_marks Tryz.func215 rfl trivial ?_ rfl
 simp only [Tryz.ntmps215, List.size_toArray, List.length_cons, List.length_nil, Nat.reduceAdd, Nat.reduceSub, Array.replicate_succ, Array.replicate_zero, List.push_toArray, List.append_toArray, List.nil_append, List.cons_append]
 gi_wp2_with (first | (refine ⟨trivial, ?_⟩; gi_at_call 216; refine (callsIn_wide.2 (back_calls _ _ _)).mono ?_; rintro e w' ⟨rfl, rfl⟩))
 obtain ⟨W0, hW0⟩ : ∃ W0, W0 = ((((((((w.alloc (.cells #[.slice A L L] 109)).alloc (.cells #[.int .u32 (d : Int)] 22)).alloc (.cells #[.slice none 0 0] 109)).alloc (.cells #[.slice none 0 0] 109)).alloc (zeros L)).alloc (.cells #[.slice (some ⟨w.heap.size + 1 + 1 + 1 + 1, 0, none⟩) L L] 99)).alloc (.cells #[.int .u64 0] 53)).alloc (.cells #[.slice A L L] 99)) := ⟨_, rfl⟩
 have hb0 : Below w.heap.size w W0 := by subst hW0; repeat (first | exact Below.refl _ _ | apply below_alloc)
 have hcs : W0.cell? ⟨w.heap.size + 1 + 1 + 1 + 1 + 1 + 1 + 1, 0, none⟩ = some (.slice A L L) := by subst hW0; simp [go_sem]
 have I0 : SI w m d L [] [w.heap.size + 1 + 1 + 1 + 1 + 1 + 1 + 1] W0 := by
  subst hW0
  refine ⟨?_, ?_, ?_, ?_, ⟨0, by omega, rfl, ?_, ?_⟩, fun k hk => by simp; omega, hb0⟩
  ·exact ((((((boxed_at (w.alloc _) _ _ _ (by simp)).alloc _).alloc _).alloc _).alloc _).alloc _).alloc _
  ·exact (((((boxed_at ((w.alloc _).alloc _) _ _ _ (by simp)).alloc _).alloc _).alloc _).alloc _).alloc _
  ·exact ((((boxed_at (((w.alloc _).alloc _).alloc _) _ _ _ (by simp)).alloc _).alloc _).alloc _).alloc _
  ·exact ((boxed_at (((((w.alloc _).alloc _).alloc _).alloc _).alloc _) _ _ _ (by simp)).alloc _).alloc _
  ·have e : m / BB ^ (L - 0) % d = 0 := by
    have := dg_lt_pow BB1 m
    rw [H1.out.1] at this
    rw [Nat.sub_zero, Nat.div_eq_of_lt this, Nat.zero_mod]
   rw [e]
   exact (boxed_at ((((((w.alloc _).alloc _).alloc _).alloc _).alloc _).alloc _) _ _ _ (by simp)).alloc _
  ·rw [tops_start _ _ _ _ (by omega)]
   have := row_zeros ((((w.alloc (.cells #[.slice A L L] 109)).alloc (.cells #[.int .u32 (d : Int)] 22)).alloc (.cells #[.slice none 0 0] 109)).alloc (.cells #[.slice none 0 0] 109)) L
   have := ((this.keep (below_alloc (Below.refl _ _) (.cells #[.slice (some ⟨w.heap.size + 1 + 1 + 1 + 1, 0, none⟩) L L] 99))).keep (below_alloc (Below.refl _ _) (.cells #[.int .u64 0] 53))).keep (below_alloc (Below.refl _ _) (.cells #[.slice A L L] 99))
   simpa using this
 have hz0 : W0.heap.size = w.heap.size + 8 := by rw [hW0]; simp
 rw [← hW0]
 clear hW0 hmk
 refine wpIn_back (own0 := [w.heap.size + 1 + 1 + 1 + 1 + 1 + 1 + 1]) (n₀ := w.heap.size) (by omega) (gf := 227) (lb := #[.pointer (some ⟨w.heap.size + 1 + 1 + 1 + 1 + 1 + 1 + 1, 0, none⟩)]) rfl Tryz.call227 (back_seq 5 (by omega) (xs := dg BB m) ((H1.out.keep hB hb0).more hB).lst hlen hcs (by omega)) (by omega) (fun r hr => by simp only [List.mem_singleton] at hr; omega)
  (SI w m d L) (fun c pre own W => False) (fun pre own A B h ht => h.turn ht) (fun pre own A r h hr => h.adopt hr) (fun c pre own A B h ht => h) I0 (by simp) ?body ?done ?stop
 case stop =>
  rintro D c pre own W hD hSp h hK
  exact h.elim
 case body =>
  rintro l pre own x W ho hz hI ⟨k, hk, rfl, rfl⟩
  obtain ⟨rd, r2, r3, ro, ⟨k', hk', hp, s1, s2⟩, no, bl⟩ := hI
  obtain rfl := backs_inj hp
  obtain ⟨j, hj⟩ : ∃ j, k + 1 + j = L := ⟨L - 1 - k, by omega⟩
  have ek : L - k = j + 1 := by omega
  rw [ek] at s1 s2
  obtain ⟨a, ha⟩ : ∃ a, m / BB ^ j % BB = a := ⟨_, rfl⟩
  obtain ⟨r, hr⟩ : ∃ r, m / BB ^ (j + 1) % d = r := ⟨_, rfl⟩
  have ha1 : a < 1000000000 := by rw [← ha]; exact Nat.mod_lt _ (by decide)
  have hr1 : r < d := by rw [← hr]; exact Nat.mod_lt _ hd0
  have eb : backAt (dg BB m) k = (j, a) := by
   unfold backAt
   rw [H1.out.1, show L - 1 - k = j by omega, dg_getD BB1, ha]
  obtain ⟨q1, q2, q3⟩ := quo_step (m := m) (i := j) BB1 hd0
  rw [ha, hr] at q1 q2 q3
  rw [hr] at s1
  obtain ⟨n, hn⟩ : ∃ n, r * BB + a = n := ⟨_, rfl⟩
  have hn' : r * 1000000000 + a = n := hn
  rw [hn] at q1 q2 q3
  have hq : n / d < 1000000000 := by rw [Nat.div_lt_iff_lt_mul hd0, Nat.mul_comm]; exact q3
  have hd1' : d < 1000000000 := hd1
  rw [eb]
  have HQ : Aside0 (n / d = m / d / BB ^ j % BB ∧ n % d = m / BB ^ j % d ∧ backs (dg BB m) k ++ [(j, a)] = backs (dg BB m) (k + 1)) := ⟨q1, q2, by rw [backs_succ, eb]⟩
  have HR : Aside0 (SI w m d L (backs (dg BB m) k) own W) := ⟨⟨rd, r2, r3, ro, ⟨k, hk', rfl, by rw [ek, hr]; exact s1, by rw [ek]; exact s2⟩, no, bl⟩⟩
  have cD := rd.cell
  have cR := s1.cell
  have fR := s1.frozen
  have cO := ro.cell
  have cj := s2.cell (j := j) (by rw [tops_length]; omega)
  have fj := s2.frozen j
  have hji : (j : Int) < (L : Int) := by omega
  have hdn : ¬ d = 0 := by omega
  obtain ⟨q, hqq⟩ : ∃ q, n / d = q := ⟨_, rfl⟩
  obtain ⟨r', hrr⟩ : ∃ r', n % d = r' := ⟨_, rfl⟩
  have hr2 : r' < d := by rw [← hrr]; exact Nat.mod_lt _ hd0
  rw [hqq, hrr] at HQ
  rw [hqq] at hq
  have e5 : IntKind.u64.wrap ((n : Int) / (d : Int)) = (q : Int) := by rw [← Int.natCast_ediv, hqq]; exact IntWalk.u64_in _ (by omega)
  have e7 : IntKind.u64.wrap ((n : Int) % (d : Int)) = (r' : Int) := by rw [← Int.natCast_emod, hrr]; exact IntWalk.u64_in _ (by omega)
  have EN : Aside0 ((n : Int) % (d : Int) = (r' : Int)) := ⟨by rw [← Int.natCast_emod, hrr]⟩
  have e6 : IntKind.u32.wrap (q : Int) = (q : Int) := IntWalk.u32_in _ (by omega)
  have e1 : IntKind.u64.wrap ((r : Int) * 1000000000) = (r : Int) * 1000000000 := IntWalk.u64_in _ (by omega)
  have e2 : IntKind.u64.wrap ((r : Int) * 1000000000 + (a : Int)) = (n : Int) := by rw [IntWalk.u64_in _ (by omega)]; omega
  have e3 : IntKind.u64.wrap (a : Int) = (a : Int) := IntWalk.u64_in _ (by omega)
  have e4 : IntKind.u64.wrap (d : Int) = (d : Int) := IntWalk.u64_in _ (by omega)
  have HS := Aside0.mk s2
  have HB := Aside0.mk bl
  have HO := Aside0.mk (show Boxed W (w.heap.size + 1) 22 (.int .u32 (d : Int)) ∧ Boxed W (w.heap.size + 1 + 1) 109 (.slice none 0 0) ∧ Boxed W (w.heap.size + 1 + 1 + 1) 109 (.slice none 0 0) ∧ Boxed W (w.heap.size + 1 + 1 + 1 + 1 + 1) 99 (.slice (some ⟨w.heap.size + 1 + 1 + 1 + 1, 0, none⟩) L L) from ⟨rd, r2, r3, ro⟩)
  have HS1 := Aside0.mk s1
  clear ha hr q1 q2 q3 hn hn' hqq hrr eb ek rd r2 r3 ro s1 s2 bl hp
  gi_wp2
  rename_i Q' K1 hK1
  refine wpIn_round_held_drew (S := (fun V => V.cell? ⟨w.heap.size + 1 + 1 + 1 + 1 + 1, 0, none⟩ = some (.slice (some ⟨w.heap.size + 1 + 1 + 1 + 1, 0, none⟩) L L) ∧ V.cell? ⟨w.heap.size + 1, 0, none⟩ = some (.int .u32 (d : Int)))) (by kernel_rfl) (by kernel_rfl) (by repeat (first | exact (fun ⟨_, _, h⟩ => h) | refine letsOut_then ?_)) ?_ (fun hHeld => ?_)
  ·exact ⟨cO, cD⟩
  refine tp 0 ?_
  try simp only [PU]
  refine tp 1 ?_
  try simp only [PU]
  refine tp 2 ?_
  try simp only [PU]
  refine tp 3 ?_
  try simp only [PU]
  refine tp 4 ?_
  try simp only [PU]
  refine tp 5 ?_
  try simp only [PU]
  refine tp 6 ?_
  try simp only [PU]
  refine tp 7 ?_
  try simp only [PU]
  refine tc 8 fun K hK => ?_
  go_simp
  (skip)
  refine hK.out _ _ ?_ fun hHeld => ?_
  ·exact ⟨(Boxed.otherO HO.out.2.2.2 (by omega) _ _).cell, (Boxed.otherO HO.out.1 (by omega) _ _).cell⟩
  clear hK K; try simp only [PU]
  refine wpAnyH_done (by kernel_rfl) ?_ _
  refine hK1 _ _ ?_
  obtain ⟨W2, hW2⟩ : ∃ W2, (W.setCell ⟨w.heap.size + 1 + 1 + 1 + 1, j, none⟩ (.int .u32 (q : Int))).drew = W2 := ⟨_, rfl⟩
  have HO2 : Aside0 (Boxed W2 (w.heap.size + 1) 22 (.int .u32 (d : Int)) ∧ Boxed W2 (w.heap.size + 1 + 1) 109 (.slice none 0 0) ∧ Boxed W2 (w.heap.size + 1 + 1 + 1) 109 (.slice none 0 0) ∧ Boxed W2 (w.heap.size + 1 + 1 + 1 + 1 + 1) 99 (.slice (some ⟨w.heap.size + 1 + 1 + 1 + 1, 0, none⟩) L L) ∧ Boxed W2 (w.heap.size + 1 + 1 + 1 + 1 + 1 + 1) 53 (.int .u64 (r : Int)) ∧ Row W2 (w.heap.size + 1 + 1 + 1 + 1) (tops BB (m / d) L j)) := ⟨by
   subst hW2
   refine ⟨Boxed.otherO HO.out.1 (by omega) _ _, Boxed.otherO HO.out.2.1 (by omega) _ _, Boxed.otherO HO.out.2.2.1 (by omega) _ _, Boxed.otherO HO.out.2.2.2 (by omega) _ _, Boxed.otherO HS1.out (by omega) _ _, ?_⟩
   have := HS.out.set j q
   rw [HQ.out.1, tops_set] at this
   rw [HQ.out.1]
   exact this⟩
  have HK2 : Aside0 (KeepsFrom W0.heap.size W W2 ∧ Rf.Kept w.heap.size own W W2 ∧ Below w.heap.size w W2) := ⟨by
   subst hW2
   refine ⟨((KeepsOthers.setCell _ _ _).trans (KeepsOthers.drew _)).from _, ⟨((Below.refl _ _).setCell (by simp; omega) _).drew, fun x hx hl => ?_⟩, (HB.out.setCell (by simp; omega) _).drew⟩
   exact Below.heap_setCell _ _ _ _ (fun e => no 4 (by omega) (by rw [show w.heap.size + 4 = x from e.symm]; exact hx))⟩
  rw [hW2]
  clear hW2 hHeld HO HS HS1 HB cD cR fR cO cj fj
  have cD := HO2.out.1.cell
  have cR := HO2.out.2.2.2.2.1.cell
  have fR := HO2.out.2.2.2.2.1.frozen
  gi_wp2
  rw [EN.out]
  refine ⟨HK2.out.1.trans ((KeepsOthers.setCell _ _ _).from _), HK2.out.2.1.trans ⟨(Below.refl _ _).setCell (by simp; omega) _, fun x hx hl => ?_⟩, ?_⟩
  ·exact Below.heap_setCell _ _ _ _ (fun e => no 6 (by omega) (by rw [show w.heap.size + 6 = x from e.symm]; exact hx))
  ·refine ⟨Boxed.otherO HO2.out.1 (by omega) _ _, Boxed.otherO HO2.out.2.1 (by omega) _ _, Boxed.otherO HO2.out.2.2.1 (by omega) _ _, Boxed.otherO HO2.out.2.2.2.1 (by omega) _ _, ⟨k + 1, by omega, HQ.out.2.2, ?_, ?_⟩, no, HK2.out.2.2.setCell (by simp; omega) _⟩
   ·rw [show L - (k + 1) = j by omega, ← HQ.out.2.1]
    exact HO2.out.2.2.2.2.1.set _
   ·rw [show L - (k + 1) = j by omega]
    exact HO2.out.2.2.2.2.2.other (by omega) _ _
 case done =>
  rintro D xs own W hD rfl hI hK
  obtain ⟨rd, r2, r3, ro, ⟨k, hk, hp, s1, s2⟩, no, bl⟩ := hI
  obtain rfl := backs_inj hp
  rw [Nat.sub_self, Nat.pow_zero, Nat.div_one] at s1
  rw [Nat.sub_self, tops_full] at s2
  have hdig : Aside0 (Lst W (w.heap.size + 5) (some ⟨w.heap.size + 1 + 1 + 1 + 1, 0, none⟩) L (digs BB (m / d) L) ∧ (∀ x ∈ digs BB (m / d) L, x < BB) ∧ val BB (digs BB (m / d) L) = m / d) := ⟨by
   have := s2.lst
   rw [digs_length] at this
   refine ⟨this, digs_lt BB1 _ _, ?_⟩
   rw [val_digs BB1]
   refine Nat.mod_eq_of_lt (Nat.lt_of_le_of_lt (Nat.div_le_self _ _) ?_)
   have h := dg_lt_pow BB1 m
   rwa [H1.out.1] at h⟩
  obtain ⟨r, hr⟩ : ∃ r, m % d = r := ⟨_, rfl⟩
  have hr1 : r < d := by rw [← hr]; exact Nat.mod_lt _ hd0
  have hr2 : r < 1000000000 := Nat.lt_trans hr1 hd1
  have hrB : r < BB := Nat.lt_trans hr1 hd1
  rw [hr] at s1
  have HMR : Aside0 (m % d = r) := ⟨hr⟩
  have c2 := r2.cell
  have f2 := r2.frozen
  have c3 := r3.cell
  have f3 := r3.frozen
  have cO := ro.cell
  have cR := s1.cell
  have e3 : IntKind.u32.wrap (r : Int) = (r : Int) := IntWalk.u32_in _ (by omega)
  have HB := Aside0.mk bl
  have HO := Aside0.mk (show Boxed W (w.heap.size + 1 + 1) 109 (.slice none 0 0) ∧ Boxed W (w.heap.size + 1 + 1 + 1) 109 (.slice none 0 0) ∧ Boxed W (w.heap.size + 1 + 1 + 1 + 1 + 1) 99 (.slice (some ⟨w.heap.size + 1 + 1 + 1 + 1, 0, none⟩) L L) ∧ Boxed W (w.heap.size + 1 + 1 + 1 + 1 + 1 + 1) 53 (.int .u64 (r : Int)) from ⟨r2, r3, ro, s1⟩)
  have HZ : Aside0 (w.heap.size + 7 ≤ W.heap.size) := ⟨by have := s1.lt; omega⟩
  clear rd r2 r3 ro s1 s2 bl hr hp
  gi_wp2
  refine wpIn_wide.2 ?_
  refine Code.wp_mono NoPanic.imp ?_
  rename_i Q' K1 hK1
  refine wp_region_held_drew (S := (fun V => V.cell? ⟨w.heap.size + 1 + 1 + 1 + 1 + 1, 0, none⟩ = some (.slice (some ⟨w.heap.size + 1 + 1 + 1 + 1, 0, none⟩) L L) ∧ V.cell? ⟨w.heap.size + 1 + 1 + 1 + 1 + 1 + 1, 0, none⟩ = some (.int .u64 (r : Int)))) (by kernel_rfl) ?_ (fun hHeld => ?_)
  ·exact ⟨cO, cR⟩
  obtain ⟨Wd, hWd⟩ : ∃ Wd, W.drew = Wd := ⟨_, rfl⟩
  rw [hWd] at hHeld ⊢
  have HBV : Aside0 (Below W.heap.size W Wd) := ⟨by subst hWd; exact below_drew1 (Below.refl _ _)⟩
  refine tp 0 ?_
  try simp only [PU]
  refine tp 3 ?_
  try simp only [PU]
  refine tp 4 ?_
  try simp only [PU]
  refine wpAnyH_ready (rs := [1, 5]) (by kernel_rfl) (by simp) ?_
  refine AllReadyH.cons rfl (fun K hK => ?_) (AllReadyH.cons rfl (fun K hK => ?_) (AllReadyH.nil))
  ·go_simp
   (go_at_call 180; (with_reducible refine (strip_calls (lst_up (hdig.out.1.below ((Below.refl _ _).mono (Nat.le_refl _))) (by have := HZ.out; omega) HBV.out) hdig.out.2.1 (Nat.le_refl _) hlen (by have := HZ.out; have := HBV.out.size; omega)).mono ?_); rintro e w1 ⟨k1, rfl, hm1, hbq⟩; (try have HLIT := Aside0.mk (lst_up HLIT.out (by simp) hbq)); have HBV := Aside0.mk (bJoin hbq HBV.out))
   refine hK.out _ _ ?_ fun hHeld => ?_
   ·(first | exact ⟨keepAt hbq hHeld.1, keepAt hbq hHeld.2⟩ | exact ⟨keepAt (below_alloc (Below.refl _ _) _) hHeld.1, keepAt (below_alloc (Below.refl _ _) _) hHeld.2⟩ | exact ⟨(World.cell?_setCell_other _ _ _ _ (by simp)).trans hHeld.1, (World.cell?_setCell_other _ _ _ _ (by simp)).trans hHeld.2⟩)
   clear hK K; try simp only [PU]
   refine tp 2 ?_
   try simp only [PU]
   refine tc 5 fun K hK => ?_
   go_simp
   ((try have hm1 := hm1.keep (by have := HZ.out; have := HBV.out.size; omega) (below_alloc (Below.refl _ _) (.cells #[.int .u32 (r : Int)] 22))); have HLIT := Aside0.mk (lst_lit HBV.out r 22); have HBV := Aside0.mk (below_alloc HBV.out (.cells #[.int .u32 (r : Int)] 22)))
   refine hK.out _ _ ?_ fun hHeld => ?_
   ·(first | exact ⟨keepAt hbq hHeld.1, keepAt hbq hHeld.2⟩ | exact ⟨keepAt (below_alloc (Below.refl _ _) _) hHeld.1, keepAt (below_alloc (Below.refl _ _) _) hHeld.2⟩ | exact ⟨(World.cell?_setCell_other _ _ _ _ (by simp)).trans hHeld.1, (World.cell?_setCell_other _ _ _ _ (by simp)).trans hHeld.2⟩)
   clear hK K; try simp only [PU]
   refine tc 6 fun K hK => ?_
   go_simp
   (go_at_call 180; (with_reducible refine (strip_lit HLIT.out hrB (by first | (simp; done) | (have := hbq.size; simp at this ⊢; omega))).mono ?_); rintro e w6 ⟨A2, k2, rfl, hm2, hbq⟩; have hm1 := hm1.keep (by have := HZ.out; have := HBV.out.size; omega) hbq; have HBV := Aside0.mk (bJoin hbq HBV.out); have g2 := keepAt HBV.out c2; have g3 := keepAt HBV.out c3; have gf2 := keepF HBV.out c2 f2; have gf3 := keepF HBV.out c3 f3)
   refine hK.out _ _ ?_ fun hHeld => ?_
   ·(first | exact ⟨keepAt hbq hHeld.1, keepAt hbq hHeld.2⟩ | exact ⟨keepAt (below_alloc (Below.refl _ _) _) hHeld.1, keepAt (below_alloc (Below.refl _ _) _) hHeld.2⟩ | exact ⟨(World.cell?_setCell_other _ _ _ _ (by simp)).trans hHeld.1, (World.cell?_setCell_other _ _ _ _ (by simp)).trans hHeld.2⟩)
   clear hK K; try simp only [PU]
   refine tp 7 ?_
   try simp only [PU]
   refine tc 8 fun K hK => ?_
   go_simp
   (skip)
   refine hK.out _ _ ?_ fun hHeld => ?_
   ·(first | exact ⟨keepAt hbq hHeld.1, keepAt hbq hHeld.2⟩ | exact ⟨keepAt (below_alloc (Below.refl _ _) _) hHeld.1, keepAt (below_alloc (Below.refl _ _) _) hHeld.2⟩ | exact ⟨(World.cell?_setCell_other _ _ _ _ (by simp)).trans hHeld.1, (World.cell?_setCell_other _ _ _ _ (by simp)).trans hHeld.2⟩)
   clear hK K; try simp only [PU]
   refine tc 9 fun K hK => ?_
   go_simp
   (skip)
   refine hK.out _ _ ?_ fun hHeld => ?_
   ·(first | exact ⟨keepAt hbq hHeld.1, keepAt hbq hHeld.2⟩ | exact ⟨keepAt (below_alloc (Below.refl _ _) _) hHeld.1, keepAt (below_alloc (Below.refl _ _) _) hHeld.2⟩ | exact ⟨(World.cell?_setCell_other _ _ _ _ (by simp)).trans hHeld.1, (World.cell?_setCell_other _ _ _ _ (by simp)).trans hHeld.2⟩)
   clear hK K; try simp only [PU]
   refine wpAnyH_done (by kernel_rfl) ?_ _
   refine NoPanic.normal ?_
   refine hK1 _ _ ?_
   gi_wp2
   have hDw := (HBV.out.block D (Array.getElem?_eq_some_iff.1 hK).1).trans hK
   have hDX : ∀ u v : Value, ((w6.setCell ⟨w.heap.size + 1 + 1, 0, none⟩ u).setCell ⟨w.heap.size + 1 + 1 + 1, 0, none⟩ v).heap[D]? = some (.deferred (some [])) := fun u v => ((KeepsOthers.setCell _ _ _).trans (KeepsOthers.setCell _ _ _)).same D _ hDw rfl
   refine short_end w _ D _ (.slice (some ⟨w.heap.size + 1 + 1 + 1 + 1, 0, none⟩) k1 k1) (.slice A2 k2 k2) _ rfl rfl (by omega) (hDX _ _) ?_ ?_ ⟨_, k1, _, k2, rfl, ?_, ?_, ?_⟩
   ·exact (World.cell?_setCell_other _ _ _ _ (by simp)).trans (World.cell?_setCell_same' _ _ _ (by rw [g2]; rfl))
   ·exact World.cell?_setCell_same' _ _ _ (by rw [World.cell?_setCell_other _ _ _ _ (by simp), g3]; rfl)
   ·rw [← hdig.out.2.2]
    refine Mag.more (Mag.putD (Mag.setA (Mag.setA hm1 (hm1.apart g2 (fun d => by simp)) _ _) (hm1.apart g3 (fun d => by simp)) _ _) (hDX _ _) _) (by have := HZ.out; have := HBV.out.size; simp; omega)
   ·rw [HMR.out]
    refine Mag.more (Mag.putD (Mag.setA (Mag.setA hm2 (hm2.apart g2 (fun d => by simp)) _ _) (hm2.apart g3 (fun d => by simp)) _ _) (hDX _ _) _) (by simp)
   ·exact (((HB.out.trans (HBV.out.mono (by have := HZ.out; omega))).setCell (by simp; omega) _).setCell (by simp; omega) _).trans (belowK_b (w := w) (Nat.le_refl _) _ D _ _ (by omega) (hDX _ _) rfl rfl)
  ·go_simp
   ((try have hm1 := hm1.keep (by have := HZ.out; have := HBV.out.size; omega) (below_alloc (Below.refl _ _) (.cells #[.int .u32 (r : Int)] 22))); have HLIT := Aside0.mk (lst_lit HBV.out r 22); have HBV := Aside0.mk (below_alloc HBV.out (.cells #[.int .u32 (r : Int)] 22)))
   refine hK.out _ _ ?_ fun hHeld => ?_
   ·(first | exact ⟨keepAt hbq hHeld.1, keepAt hbq hHeld.2⟩ | exact ⟨keepAt (below_alloc (Below.refl _ _) _) hHeld.1, keepAt (below_alloc (Below.refl _ _) _) hHeld.2⟩ | exact ⟨(World.cell?_setCell_other _ _ _ _ (by simp)).trans hHeld.1, (World.cell?_setCell_other _ _ _ _ (by simp)).trans hHeld.2⟩)
   clear hK K; try simp only [PU]
   refine tc 1 fun K hK => ?_
   go_simp
   (go_at_call 180; (with_reducible refine (strip_calls (lst_up (hdig.out.1.below ((Below.refl _ _).mono (Nat.le_refl _))) (by have := HZ.out; omega) HBV.out) hdig.out.2.1 (Nat.le_refl _) hlen (by have := HZ.out; have := HBV.out.size; omega)).mono ?_); rintro e w1 ⟨k1, rfl, hm1, hbq⟩; (try have HLIT := Aside0.mk (lst_up HLIT.out (by simp) hbq)); have HBV := Aside0.mk (bJoin hbq HBV.out))
   refine hK.out _ _ ?_ fun hHeld => ?_
   ·(first | exact ⟨keepAt hbq hHeld.1, keepAt hbq hHeld.2⟩ | exact ⟨keepAt (below_alloc (Below.refl _ _) _) hHeld.1, keepAt (below_alloc (Below.refl _ _) _) hHeld.2⟩ | exact ⟨(World.cell?_setCell_other _ _ _ _ (by simp)).trans hHeld.1, (World.cell?_setCell_other _ _ _ _ (by simp)).trans hHeld.2⟩)
   clear hK K; try simp only [PU]
   refine tp 2 ?_
   try simp only [PU]
   refine tc 6 fun K hK => ?_
   go_simp
   (go_at_call 180; (with_reducible refine (strip_lit HLIT.out hrB (by first | (simp; done) | (have := hbq.size; simp at this ⊢; omega))).mono ?_); rintro e w6 ⟨A2, k2, rfl, hm2, hbq⟩; have hm1 := hm1.keep (by have := HZ.out; have := HBV.out.size; omega) hbq; have HBV := Aside0.mk (bJoin hbq HBV.out); have g2 := keepAt HBV.out c2; have g3 := keepAt HBV.out c3; have gf2 := keepF HBV.out c2 f2; have gf3 := keepF HBV.out c3 f3)
   refine hK.out _ _ ?_ fun hHeld => ?_
   ·(first | exact ⟨keepAt hbq hHeld.1, keepAt hbq hHeld.2⟩ | exact ⟨keepAt (below_alloc (Below.refl _ _) _) hHeld.1, keepAt (below_alloc (Below.refl _ _) _) hHeld.2⟩ | exact ⟨(World.cell?_setCell_other _ _ _ _ (by simp)).trans hHeld.1, (World.cell?_setCell_other _ _ _ _ (by simp)).trans hHeld.2⟩)
   clear hK K; try simp only [PU]
   refine tp 7 ?_
   try simp only [PU]
   refine tc 8 fun K hK => ?_
   go_simp
   (skip)
   refine hK.out _ _ ?_ fun hHeld => ?_
   ·(first | exact ⟨keepAt hbq hHeld.1, keepAt hbq hHeld.2⟩ | exact ⟨keepAt (below_alloc (Below.refl _ _) _) hHeld.1, keepAt (below_alloc (Below.refl _ _) _) hHeld.2⟩ | exact ⟨(World.cell?_setCell_other _ _ _ _ (by simp)).trans hHeld.1, (World.cell?_setCell_other _ _ _ _ (by simp)).trans hHeld.2⟩)
   clear hK K; try simp only [PU]
   refine tc 9 fun K hK => ?_
   go_simp
   (skip)
   refine hK.out _ _ ?_ fun hHeld => ?_
   ·(first | exact ⟨keepAt hbq hHeld.1, keepAt hbq hHeld.2⟩ | exact ⟨keepAt (below_alloc (Below.refl _ _) _) hHeld.1, keepAt (below_alloc (Below.refl _ _) _) hHeld.2⟩ | exact ⟨(World.cell?_setCell_other _ _ _ _ (by simp)).trans hHeld.1, (World.cell?_setCell_other _ _ _ _ (by simp)).trans hHeld.2⟩)
   clear hK K; try simp only [PU]
   refine wpAnyH_done (by kernel_rfl) ?_ _
   refine NoPanic.normal ?_
   refine hK1 _ _ ?_
   gi_wp2
   have hDw := (HBV.out.block D (Array.getElem?_eq_some_iff.1 hK).1).trans hK
   have hDX : ∀ u v : Value, ((w6.setCell ⟨w.heap.size + 1 + 1, 0, none⟩ u).setCell ⟨w.heap.size + 1 + 1 + 1, 0, none⟩ v).heap[D]? = some (.deferred (some [])) := fun u v => ((KeepsOthers.setCell _ _ _).trans (KeepsOthers.setCell _ _ _)).same D _ hDw rfl
   refine short_end w _ D _ (.slice (some ⟨w.heap.size + 1 + 1 + 1 + 1, 0, none⟩) k1 k1) (.slice A2 k2 k2) _ rfl rfl (by omega) (hDX _ _) ?_ ?_ ⟨_, k1, _, k2, rfl, ?_, ?_, ?_⟩
   ·exact (World.cell?_setCell_other _ _ _ _ (by simp)).trans (World.cell?_setCell_same' _ _ _ (by rw [g2]; rfl))
   ·exact World.cell?_setCell_same' _ _ _ (by rw [World.cell?_setCell_other _ _ _ _ (by simp), g3]; rfl)
   ·rw [← hdig.out.2.2]
    refine Mag.more (Mag.putD (Mag.setA (Mag.setA hm1 (hm1.apart g2 (fun d => by simp)) _ _) (hm1.apart g3 (fun d => by simp)) _ _) (hDX _ _) _) (by have := HZ.out; have := HBV.out.size; simp; omega)
   ·rw [HMR.out]
    refine Mag.more (Mag.putD (Mag.setA (Mag.setA hm2 (hm2.apart g2 (fun d => by simp)) _ _) (hm2.apart g3 (fun d => by simp)) _ _) (hDX _ _) _) (by simp)
   ·exact (((HB.out.trans (HBV.out.mono (by have := HZ.out; omega))).setCell (by simp; omega) _).setCell (by simp; omega) _).trans (belowK_b (w := w) (Nat.le_refl _) _ D _ _ (by omega) (hDX _ _) rfl rfl)
end
end Go.Proofs.YtnjbinpbkjdjpaaGreatDoor.Nm
