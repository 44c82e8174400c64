import Derived.Test.YtillgofjlpjbcaaGreatDoorH6
import Derived.Test.YtillgofjlpjbcaaGreatDoorH4
import Derived.Test.YtillgofjlpjbcaaGreatDoorH3
import Derived.Test.YtillgofjlpjbcaaGreatDoorH1
/- Own text: contracts and laws on which the card rests (NmY NnL NmZ0 NmZ NmQ NnM). -/
set_option linter.unusedVariables false
set_option linter.unusedSimpArgs false
set_option maxRecDepth 1000000
set_option maxHeartbeats 16000000
namespace Go.Proofs.YtillgofjlpjbcaaGreatDoor.Nm
section
open Go.Proofs.YtillgofjlpjbcaaGreatDoor.Rf Go.Proofs.YtillgofjlpjbcaaGreatDoorW.PrintLast Go.Proofs.YtillgofjlpjbcaaGreatDoorW.PrintMore Go.Proofs.YtillgofjlpjbcaaGreatDoorW.PrintWords Go.RowKit Go.Shelf
/-- What lies in memory between two rounds of common. -/
structure CI (w : World) (G y : Nat) (A1 A2 : Option Addr) (L1 L2 x : Nat) (W : World) : Prop where
 b0 : Boxed W w.heap.size 87 (.slice A1 L1 L1)
 b1 : Boxed W (w.heap.size + 1) 87 (.slice A2 L2 L2)
 b2 : Boxed W (w.heap.size + 1 + 1) 87 (.slice none 0 0)
 m1 : Mag W W.heap.size A1 L1 x
 m2 : Mag W W.heap.size A2 L2 y
 g : Nat.gcd x y = G
 bl : Below w.heap.size w W
theorem CI.below {w : World} {G y : Nat} {A1 A2 : Option Addr} {L1 L2 x : Nat} {W X : World} (h : CI w G y A1 A2 L1 L2 x W) (hb : Below W.heap.size W X) : CI w G y A1 A2 L1 L2 x X :=
 ⟨boxed_below h.b0 hb, boxed_below h.b1 hb, boxed_below h.b2 hb, h.m1.up hb, h.m2.up hb, h.g, h.bl.trans (hb.mono h.bl.size)⟩
theorem CI.swap {w : World} {G y : Nat} {A1 A2 : Option Addr} {L1 L2 x : Nat} {X : World} (h : CI w G y A1 A2 L1 L2 x X) {A6 : Option Addr} {k6 : Nat} (hm : Mag X X.heap.size A6 k6 (x % y)) :
 CI w G (x % y) A2 A6 L2 k6 y ((X.setCell ⟨w.heap.size, 0, none⟩ (.slice A2 L2 L2)).setCell ⟨w.heap.size + 1, 0, none⟩ (.slice A6 k6 k6)) := by
 have b1' := h.b1.other (B' := w.heap.size) (by omega) (.slice A2 L2 L2)
 refine ⟨(h.b0.set _).other (by omega) _, b1'.set _, (h.b2.other (by omega) _).other (by omega) _, (h.m2.upS h.b0 (fun d => by simp) _ _).upS b1' (fun d => by simp) _ _, (hm.upS h.b0 (fun d => by simp) _ _).upS b1' (fun d => by simp) _ _, ?_, (h.bl.setCell (p := ⟨w.heap.size, 0, none⟩) (Nat.le_refl _) _).setCell (by simp) _⟩
 rw [← h.g, Nat.gcd_comm y, Nat.gcd_comm x, ← Nat.gcd_rec]
theorem common_calls {w : World} {B : Nat} {A1 A2 : Option Addr} {L1 L2 x y : Nat} (h1 : Mag w B A1 L1 x) (h2 : Mag w B A2 L2 y) (hB : B ≤ w.heap.size) (hs1 : L1 ≤ 40000) (hs2 : L2 ≤ 40000) :
 Calls Tryz.prog 96 #[.agg #[.slice A1 L1 L1], .agg #[.slice A2 L2 L2]] w fun e w' => ∃ A k, e = .returned (.agg #[.slice A k k]) ∧ Mag w' w'.heap.size A k (Nat.gcd x y) ∧ Below w.heap.size w w' := by
 obtain ⟨G, hG⟩ : ∃ G, Nat.gcd x y = G := ⟨_, rfl⟩
 have H0 : Aside0 (Mag w B A1 L1 x ∧ Mag w B A2 L2 y) := ⟨h1, h2⟩
 rw [hG]
 go_enter Tryz.func96, Tryz.ntmps96
 go_wp2_with fail
 have I0 : Aside0 (CI w G y A1 A2 L1 L2 x (((w.alloc (.cells #[.slice A1 L1 L1] 87)).alloc (.cells #[.slice A2 L2 L2] 87)).alloc (.cells #[.slice none 0 0] 87))) := ⟨by
  have hb : Below w.heap.size w (((w.alloc (.cells #[.slice A1 L1 L1] 87)).alloc (.cells #[.slice A2 L2 L2] 87)).alloc (.cells #[.slice none 0 0] 87)) := by repeat (first | exact Below.refl _ _ | apply below_alloc)
  exact ⟨((boxed_at w _ _ _ rfl).alloc _).alloc _, (boxed_at (w.alloc _) _ _ _ (by simp)).alloc _, boxed_at ((w.alloc _).alloc _) _ _ _ (by simp), (H0.out.1.keep hB hb).more (Nat.le_trans hB hb.size), (H0.out.2.keep hB hb).more (Nat.le_trans hB hb.size), hG, hb⟩⟩
 clear h1 h2 hG H0
 go_loopg [] y (fun k W => ∃ A1 A2 L1 L2 x, L1 ≤ 40000 ∧ L2 ≤ 40000 ∧ Aside0 (CI w G k A1 A2 L1 L2 x W))
 case atStart => exact ⟨A1, A2, L1, L2, x, hs1, hs2, I0⟩
 case round =>
  obtain ⟨A1, A2, L1, L2, x, hs1, hs2, HI⟩ := hrel
  have c0 := HI.out.b0.cell
  have c1 := HI.out.b1.cell
  by_cases hk : gk = 0
  ·have HZ : Aside0 (decide (gk = 0) = true ∧ x = G) := ⟨decide_eq_true hk, by have := HI.out.g; rw [hk, Nat.gcd_zero_right] at this; exact this⟩
   clear hk
   go_wp2_with (go_at_call 89; (with_reducible refine (isZero_any HI.out.m2 (Nat.le_refl _) (Below.refl _ _) HZ.out.1).mono ?_); rintro e wq ⟨rfl, hbq⟩; have c0 := keepAt hbq c0; have c2 := (HI.out.below hbq).b2.cell; have f2 := (HI.out.below hbq).b2.frozen; have HQ := Aside0.mk (HI.out.below hbq))
   refine bodyPost_ret (v := .agg #[.slice A1 L1 L1]) (by simp [results, Tryz.results96, go_sem, c2]) rfl ⟨A1, L1, rfl, ?_, HQ.out.bl.setCell (by simp; omega) _⟩
   rw [← HZ.out.2]
   exact HQ.out.m1.upS HQ.out.b2 (fun d => by simp) _ _
  ·have HZ : Aside0 (decide (gk = 0) = false ∧ 0 < gk) := ⟨decide_eq_false hk, by omega⟩
   clear hk
   go_wp2_with (first
    | (go_at_call 89; (with_reducible refine (isZero_any HI.out.m2 (Nat.le_refl _) (Below.refl _ _) HZ.out.1).mono ?_); rintro e wq ⟨rfl, hbq⟩; have c0 := keepAt hbq c0; have c1 := keepAt hbq c1; have HQ := Aside0.mk (HI.out.below hbq))
    | (go_at_call 151; (with_reducible refine (div_calls HQ.out.m1 HQ.out.m2 (Nat.le_refl _) HZ.out.2 hs1 hs2).mono ?_); rintro e wd ⟨A5, k5, A6, k6, rfl, hm5, hm6, hbd⟩; have c0 := keepAt hbd c0; have c1 := keepAt hbd c1; have HD := Aside0.mk (HQ.out.below hbd); have HM6 := Aside0.mk hm6; clear hm5 hm6 hbd))
   have hk6 : k6 ≤ L2 := by
    have h1 := dg_lt_pow BB1 gk
    rw [HI.out.m2.1] at h1
    have h2 := dg_length BB1 L2 (x % gk) (Nat.lt_trans (Nat.mod_lt _ HZ.out.2) h1)
    rw [HM6.out.1] at h2
    exact h2
   have HE : Aside0 (CI w G gk A1 A2 L1 L2 x ((wd.alloc (.cells #[.slice A5 k5 k5] 87)).alloc (.cells #[.slice A6 k6 k6] 87)) ∧ Mag ((wd.alloc (.cells #[.slice A5 k5 k5] 87)).alloc (.cells #[.slice A6 k6 k6] 87)) ((wd.alloc (.cells #[.slice A5 k5 k5] 87)).alloc (.cells #[.slice A6 k6 k6] 87)).heap.size A6 k6 (x % gk) ∧ Boxed ((wd.alloc (.cells #[.slice A5 k5 k5] 87)).alloc (.cells #[.slice A6 k6 k6] 87)) (wd.heap.size + 1) 87 (.slice A6 k6 k6)) := ⟨by
    have hb : Below wd.heap.size wd ((wd.alloc (.cells #[.slice A5 k5 k5] 87)).alloc (.cells #[.slice A6 k6 k6] 87)) := by repeat (first | exact Below.refl _ _ | apply below_alloc)
    exact ⟨HD.out.below hb, HM6.out.up hb, boxed_at (wd.alloc _) _ _ _ (by simp)⟩⟩
   obtain ⟨bt, hbt⟩ : ∃ bt, wd.heap.size + 1 = bt := ⟨_, rfl⟩
   have n1 : ¬ w.heap.size = bt := by have := HD.out.b2.lt; omega
   have n2 : ¬ bt = w.heap.size := fun e => n1 e.symm
   obtain ⟨Wd, hWd⟩ : ∃ Wd, ((wd.alloc (.cells #[.slice A5 k5 k5] 87)).alloc (.cells #[.slice A6 k6 k6] 87)) = Wd := ⟨_, rfl⟩
   rw [hWd, hbt] at HE
   rw [hWd, hbt]
   clear hWd hbt c0 c1
   have c0 := HE.out.1.b0.cell
   have f0 := HE.out.1.b0.frozen
   have c1 := HE.out.1.b1.cell
   have f1 := HE.out.1.b1.frozen
   have c6 := HE.out.2.2.cell
   refine wp_region_held_drew (S := (fun _ => True)) (by kernel_rfl) ?_ (fun hHeld => ?_)
   ·trivial
   refine wpAnyH_ready (rs := [0, 1]) (by kernel_rfl) (by simp) ?_
   refine AllReadyH.cons rfl (fun K hK => ?_) (AllReadyH.cons rfl (fun K hK => ?_) (AllReadyH.nil))
   ·go_simp
    refine hK.out _ _ ?_ fun hHeld => ?_
    ·trivial
    clear hK K; try simp only [PU]
    refine wpAnyH_ready (rs := [1, 2]) (by kernel_rfl) (by simp) ?_
    refine AllReadyH.cons rfl (fun K hK => ?_) (AllReadyH.cons rfl (fun K hK => ?_) (AllReadyH.nil))
    ·go_simp
     refine hK.out _ _ ?_ fun hHeld => ?_
     ·trivial
     clear hK K; try simp only [PU]
     refine tc 2 fun K hK => ?_
     go_simp
     refine hK.out _ _ ?_ fun hHeld => ?_
     ·trivial
     clear hK K; try simp only [PU]
     refine tc 3 fun K hK => ?_
     go_simp
     refine hK.out _ _ ?_ fun hHeld => ?_
     ·trivial
     clear hK K; try simp only [PU]
     refine wpAnyH_done (by kernel_rfl) ?_ _
     go_wp2
     have HS := (HE.out.1.swap HE.out.2.1).below (below_drew1 (Below.refl _ _))
     go_roundg (x % gk)
     case measure => exact Nat.mod_lt _ HZ.out.2
     case rel => exact ⟨A2, A6, L2, k6, gk, hs2, by omega, ⟨HS⟩⟩
    ·go_simp
     refine hK.out _ _ ?_ fun hHeld => ?_
     ·trivial
     clear hK K; try simp only [PU]
     refine tc 1 fun K hK => ?_
     go_simp
     refine hK.out _ _ ?_ fun hHeld => ?_
     ·trivial
     clear hK K; try simp only [PU]
     refine tc 3 fun K hK => ?_
     go_simp
     refine hK.out _ _ ?_ fun hHeld => ?_
     ·trivial
     clear hK K; try simp only [PU]
     refine wpAnyH_done (by kernel_rfl) ?_ _
     go_wp2
     have HS := (HE.out.1.swap HE.out.2.1).below (below_drew1 (Below.refl _ _))
     go_roundg (x % gk)
     case measure => exact Nat.mod_lt _ HZ.out.2
     case rel => exact ⟨A2, A6, L2, k6, gk, hs2, by omega, ⟨HS⟩⟩
   ·go_simp
    refine hK.out _ _ ?_ fun hHeld => ?_
    ·trivial
    clear hK K; try simp only [PU]
    refine tc 0 fun K hK => ?_
    go_simp
    refine hK.out _ _ ?_ fun hHeld => ?_
    ·trivial
    clear hK K; try simp only [PU]
    refine tc 2 fun K hK => ?_
    go_simp
    refine hK.out _ _ ?_ fun hHeld => ?_
    ·trivial
    clear hK K; try simp only [PU]
    refine tc 3 fun K hK => ?_
    go_simp
    refine hK.out _ _ ?_ fun hHeld => ?_
    ·trivial
    clear hK K; try simp only [PU]
    refine wpAnyH_done (by kernel_rfl) ?_ _
    go_wp2
    have HS := (HE.out.1.swap HE.out.2.1).below (below_drew1 (Below.refl _ _))
    go_roundg (x % gk)
    case measure => exact Nat.mod_lt _ HZ.out.2
    case rel => exact ⟨A2, A6, L2, k6, gk, hs2, by omega, ⟨HS⟩⟩
end
section
open Go.Lib Go.Proofs.YtillgofjlpjbcaaGreatDoorW.PrintLast Go.Proofs.YtillgofjlpjbcaaGreatDoorW.PrintMore Go.Proofs.YtillgofjlpjbcaaGreatDoorW.PrintWords Go.RowKit Go.Shelf
theorem minus_any {A1 A2 : Option Addr} {L1 L2 : Nat} {x y : Int} {w : World} (h1 : Mag w w.heap.size A1 L1 x.natAbs) (h2 : Mag w w.heap.size A2 L2 y.natAbs) (hL1 : L1 ≤ 90000) (hL2 : L2 ≤ 90000) :
 Calls Tryz.prog 83 #[iV A1 L1 x, iV A2 L2 y] w fun e w' => ∃ A k, e = .returned (iV A k (x - y)) ∧ Mag w' w'.heap.size A k (x - y).natAbs ∧ Below w.heap.size w w' := by
 have HN : Aside0 (∀ W, Below w.heap.size w W → Calls Tryz.prog 75 #[iV A2 L2 y] W fun e w' => e = .returned (iV A2 L2 (-y)) ∧ Below W.heap.size W w') := ⟨fun W hb => (negative_calls (h2.keep (Nat.le_refl _) hb) hb.size).mono fun e w' h => ⟨h.1, h.2.2⟩⟩
 have HP : Aside0 (∀ W, Below w.heap.size w W → Calls Tryz.prog 80 #[iV A1 L1 x, iV A2 L2 (-y)] W fun e w' => ∃ A k, e = .returned (iV A k (x - y)) ∧ Mag w' w'.heap.size A k (x - y).natAbs ∧ Below W.heap.size W w') := ⟨fun W hb => by
  have h := plus_calls (x := x) (y := -y) (h1.keep (Nat.le_refl _) hb) (show Mag W w.heap.size A2 L2 (-y).natAbs from by rw [Int.natAbs_neg]; exact h2.keep (Nat.le_refl _) hb) hb.size hL1 hL2
  rw [← Int.sub_eq_add_neg] at h
  exact h⟩
 clear h1 h2
 unfold iV at *
 generalize decide (x < 0) = f at *
 generalize decide (y < 0) = g at *
 generalize decide (-y < 0) = g' at *
 generalize decide (x - y < 0) = r at *
 generalize (x - y).natAbs = z at *
 go_enter Tryz.func83, Tryz.ntmps83
 go_wp2_with fail
 obtain ⟨wr, hwr⟩ : ∃ wr, (((w.alloc (.cells #[.slice A1 L1 L1, .bool f] 89)).alloc (.cells #[.slice A2 L2 L2, .bool g] 89)).alloc (.cells #[.slice none 0 0, .bool false] 89)) = wr := ⟨_, rfl⟩
 have HX : Aside0 (wr.cell? ⟨w.heap.size, 0, none⟩ = some (.slice A1 L1 L1) ∧ wr.cell? ⟨w.heap.size, 1, none⟩ = some (.bool f) ∧ wr.cell? ⟨w.heap.size + 1, 0, none⟩ = some (.slice A2 L2 L2) ∧ wr.cell? ⟨w.heap.size + 1, 1, none⟩ = some (.bool g)) := ⟨by
  subst hwr
  refine ⟨?_, ?_, ?_, ?_⟩ <;> simp [go_sem]⟩
 have HO : Aside0 (Out wr (w.heap.size + 1 + 1)) := ⟨by
  subst hwr
  refine ⟨?_, ?_, ?_, ?_⟩ <;> simp [go_sem]⟩
 have HA : Aside0 (Below w.heap.size w wr ∧ w.heap.size + 3 ≤ wr.heap.size) := ⟨by subst hwr; repeat (first | exact Below.refl _ _ | apply below_alloc), by subst hwr; simp⟩
 rw [hwr]
 clear hwr
 rename_i Q' K hK
 have KP : Aside0 (∀ V, Below (w.heap.size + 2) wr V → (fun V => V.cell? ⟨w.heap.size, 0, none⟩ = some (.slice A1 L1 L1) ∧ V.cell? ⟨w.heap.size, 1, none⟩ = some (.bool f) ∧ V.cell? ⟨w.heap.size + 1, 0, none⟩ = some (.slice A2 L2 L2) ∧ V.cell? ⟨w.heap.size + 1, 1, none⟩ = some (.bool g) ∧ Below (w.heap.size + 2) wr V) V) := ⟨fun V hBB => ⟨keepB hBB (by omega) HX.out.1, keepB hBB (by omega) HX.out.2.1, keepB hBB (by omega) HX.out.2.2.1, keepB hBB (by omega) HX.out.2.2.2, hBB⟩⟩
 refine wq KP fun hHeld => ?_
 refine tp 0 ?_
 try simp only [PU]
 refine tp 1 ?_
 try simp only [PU]
 refine tc 2 fun K hK => ?_
 go_simp
 (go_at_call 75; (with_reducible refine (HN.out _ (HA.out.1.trans (hHeld.2.2.2.2.mono (by omega)))).mono ?_); rintro e wm ⟨rfl, hbq⟩; have HOm := Out.keep' (Out.keep' HO (below_drew1 (Below.refl _ _))) hbq)
 refine hK.out _ _ ?_ fun hHeld => ?_
 ·(first | exact KP.out _ (bKeep hbq hHeld.2.2.2.2 (by have := HA.out.2; omega)) | (refine KP.out _ ?_; repeat (first | exact hHeld.2.2.2.2 | refine Below.setCell ?_ (by first | (simp; done) | (simp; omega)) _)))
 clear hK K; try simp only [PU]
 refine tc 3 fun K hK => ?_
 go_simp
 (go_at_call 80; (with_reducible refine (HP.out _ (HA.out.1.trans (hHeld.2.2.2.2.mono (by omega)))).mono ?_); rintro e wq ⟨A, k, rfl, hm, hbq⟩; have HOq := Out.keep' HOm hbq; obtain ⟨q1, q2, q3, q4⟩ := HOq.out)
 refine hK.out _ _ ?_ fun hHeld => ?_
 ·(first | exact KP.out _ (bKeep hbq hHeld.2.2.2.2 (by have := HA.out.2; omega)) | (refine KP.out _ ?_; repeat (first | exact hHeld.2.2.2.2 | refine Below.setCell ?_ (by first | (simp; done) | (simp; omega)) _)))
 clear hK K; try simp only [PU]
 refine tc 4 fun K hK => ?_
 go_simp
 refine hK.out _ _ ?_ fun hHeld => ?_
 ·(first | exact KP.out _ (bKeep hbq hHeld.2.2.2.2 (by have := HA.out.2; omega)) | (refine KP.out _ ?_; repeat (first | exact hHeld.2.2.2.2 | refine Below.setCell ?_ (by first | (simp; done) | (simp; omega)) _)))
 clear hK K; try simp only [PU]
 refine wpAnyH_done (by kernel_rfl) ?_ _
 refine hK _ _ ?_
 go_wp2
 refine bodyPost_ret (v := .agg #[.slice A k k, .bool r]) (by simp [results, Tryz.results83, go_sem, q1, q2]) rfl ⟨A, k, rfl, ?_, HA.out.1.trans ((hHeld.2.2.2.2).mono (by omega))⟩
 exact (HOq.out.mag hm _ _).more (by simp)
theorem gcd_any {A1 A2 : Option Addr} {L1 L2 : Nat} {x y : Int} {w : World} (h1 : Mag w w.heap.size A1 L1 x.natAbs) (h2 : Mag w w.heap.size A2 L2 y.natAbs) (hs1 : L1 ≤ 40000) (hs2 : L2 ≤ 40000) :
 Calls Tryz.prog 95 #[iV A1 L1 x, iV A2 L2 y] w fun e w' => ∃ A k, e = .returned (iV A k (Int.gcd x y)) ∧ Mag w' w'.heap.size A k (Int.gcd x y : Int).natAbs ∧ Below w.heap.size w w' := by
 have HC : ∀ W, Below w.heap.size w W → Calls Tryz.prog 96 #[.agg #[.slice A1 L1 L1], .agg #[.slice A2 L2 L2]] W fun e w' => ∃ A k, e = .returned (.agg #[.slice A k k]) ∧ Mag w' w'.heap.size A k (Int.gcd x y : Int).natAbs ∧ Below W.heap.size W w' := fun W hb => common_calls (h1.keep (Nat.le_refl _) hb) (h2.keep (Nat.le_refl _) hb) hb.size hs1 hs2
 clear h1 h2
 unfold iV
 have hg : decide ((Int.gcd x y : Int) < 0) = false := decide_eq_false (by omega)
 rw [hg]
 clear hg
 generalize decide (x < 0) = f at *
 generalize decide (y < 0) = g at *
 generalize (Int.gcd x y : Int).natAbs = z at *
 have HC := Aside0.mk HC
 have HB := Aside0.mk (Below.refl w.heap.size w)
 go_enter Tryz.func95, Tryz.ntmps95
 go_wp2_with (first | (go_at_call 96; ((with_reducible refine (HC.out _ bl).mono ?_); rintro e w1 ⟨A, k, rfl, hm, hb1⟩; obtain ⟨hc1, hf1⟩ := bcell hb1; have z1_0 : (w.heap.size) < w1.heap.size := zb hb1; have z1_1 : (w.heap.size + 1) < w1.heap.size := zb hb1; have z1_2 : (w.heap.size + 1 + 1) < w1.heap.size := zb hb1; have nB1 : Aside0 (Below w.heap.size w w1) := sb hb1; clear HB; have HB := nB1; clear nB1; have HM := Aside0.mk hm; clear hm)))
 have q : Out w1 (w.heap.size + 1 + 1) := by refine ⟨?_, ?_, ?_, ?_⟩ <;> simp [go_sem, hc1, hf1, z1_0, z1_1, z1_2]
 have q' := q
 obtain ⟨q1, q2, q3, q4⟩ := q
 refine bodyPost_ret (v := .agg #[.slice A k k, .bool false]) (by simp [results, Tryz.results95, go_sem, q1, q2]) rfl ⟨A, k, rfl, ?_, ?_⟩
 ·exact (q'.mag HM.out _ _).more (by simp)
 ·exact bl
theorem Mag.len {w : World} {B : Nat} {A : Option Addr} {L n k : Nat} (h : Mag w B A L n) (hn : n < 10 ^ (9 * k)) : L ≤ k := by
 have h1 := dg_length BB1 k n (by show n < (10 ^ 9) ^ k; rw [← Nat.pow_mul]; exact hn)
 rw [h.1] at h1
 exact h1
/-- An integer of fewer than k digits, or of k. -/
def Dig (k : Nat) (x : Int) : Prop := x.natAbs < 10 ^ k
theorem Dig.more {j k : Nat} {x : Int} (h : Dig j x) (hjk : j ≤ k) : Dig k x := Nat.lt_of_lt_of_le h (Nat.pow_le_pow_right (by decide) hjk)
theorem Dig.len {w : World} {B : Nat} {A : Option Addr} {L k : Nat} {x : Int} (h : Dig k x) (hm : Mag w B A L x.natAbs) (j : Nat) (hk : k ≤ 9 * j) : L ≤ j := hm.len (h.more hk)
theorem Dig.add {j k : Nat} {x y : Int} (hx : Dig j x) (hy : Dig k y) (m : Nat) (h1 : j < m) (h2 : k < m) : Dig m (x + y) := by
 have a := hx.more (k := m - 1) (by omega)
 have b := hy.more (k := m - 1) (by omega)
 unfold Dig at *
 have e : 10 ^ m = 10 ^ (m - 1) * 10 := by rw [← Nat.pow_succ]; congr 1; omega
 omega
theorem Dig.neg {j : Nat} {x : Int} (hx : Dig j x) : Dig j (-x) := by unfold Dig at *; rwa [Int.natAbs_neg]
theorem Dig.sub {j k : Nat} {x y : Int} (hx : Dig j x) (hy : Dig k y) (m : Nat) (h1 : j < m) (h2 : k < m) : Dig m (x - y) := by
 rw [Int.sub_eq_add_neg]; exact hx.add hy.neg m h1 h2
theorem Dig.mul {j k : Nat} {x y : Int} (hx : Dig j x) (hy : Dig k y) : Dig (j + k) (x * y) := by
 unfold Dig at *
 rw [Int.natAbs_mul, Nat.pow_add]
 exact Nat.mul_lt_mul_of_lt_of_lt hx hy
theorem intI_dig {s : ByteArray} (h : checkI s = 0) : Dig 120 (intI s) := by
 obtain ⟨h1, h2⟩ := check_ok h
 unfold Dig
 rw [intI_abs]
 have hd : DG (bodyB s).data.toList := isDig_of (by unfold digitsB at h1; simp only [Bool.and_eq_true] at h1; exact h1.1)
 have h3 := dv_lt _ hd
 refine Nat.lt_of_lt_of_le h3 (Nat.pow_le_pow_right (by decide) ?_)
 have : (bodyB s).data.toList.length = (bodyB s).size := by simp
 omega
theorem op2_plus {x y : Int} (hx : Dig 1000 x) (hy : Dig 1000 y) : Op2 80 x y (x + y) := fun W A1 A2 L1 L2 h1 h2 =>
 plus_calls h1 h2 (Nat.le_refl _) (by have := hx.len h1 112 (by omega); omega) (by have := hy.len h2 112 (by omega); omega)
theorem op2_times {x y : Int} (hx : Dig 1000 x) (hy : Dig 1000 y) : Op2 85 x y (x * y) := fun W A1 A2 L1 L2 h1 h2 =>
 times_calls h1 h2 (Nat.le_refl _) (by have := hx.len h1 112 (by omega); have := hy.len h2 112 (by omega); omega)
theorem op2_minus {x y : Int} (hx : Dig 1000 x) (hy : Dig 1000 y) : Op2 83 x y (x - y) := fun W A1 A2 L1 L2 h1 h2 =>
 minus_any h1 h2 (by have := hx.len h1 112 (by omega); omega) (by have := hy.len h2 112 (by omega); omega)
theorem op2_gcd {x y : Int} (hx : Dig 1000 x) (hy : Dig 1000 y) : Op2 95 x y (Int.gcd x y) := fun W A1 A2 L1 L2 h1 h2 =>
 gcd_any h1 h2 (by have := hx.len h1 112 (by omega); omega) (by have := hy.len h2 112 (by omega); omega)
/-- What an operation on two integers answers: the string and the error. -/
def biE (a b : ByteArray) : Int := firstI [checkI a, checkI b]
def biS (of : Int → Int → Int) (a b : ByteArray) : ByteArray := if biE a b = 0 then wrS (of (intI a) (intI b)) else ⟨#[]⟩
def biR (of : Int → Int → Int) (a b : ByteArray) : Int := if biE a b = 0 then wrE (of (intI a) (intI b)) else biE a b
theorem biE_zero {a b : ByteArray} (h : biE a b = 0) : checkI a = 0 ∧ checkI b = 0 := by
 unfold biE firstI firstI firstI at h
 split at h
 ·rename_i h1
  split at h
  ·rename_i h2; exact ⟨h1, h2⟩
  ·rename_i h2; exact absurd h h2
 ·rename_i h1; exact absurd h h1
theorem binary_calls (a b : ByteArray) (ha : a.size ≤ 90000) (hb : b.size ≤ 90000) {F : FuncId} {of : Int → Int → Int} (hF : ∀ x y, Dig 1000 x → Dig 1000 y → Op2 F x y (of x y)) (eF : Enters Tryz.prog F) (w : World) (htab : Tens w) :
 Calls Tryz.prog 79 #[.string a, .string b, .func (.func F) #[] #[]] w fun e w' => e = .returned (.tuple #[.string (biS of a b), .int .i64 (biR of a b)]) ∧ Below w.heap.size w w' := by
 unfold biS biR
 by_cases h : biE a b = 0
 ·rw [if_pos h, if_pos h]
  obtain ⟨h1, h2⟩ := biE_zero h
  exact binary_ok a b ha hb h1 h2 (hF _ _ ((intI_dig h1).more (by omega)) ((intI_dig h2).more (by omega))) eF w htab
 ·rw [if_neg h, if_neg h]
  exact binary_bad a b ha hb rfl h F w
theorem addN_calls (a b : ByteArray) (ha : a.size ≤ 90000) (hb : b.size ≤ 90000) (w : World) (htab : Tens w) :
 Calls Tryz.prog 21 #[.string a, .string b] w fun e w' => e = .returned (.tuple #[.string (biS (fun x y : Int => x + y) a b), .int .i64 (biR (fun x y : Int => x + y) a b)]) ∧ Below w.heap.size w w' := by
 have H := Aside0.mk (binary_calls a b ha hb (fun _ _ => op2_plus) (enters_of Tryz.func80 (by kernel_rfl) rfl) w htab)
 generalize biS (fun x y : Int => x + y) a b = S at *
 generalize biR (fun x y : Int => x + y) a b = R at *
 go_enter Tryz.func21, Tryz.ntmps21
 go_wp2_with (go_at_call 79; (with_reducible refine H.out.mono ?_); rintro e w1 ⟨rfl, hb1⟩)
 go_ret2
 exact ⟨rfl, hb1⟩
theorem subN_calls (a b : ByteArray) (ha : a.size ≤ 90000) (hb : b.size ≤ 90000) (w : World) (htab : Tens w) :
 Calls Tryz.prog 23 #[.string a, .string b] w fun e w' => e = .returned (.tuple #[.string (biS (fun x y : Int => x - y) a b), .int .i64 (biR (fun x y : Int => x - y) a b)]) ∧ Below w.heap.size w w' := by
 have H := Aside0.mk (binary_calls a b ha hb (fun _ _ => op2_minus) (enters_of Tryz.func83 (by kernel_rfl) rfl) w htab)
 generalize biS (fun x y : Int => x - y) a b = S at *
 generalize biR (fun x y : Int => x - y) a b = R at *
 go_enter Tryz.func23, Tryz.ntmps23
 go_wp2_with (go_at_call 79; (with_reducible refine H.out.mono ?_); rintro e w1 ⟨rfl, hb1⟩)
 go_ret2
 exact ⟨rfl, hb1⟩
theorem mulN_calls (a b : ByteArray) (ha : a.size ≤ 90000) (hb : b.size ≤ 90000) (w : World) (htab : Tens w) :
 Calls Tryz.prog 25 #[.string a, .string b] w fun e w' => e = .returned (.tuple #[.string (biS (fun x y : Int => x * y) a b), .int .i64 (biR (fun x y : Int => x * y) a b)]) ∧ Below w.heap.size w w' := by
 have H := Aside0.mk (binary_calls a b ha hb (fun _ _ => op2_times) (enters_of Tryz.func85 (by kernel_rfl) rfl) w htab)
 generalize biS (fun x y : Int => x * y) a b = S at *
 generalize biR (fun x y : Int => x * y) a b = R at *
 go_enter Tryz.func25, Tryz.ntmps25
 go_wp2_with (go_at_call 79; (with_reducible refine H.out.mono ?_); rintro e w1 ⟨rfl, hb1⟩)
 go_ret2
 exact ⟨rfl, hb1⟩
theorem gcdN_calls (a b : ByteArray) (ha : a.size ≤ 90000) (hb : b.size ≤ 90000) (w : World) (htab : Tens w) :
 Calls Tryz.prog 33 #[.string a, .string b] w fun e w' => e = .returned (.tuple #[.string (biS (fun x y : Int => (Int.gcd x y : Int)) a b), .int .i64 (biR (fun x y : Int => (Int.gcd x y : Int)) a b)]) ∧ Below w.heap.size w w' := by
 have H := Aside0.mk (binary_calls a b ha hb (fun _ _ => op2_gcd) (enters_of Tryz.func95 (by kernel_rfl) rfl) w htab)
 generalize biS (fun x y : Int => (Int.gcd x y : Int)) a b = S at *
 generalize biR (fun x y : Int => (Int.gcd x y : Int)) a b = R at *
 go_enter Tryz.func33, Tryz.ntmps33
 go_wp2_with (go_at_call 79; (with_reducible refine H.out.mono ?_); rintro e w1 ⟨rfl, hb1⟩)
 go_ret2
 exact ⟨rfl, hb1⟩
end
section
theorem over_pos {m n : Nat} (hn : 0 < n) (x : Int) (hx : x = m) : x / (n : Int) = (m / n : Nat) ∧ x % (n : Int) = (m % n : Nat) := by
 subst hx
 exact ⟨by rw [Int.natCast_ediv], by rw [Int.natCast_emod]⟩
theorem over_neg {m n : Nat} (hn : 0 < n) (x : Int) (hx : x = -(m : Int)) :
 (m % n = 0 → x / (n : Int) = -((m / n : Nat) : Int) ∧ x % (n : Int) = 0) ∧ (m % n ≠ 0 → x / (n : Int) = -((m / n + 1 : Nat) : Int) ∧ x % (n : Int) = ((n - m % n : Nat) : Int)) := by
 subst hx
 have hd := Nat.mod_add_div m n
 have hr := Nat.mod_lt m hn
 have hn' : (0 : Int) < (n : Int) := by omega
 obtain ⟨q, hq⟩ : ∃ q, m / n = q := ⟨_, rfl⟩
 obtain ⟨r, hr'⟩ : ∃ r, m % n = r := ⟨_, rfl⟩
 rw [hq, hr'] at hd
 rw [hr'] at hr
 rw [hq, hr']
 have hd' : (r : Int) + (n : Int) * (q : Int) = (m : Int) := by rw [← hd]; simp
 constructor
 ·intro h0
  refine (Int.ediv_emod_unique hn').2 ⟨?_, by omega, by omega⟩
  rw [Int.mul_neg, ← hd', h0]; simp
 ·intro h0
  refine (Int.ediv_emod_unique hn').2 ⟨?_, by omega, by omega⟩
  rw [Int.mul_neg, ← hd', Int.natCast_add, Int.mul_add, Int.natCast_sub (by omega)]
  simp; omega
/-- What over computes with magnitudes. -/
theorem over_law {x y : Int} (hy : y ≠ 0) {m n : Nat} (hm : x.natAbs = m) (hn : y.natAbs = n) :
 ((¬ x < 0 ∨ m % n = 0) → ((!(decide (x < 0) == decide (y < 0))) && decide (m / n ≠ 0)) = decide (x / y < 0) ∧ (x / y).natAbs = m / n ∧ (x % y).natAbs = m % n) ∧
 ((x < 0 ∧ m % n ≠ 0) → ((!(decide (x < 0) == decide (y < 0))) && decide (m / n + 1 ≠ 0)) = decide (x / y < 0) ∧ (x / y).natAbs = m / n + 1 ∧ (x % y).natAbs = n - m % n) ∧ 0 ≤ x % y := by
 have hn0 : 0 < n := by omega
 have hnn := Int.emod_nonneg x hy
 have key : ∀ q : Int, (y < 0 → x / y = -q) → (¬ y < 0 → x / y = q) → (x / y).natAbs = q.natAbs ∧ decide (x / y < 0) = if y < 0 then decide (0 < q) else decide (q < 0) := by
  intro q h1 h2
  by_cases h : y < 0
  ·rw [h1 h, if_pos h]; exact ⟨by omega, by rw [decide_eq_decide]; omega⟩
  ·rw [h2 h, if_neg h]; exact ⟨rfl, rfl⟩
 have hyn : (y < 0 → y = -(n : Int)) ∧ (¬ y < 0 → y = (n : Int)) := ⟨by omega, by omega⟩
 have e1 : (y < 0 → x / y = -(x / (n : Int))) ∧ (¬ y < 0 → x / y = x / (n : Int)) := ⟨fun h => by rw [hyn.1 h, Int.ediv_neg], fun h => by rw [← hyn.2 h]⟩
 have e2 : x % y = x % (n : Int) := by
  by_cases h : y < 0
  ·rw [hyn.1 h, Int.emod_neg]
  ·rw [← hyn.2 h]
 obtain ⟨k1, k2⟩ := key _ e1.1 e1.2
 obtain ⟨q, hq⟩ : ∃ q, m / n = q := ⟨_, rfl⟩
 rw [k1, k2, e2]
 by_cases hx : x < 0
 ·obtain ⟨p1, p2⟩ := over_neg hn0 x (show x = -(m : Int) by omega)
  rw [hq] at p1 p2 ⊢
  refine ⟨fun h => ?_, fun h => ?_, by rw [← e2]; exact hnn⟩
  ·have h0 : m % n = 0 := h.elim (fun h => absurd hx h) id
   obtain ⟨a1, a2⟩ := p1 h0
   rw [a1, a2, h0]
   refine ⟨?_, by omega, rfl⟩
   by_cases h : y < 0
   ·rw [if_pos h]; first | (simp [hx, h]; done) | (simp [hx, h]; omega) | (simp [hx, h]; rw [Bool.eq_iff_iff]; simp; done) | (simp [hx, h]; rw [Bool.eq_iff_iff]; simp; omega)
   ·rw [if_neg h]; first | (simp [hx, h]; done) | (simp [hx, h]; omega) | (simp [hx, h]; rw [Bool.eq_iff_iff]; simp; done) | (simp [hx, h]; rw [Bool.eq_iff_iff]; simp; omega)
  ·obtain ⟨a1, a2⟩ := p2 h.2
   rw [a1, a2]
   refine ⟨?_, by omega, by omega⟩
   by_cases h : y < 0
   ·rw [if_pos h]; first | (simp [hx, h]; done) | (simp [hx, h]; omega) | (simp [hx, h]; rw [Bool.eq_iff_iff]; simp; done) | (simp [hx, h]; rw [Bool.eq_iff_iff]; simp; omega)
   ·rw [if_neg h]; first | (simp [hx, h]; done) | (simp [hx, h]; omega) | (simp [hx, h]; rw [Bool.eq_iff_iff]; simp; done) | (simp [hx, h]; rw [Bool.eq_iff_iff]; simp; omega)
 ·obtain ⟨a1, a2⟩ := over_pos hn0 x (show x = (m : Int) by omega)
  rw [hq] at a1 ⊢
  refine ⟨fun _ => ?_, fun h => absurd h.1 hx, by rw [← e2]; exact hnn⟩
  rw [a1, a2]
  refine ⟨?_, by omega, by omega⟩
  by_cases h : y < 0
  ·rw [if_pos h]; first | (simp [hx, h]; done) | (simp [hx, h]; omega) | (simp [hx, h]; rw [Bool.eq_iff_iff]; simp; done) | (simp [hx, h]; rw [Bool.eq_iff_iff]; simp; omega)
  ·rw [if_neg h]; first | (simp [hx, h]; done) | (simp [hx, h]; omega) | (simp [hx, h]; rw [Bool.eq_iff_iff]; simp; done) | (simp [hx, h]; rw [Bool.eq_iff_iff]; simp; omega)
end
section
open Go.Proofs.YtillgofjlpjbcaaGreatDoor.Rf Go.Proofs.YtillgofjlpjbcaaGreatDoorW.PrintLast Go.Proofs.YtillgofjlpjbcaaGreatDoorW.PrintMore Go.Proofs.YtillgofjlpjbcaaGreatDoorW.PrintWords Go.RowKit Go.Shelf
/-- What lies in memory before over hands back its two integers. -/
structure OV (w : World) (f g : Bool) (A2 : Option Addr) (L2 n B6 B7 : Nat) (Aq : Option Addr) (kq q : Nat) (Ar : Option Addr) (kr r : Nat) (Z : World) : Prop where
 b6 : Boxed Z B6 87 (.slice Aq kq kq)
 b7 : Boxed Z B7 87 (.slice Ar kr kr)
 m6 : Mag Z Z.heap.size Aq kq q
 m7 : Mag Z Z.heap.size Ar kr r
 xf : Z.cell? ⟨w.heap.size, 1, none⟩ = some (.bool f)
 yg : Z.cell? ⟨w.heap.size + 1, 1, none⟩ = some (.bool g)
 ym : Z.cell? ⟨w.heap.size + 1, 0, none⟩ = some (.slice A2 L2 L2)
 my : Mag Z Z.heap.size A2 L2 n
 o2 : Out Z (w.heap.size + 1 + 1)
 o3 : Out Z (w.heap.size + 1 + 1 + 1)
 n6 : w.heap.size + 4 ≤ B6
 n7 : w.heap.size + 4 ≤ B7
 n67 : B6 ≠ B7
 bl : Below w.heap.size w Z
theorem OV.below {w : World} {f g : Bool} {A2 : Option Addr} {L2 n B6 B7 : Nat} {Aq : Option Addr} {kq q : Nat} {Ar : Option Addr} {kr r : Nat} {Z Y : World} (h : OV w f g A2 L2 n B6 B7 Aq kq q Ar kr r Z) (hb : Below Z.heap.size Z Y) : OV w f g A2 L2 n B6 B7 Aq kq q Ar kr r Y :=
 ⟨boxed_below h.b6 hb, boxed_below h.b7 hb, h.m6.up hb, h.m7.up hb, keepAt hb h.xf, keepAt hb h.yg, keepAt hb h.ym, h.my.up hb, h.o2.keep hb, h.o3.keep hb, h.n6, h.n7, h.n67, h.bl.trans (hb.mono h.bl.size)⟩
theorem Out.other {W : World} {b : Nat} (h : Out W b) {c : Nat} (hne : c ≠ b) (u : Value) : Out (W.setCell ⟨c, 0, none⟩ u) b :=
 ⟨(World.cell?_setCell_other _ _ _ _ (fun e => hne (by first | exact congrArg Addr.block e | exact (congrArg Addr.block e).symm))).trans h.1, (World.cell?_setCell_other _ _ _ _ (fun e => hne (by first | exact congrArg Addr.block e | exact (congrArg Addr.block e).symm))).trans h.2.1, by rw [World.frozen?_setCell]; exact h.2.2.1, by rw [World.frozen?_setCell]; exact h.2.2.2⟩
theorem cell_other {W : World} {b o : Nat} {v : Value} (h : W.cell? ⟨b, o, none⟩ = some v) {c : Nat} (hne : c ≠ b) (u : Value) : (W.setCell ⟨c, 0, none⟩ u).cell? ⟨b, o, none⟩ = some v :=
 (World.cell?_setCell_other _ _ _ _ (fun e => hne (by first | exact congrArg Addr.block e | exact (congrArg Addr.block e).symm))).trans h
theorem OV.set6 {w : World} {f g : Bool} {A2 : Option Addr} {L2 n B6 B7 : Nat} {Aq : Option Addr} {kq q : Nat} {Ar : Option Addr} {kr r : Nat} {Z : World} (h : OV w f g A2 L2 n B6 B7 Aq kq q Ar kr r Z) {Aq' : Option Addr} {kq' q' : Nat} (hm : Mag Z Z.heap.size Aq' kq' q') :
 OV w f g A2 L2 n B6 B7 Aq' kq' q' Ar kr r (Z.setCell ⟨B6, 0, none⟩ (.slice Aq' kq' kq')) := by
 have n6 := h.n6
 exact ⟨h.b6.set _, h.b7.other h.n67.symm _, hm.upS h.b6 (fun d => by simp) _ _, h.m7.upS h.b6 (fun d => by simp) _ _, cell_other h.xf (by omega) _, cell_other h.yg (by omega) _, cell_other h.ym (by omega) _, h.my.upS h.b6 (fun d => by simp) _ _, h.o2.other (by omega) _, h.o3.other (by omega) _, h.n6, h.n7, h.n67, h.bl.setCell (p := ⟨B6, 0, none⟩) (show w.heap.size ≤ B6 by omega) _⟩
theorem OV.set7 {w : World} {f g : Bool} {A2 : Option Addr} {L2 n B6 B7 : Nat} {Aq : Option Addr} {kq q : Nat} {Ar : Option Addr} {kr r : Nat} {Z : World} (h : OV w f g A2 L2 n B6 B7 Aq kq q Ar kr r Z) {Ar' : Option Addr} {kr' r' : Nat} (hm : Mag Z Z.heap.size Ar' kr' r') :
 OV w f g A2 L2 n B6 B7 Aq kq q Ar' kr' r' (Z.setCell ⟨B7, 0, none⟩ (.slice Ar' kr' kr')) := by
 have n7 := h.n7
 exact ⟨h.b6.other h.n67 _, h.b7.set _, h.m6.upS h.b7 (fun d => by simp) _ _, hm.upS h.b7 (fun d => by simp) _ _, cell_other h.xf (by omega) _, cell_other h.yg (by omega) _, cell_other h.ym (by omega) _, h.my.upS h.b7 (fun d => by simp) _ _, h.o2.other (by omega) _, h.o3.other (by omega) _, h.n6, h.n7, h.n67, h.bl.setCell (p := ⟨B7, 0, none⟩) (show w.heap.size ≤ B7 by omega) _⟩
theorem small_one (w : World) : Calls Tryz.prog 94 #[.int .u32 1] w fun e w' => ∃ A k, e = .returned (.agg #[.slice A k k, .bool false]) ∧ Mag w' w'.heap.size A k 1 ∧ Below w.heap.size w w' := small_calls (d := 1) BB1 w
theorem opaqueZ {p : World → Prop} {X : World} (h : Aside0 (p X)) : ∃ Y, X = Y ∧ Aside0 (p Y) := ⟨X, rfl, h⟩
theorem OV_start {w wd : World} {f g : Bool} {A2 A5 A6 : Option Addr} {L2 n k5 k6 q r : Nat} (hb0 : Below w.heap.size w wd) (h4 : w.heap.size + 4 ≤ wd.heap.size) (d0 : wd.cell? ⟨w.heap.size, 1, none⟩ = some (.bool f)) (d1 : wd.cell? ⟨w.heap.size + 1, 1, none⟩ = some (.bool g)) (d2 : wd.cell? ⟨w.heap.size + 1, 0, none⟩ = some (.slice A2 L2 L2))
 (hm : ∀ wx, Below w.heap.size w wx → Mag wx wx.heap.size A2 L2 n) (o2 : Out wd (w.heap.size + 1 + 1)) (o3 : Out wd (w.heap.size + 1 + 1 + 1)) (h5 : Mag wd wd.heap.size A5 k5 q) (h6 : Mag wd wd.heap.size A6 k6 r) :
 OV w f g A2 L2 n wd.heap.size (wd.heap.size + 1) A5 k5 q A6 k6 r ((wd.alloc (.cells #[.slice A5 k5 k5] 87)).alloc (.cells #[.slice A6 k6 k6] 87)) := by
 have hb : Below wd.heap.size wd ((wd.alloc (.cells #[.slice A5 k5 k5] 87)).alloc (.cells #[.slice A6 k6 k6] 87)) := by repeat (first | exact Below.refl _ _ | apply below_alloc)
 have hbw : Below w.heap.size w ((wd.alloc (.cells #[.slice A5 k5 k5] 87)).alloc (.cells #[.slice A6 k6 k6] 87)) := hb0.trans (hb.mono (by omega))
 exact ⟨(boxed_at wd _ _ _ rfl).alloc _, boxed_at (wd.alloc _) _ _ _ (by simp), h5.up hb, h6.up hb, keepAt hb d0, keepAt hb d1, keepAt hb d2, hm _ hbw, o2.keep hb, o3.keep hb, by omega, by omega, by omega, hbw⟩
theorem Out.mag2 {W : World} {b : Nat} {A : Option Addr} {L n : Nat} (h : Out W b) (hm : Mag W W.heap.size A L n) (u u' : Value) : Mag ((W.setCell ⟨b, 0, none⟩ u).setCell ⟨b, 1, none⟩ u') ((W.setCell ⟨b, 0, none⟩ u).setCell ⟨b, 1, none⟩ u').heap.size A L n := (h.mag hm u u').more (by simp)
theorem over_calls {w : World} {B : Nat} {A1 A2 : Option Addr} {L1 L2 : Nat} {x y : Int} (h1 : Mag w B A1 L1 x.natAbs) (h2 : Mag w B A2 L2 y.natAbs) (hB : B ≤ w.heap.size) (hy : y ≠ 0) (hs1 : L1 ≤ 40000) (hs2 : L2 ≤ 40000) :
 Calls Tryz.prog 90 #[iV A1 L1 x, iV A2 L2 y] w fun e w' => ∃ A k A' k', e = .returned (.tuple #[iV A k (x / y), iV A' k' (x % y)]) ∧ Mag w' w'.heap.size A k (x / y).natAbs ∧ Mag w' w'.heap.size A' k' (x % y).natAbs ∧ Below w.heap.size w w' := by
 unfold iV
 obtain ⟨m, hm⟩ : ∃ m, x.natAbs = m := ⟨_, rfl⟩
 obtain ⟨n, hn⟩ : ∃ n, y.natAbs = n := ⟨_, rfl⟩
 have hlaw := over_law hy hm hn
 rw [hm] at h1
 rw [hn] at h2
 have H1 : Aside0 (Mag w B A1 L1 m) := ⟨h1⟩
 have H2 : Aside0 (Mag w B A2 L2 n) := ⟨h2⟩
 have hn0 : 0 < n := by omega
 clear h1 h2
 have hrn : decide (x % y < 0) = false := decide_eq_false (by have := hlaw.2.2; omega)
 rw [hrn]
 obtain ⟨f, hf⟩ : ∃ f, decide (x < 0) = f := ⟨_, rfl⟩
 obtain ⟨g, hg⟩ : ∃ g, decide (y < 0) = g := ⟨_, rfl⟩
 obtain ⟨r, hr⟩ : ∃ r, decide (x / y < 0) = r := ⟨_, rfl⟩
 rw [hf, hg, hr] at hlaw
 have HL := Aside0.mk hlaw
 have HF : Aside0 (f = true ↔ x < 0) := ⟨by rw [← hf]; simp⟩
 rw [hf, hg, hr]
 clear hlaw hf hg hr hrn
 by_cases hc : ¬ x < 0 ∨ m % n = 0
 ·obtain ⟨l1, l2, l3⟩ := HL.out.1 hc
  have HLL : Aside0 ((!(f == g) && decide (m / n ≠ 0)) = r ∧ (x / y).natAbs = m / n ∧ (x % y).natAbs = m % n) := ⟨l1, l2, l3⟩
  clear l1 l2 l3
  cases f
  ·go_enter Tryz.func90, Tryz.ntmps90
   go_wp2_with (go_at_call 151; (with_reducible refine (div_calls ((H1.out.keep hB (by repeat (first | exact Below.refl _ _ | apply below_alloc)))) (H2.out.keep hB (by repeat (first | exact Below.refl _ _ | apply below_alloc))) (by simp; omega) hn0 hs1 hs2).mono ?_); rintro e wd ⟨A5, k5, A6, k6, rfl, hm5, hm6, hbd⟩; obtain ⟨f0, f1⟩ := bcell hbd; have d0 : wd.cell? ⟨w.heap.size, 1, none⟩ = some (.bool false) := (f0 _ _ (by first | (simp; done) | (simp; omega))).trans (by simp [go_sem]); have d1 : wd.cell? ⟨w.heap.size + 1, 1, none⟩ = some (.bool g) := (f0 _ _ (by first | (simp; done) | (simp; omega))).trans (by simp [go_sem]); have d2 : wd.cell? ⟨w.heap.size + 1, 0, none⟩ = some (.slice A2 L2 L2) := (f0 _ _ (by first | (simp; done) | (simp; omega))).trans (by simp [go_sem]); have HOO : Aside0 (Out wd (w.heap.size + 1 + 1) ∧ Out wd (w.heap.size + 1 + 1 + 1)) := ⟨⟨(f0 _ _ (by first | (simp; done) | (simp; omega))).trans (by simp [go_sem]), (f0 _ _ (by first | (simp; done) | (simp; omega))).trans (by simp [go_sem]), (f1 _ _ (by first | (simp; done) | (simp; omega))).trans (by simp [go_sem]), (f1 _ _ (by first | (simp; done) | (simp; omega))).trans (by simp [go_sem])⟩, ⟨(f0 _ _ (by first | (simp; done) | (simp; omega))).trans (by simp [go_sem]), (f0 _ _ (by first | (simp; done) | (simp; omega))).trans (by simp [go_sem]), (f1 _ _ (by first | (simp; done) | (simp; omega))).trans (by simp [go_sem]), (f1 _ _ (by first | (simp; done) | (simp; omega))).trans (by simp [go_sem])⟩⟩; have hlt0 : w.heap.size < wd.heap.size := (by have := hbd.size; simp at this; omega); have HBD : Aside0 (Below w.heap.size w wd ∧ w.heap.size + 4 ≤ wd.heap.size) := ⟨below_step (by repeat (first | exact Below.refl _ _ | apply below_alloc)) hbd, by have := hbd.size; simp at this; omega⟩; have HM5 := Aside0.mk hm5; have HM6 := Aside0.mk hm6; clear f0 f1 hbd hm5 hm6)
   rename_i Q' K hK
   have HZ : Aside0 (OV w false g A2 L2 n wd.heap.size (wd.heap.size + 1) A5 k5 (m / n) A6 k6 (m % n) ((wd.alloc (.cells #[.slice A5 k5 k5] 87)).alloc (.cells #[.slice A6 k6 k6] 87))) := ⟨(by
    have hb : Below wd.heap.size wd ((wd.alloc (.cells #[.slice A5 k5 k5] 87)).alloc (.cells #[.slice A6 k6 k6] 87)) := by repeat (first | exact Below.refl _ _ | apply below_alloc)
    have h4 := HBD.out.2
    have hbw : Below w.heap.size w ((wd.alloc (.cells #[.slice A5 k5 k5] 87)).alloc (.cells #[.slice A6 k6 k6] 87)) := HBD.out.1.trans (hb.mono (by omega))
    exact ⟨(boxed_at wd _ _ _ rfl).alloc _, boxed_at (wd.alloc _) _ _ _ (by simp), HM5.out.up hb, HM6.out.up hb, keepAt hb d0, keepAt hb d1, keepAt hb d2, (H2.out.keep hB hbw).more (Nat.le_trans hB hbw.size), HOO.out.1.keep hb, HOO.out.2.keep hb, by omega, by omega, by omega, hbw⟩)⟩
   obtain ⟨Z, hZ⟩ : ∃ Z, ((wd.alloc (.cells #[.slice A5 k5 k5] 87)).alloc (.cells #[.slice A6 k6 k6] 87)) = Z := ⟨_, rfl⟩
   obtain ⟨B6, hB6⟩ : ∃ B6, wd.heap.size = B6 := ⟨_, rfl⟩
   obtain ⟨B7, hB7⟩ : ∃ B7, B6 + 1 = B7 := ⟨_, rfl⟩
   rw [hZ, hB6, hB7] at HZ
   rw [hZ, hB6, hB7]
   clear hZ d0 d1 d2 HOO hlt0 HM5 HM6 HBD hB6 hB7
   have HSG : Aside0 ((g && decide (m / n ≠ 0)) = r) := ⟨by have h := HLL.out.1; rw [show (!(false == g)) = g by cases g <;> rfl] at h; exact h⟩
   have c6 := HZ.out.b6.cell
   have c7 := HZ.out.b7.cell
   have cf := HZ.out.xf
   have cg := HZ.out.yg
   refine wp_region_held_drew (S := (fun V => V.cell? ⟨B6, 0, none⟩ = some (.slice A5 k5 k5) ∧ V.cell? ⟨B7, 0, none⟩ = some (.slice A6 k6 k6) ∧ V.cell? ⟨w.heap.size, 1, none⟩ = some (.bool false) ∧ V.cell? ⟨w.heap.size + 1, 1, none⟩ = some (.bool g))) (by kernel_rfl) ?_ (fun hHeld => ?_)
   ·exact ⟨c6, c7, cf, cg⟩
   obtain ⟨Wd, hWd⟩ : ∃ Wd, Z.drew = Wd := ⟨_, rfl⟩
   rw [hWd] at hHeld ⊢
   have HBV : Aside0 (Below Z.heap.size Z Wd) := ⟨by subst hWd; exact below_drew1 (Below.refl _ _)⟩
   clear hWd
   refine tp 0 ?_
   try simp only [PU]
   refine tp 1 ?_
   try simp only [PU]
   refine tp 2 ?_
   try simp only [PU]
   refine tp 3 ?_
   try simp only [PU]
   refine tp 4 ?_
   try simp only [PU]
   refine tp 5 ?_
   try simp only [PU]
   refine tp 7 ?_
   try simp only [PU]
   refine tc 6 fun K hK => ?_
   go_simp
   (go_at_call 139; (with_reducible refine (signed_any (HZ.out.below HBV.out).m6 (Nat.le_refl _) HSG.out).mono ?_); rintro e wq ⟨rfl, hmq, hbq⟩; have hma := Aside0.mk (hmq.more hbq.size); have HBV := Aside0.mk (bJoin hbq HBV.out))
   refine hK.out _ _ ?_ fun hHeld => ?_
   ·(first | exact ⟨keepAt HBV.out c6, keepAt HBV.out c7, keepAt HBV.out cf, keepAt HBV.out cg⟩ | exact ⟨(World.cell?_setCell_other _ _ _ _ (by first | (simp; done) | (have := HZ.out.n6; simp; omega))).trans ((World.cell?_setCell_other _ _ _ _ (by first | (simp; done) | (have := HZ.out.n6; simp; omega))).trans hHeld.1), (World.cell?_setCell_other _ _ _ _ (by first | (simp; done) | (have := HZ.out.n7; simp; omega))).trans ((World.cell?_setCell_other _ _ _ _ (by first | (simp; done) | (have := HZ.out.n7; simp; omega))).trans hHeld.2.1), (World.cell?_setCell_other _ _ _ _ (by simp)).trans ((World.cell?_setCell_other _ _ _ _ (by simp)).trans hHeld.2.2.1), (World.cell?_setCell_other _ _ _ _ (by simp)).trans ((World.cell?_setCell_other _ _ _ _ (by simp)).trans hHeld.2.2.2)⟩)
   clear hK K; try simp only [PU]
   refine tc 8 fun K hK => ?_
   go_simp
   (go_at_call 139; (with_reducible refine (signed_any (r := false) (HZ.out.below HBV.out).m7 (Nat.le_refl _) rfl).mono ?_); rintro e wr ⟨rfl, hmr, hbq⟩; have hmb := Aside0.mk (hmr.more hbq.size); have hma := Aside0.mk (hma.out.up hbq); have HBV := Aside0.mk (bJoin hbq HBV.out); have HOT := Aside0.mk (And.intro (HZ.out.below HBV.out).o2 (HZ.out.below HBV.out).o3); obtain ⟨p1, p2, p3, p4⟩ := HOT.out.1; obtain ⟨q1, q2, q3, q4⟩ := HOT.out.2)
   refine hK.out _ _ ?_ fun hHeld => ?_
   ·(first | exact ⟨keepAt HBV.out c6, keepAt HBV.out c7, keepAt HBV.out cf, keepAt HBV.out cg⟩ | exact ⟨(World.cell?_setCell_other _ _ _ _ (by first | (simp; done) | (have := HZ.out.n6; simp; omega))).trans ((World.cell?_setCell_other _ _ _ _ (by first | (simp; done) | (have := HZ.out.n6; simp; omega))).trans hHeld.1), (World.cell?_setCell_other _ _ _ _ (by first | (simp; done) | (have := HZ.out.n7; simp; omega))).trans ((World.cell?_setCell_other _ _ _ _ (by first | (simp; done) | (have := HZ.out.n7; simp; omega))).trans hHeld.2.1), (World.cell?_setCell_other _ _ _ _ (by simp)).trans ((World.cell?_setCell_other _ _ _ _ (by simp)).trans hHeld.2.2.1), (World.cell?_setCell_other _ _ _ _ (by simp)).trans ((World.cell?_setCell_other _ _ _ _ (by simp)).trans hHeld.2.2.2)⟩)
   clear hK K; try simp only [PU]
   refine tc 9 fun K hK => ?_
   go_simp
   refine hK.out _ _ ?_ fun hHeld => ?_
   ·(first | exact ⟨keepAt HBV.out c6, keepAt HBV.out c7, keepAt HBV.out cf, keepAt HBV.out cg⟩ | exact ⟨(World.cell?_setCell_other _ _ _ _ (by first | (simp; done) | (have := HZ.out.n6; simp; omega))).trans ((World.cell?_setCell_other _ _ _ _ (by first | (simp; done) | (have := HZ.out.n6; simp; omega))).trans hHeld.1), (World.cell?_setCell_other _ _ _ _ (by first | (simp; done) | (have := HZ.out.n7; simp; omega))).trans ((World.cell?_setCell_other _ _ _ _ (by first | (simp; done) | (have := HZ.out.n7; simp; omega))).trans hHeld.2.1), (World.cell?_setCell_other _ _ _ _ (by simp)).trans ((World.cell?_setCell_other _ _ _ _ (by simp)).trans hHeld.2.2.1), (World.cell?_setCell_other _ _ _ _ (by simp)).trans ((World.cell?_setCell_other _ _ _ _ (by simp)).trans hHeld.2.2.2)⟩)
   clear hK K; try simp only [PU]
   refine tc 10 fun K hK => ?_
   go_simp
   refine hK.out _ _ ?_ fun hHeld => ?_
   ·(first | exact ⟨keepAt HBV.out c6, keepAt HBV.out c7, keepAt HBV.out cf, keepAt HBV.out cg⟩ | exact ⟨(World.cell?_setCell_other _ _ _ _ (by first | (simp; done) | (have := HZ.out.n6; simp; omega))).trans ((World.cell?_setCell_other _ _ _ _ (by first | (simp; done) | (have := HZ.out.n6; simp; omega))).trans hHeld.1), (World.cell?_setCell_other _ _ _ _ (by first | (simp; done) | (have := HZ.out.n7; simp; omega))).trans ((World.cell?_setCell_other _ _ _ _ (by first | (simp; done) | (have := HZ.out.n7; simp; omega))).trans hHeld.2.1), (World.cell?_setCell_other _ _ _ _ (by simp)).trans ((World.cell?_setCell_other _ _ _ _ (by simp)).trans hHeld.2.2.1), (World.cell?_setCell_other _ _ _ _ (by simp)).trans ((World.cell?_setCell_other _ _ _ _ (by simp)).trans hHeld.2.2.2)⟩)
   clear hK K; try simp only [PU]
   refine wpAnyH_done (by kernel_rfl) ?_ _
   refine hK _ _ ?_
   go_wp2
   have ho3 : Out ((wr.setCell ⟨w.heap.size + 1 + 1, 0, none⟩ (.slice A5 k5 k5)).setCell ⟨w.heap.size + 1 + 1, 1, none⟩ (.bool r)) (w.heap.size + 1 + 1 + 1) := ⟨(World.cell?_setCell_other _ _ _ _ (by simp)).trans ((World.cell?_setCell_other _ _ _ _ (by simp)).trans q1), (World.cell?_setCell_other _ _ _ _ (by simp)).trans ((World.cell?_setCell_other _ _ _ _ (by simp)).trans q2), by rw [World.frozen?_setCell, World.frozen?_setCell]; exact q3, by rw [World.frozen?_setCell, World.frozen?_setCell]; exact q4⟩
   refine bodyPost_ret (v := .tuple #[.agg #[.slice A5 k5 k5, .bool r], .agg #[.slice A6 k6 k6, .bool false]]) (by simp [results, Tryz.results90, go_sem, p1, p2, q1, q2]) rfl ⟨A5, k5, A6, k6, rfl, ?_, ?_, ?_⟩
   ·rw [HLL.out.2.1]; exact ho3.mag2 (HOT.out.1.mag2 hma.out _ _) _ _
   ·rw [HLL.out.2.2]; exact ho3.mag2 (HOT.out.1.mag2 hmb.out _ _) _ _
   ·exact (((((HZ.out.bl.trans (HBV.out.mono HZ.out.bl.size)).setCell (by simp; omega) _).setCell (by simp; omega) _).setCell (by simp; omega) _).setCell (by simp; omega) _)
  ·have HZR : Aside0 (decide (m % n = 0) = true) := ⟨decide_eq_true (hc.elim (fun h => absurd (HF.out.1 rfl) h) id)⟩
   go_enter Tryz.func90, Tryz.ntmps90
   go_wp2_with (first | (go_at_call 151; (with_reducible refine (div_calls ((H1.out.keep hB (by repeat (first | exact Below.refl _ _ | apply below_alloc)))) (H2.out.keep hB (by repeat (first | exact Below.refl _ _ | apply below_alloc))) (by simp; omega) hn0 hs1 hs2).mono ?_); rintro e wd ⟨A5, k5, A6, k6, rfl, hm5, hm6, hbd⟩; obtain ⟨f0, f1⟩ := bcell hbd; have d0 : wd.cell? ⟨w.heap.size, 1, none⟩ = some (.bool true) := (f0 _ _ (by first | (simp; done) | (simp; omega))).trans (by simp [go_sem]); have d1 : wd.cell? ⟨w.heap.size + 1, 1, none⟩ = some (.bool g) := (f0 _ _ (by first | (simp; done) | (simp; omega))).trans (by simp [go_sem]); have d2 : wd.cell? ⟨w.heap.size + 1, 0, none⟩ = some (.slice A2 L2 L2) := (f0 _ _ (by first | (simp; done) | (simp; omega))).trans (by simp [go_sem]); have HOO : Aside0 (Out wd (w.heap.size + 1 + 1) ∧ Out wd (w.heap.size + 1 + 1 + 1)) := ⟨⟨(f0 _ _ (by first | (simp; done) | (simp; omega))).trans (by simp [go_sem]), (f0 _ _ (by first | (simp; done) | (simp; omega))).trans (by simp [go_sem]), (f1 _ _ (by first | (simp; done) | (simp; omega))).trans (by simp [go_sem]), (f1 _ _ (by first | (simp; done) | (simp; omega))).trans (by simp [go_sem])⟩, ⟨(f0 _ _ (by first | (simp; done) | (simp; omega))).trans (by simp [go_sem]), (f0 _ _ (by first | (simp; done) | (simp; omega))).trans (by simp [go_sem]), (f1 _ _ (by first | (simp; done) | (simp; omega))).trans (by simp [go_sem]), (f1 _ _ (by first | (simp; done) | (simp; omega))).trans (by simp [go_sem])⟩⟩; have hlt0 : w.heap.size < wd.heap.size := (by have := hbd.size; simp at this; omega); have HBD : Aside0 (Below w.heap.size w wd ∧ w.heap.size + 4 ≤ wd.heap.size) := ⟨below_step (by repeat (first | exact Below.refl _ _ | apply below_alloc)) hbd, by have := hbd.size; simp at this; omega⟩; have HM5 := Aside0.mk hm5; have HM6 := Aside0.mk hm6; clear f0 f1 hbd hm5 hm6) | (go_at_call 89; (with_reducible refine (isZero_any HM6.out (Nat.le_refl _) (by repeat (first | exact Below.refl _ _ | apply below_alloc)) HZR.out).mono ?_); rintro e wz ⟨rfl, hbz⟩; have HZ := Aside0.mk ((OV_start HBD.out.1 HBD.out.2 d0 d1 d2 (fun wx hx => (H2.out.keep hB hx).more (Nat.le_trans hB hx.size)) HOO.out.1 HOO.out.2 HM5.out HM6.out).below hbz); clear hbz))
   rename_i Q' K hK
   obtain ⟨B6, hB6⟩ : ∃ B6, wd.heap.size = B6 := ⟨_, rfl⟩
   obtain ⟨B7, hB7⟩ : ∃ B7, B6 + 1 = B7 := ⟨_, rfl⟩
   rw [hB6, hB7] at HZ
   rw [hB6, hB7]
   clear d0 d1 d2 HOO hlt0 HM5 HM6 HBD hB6 hB7
   have HSG : Aside0 (((!g) && decide (m / n ≠ 0)) = r) := ⟨by have h := HLL.out.1; rw [show (!(true == g)) = !g by cases g <;> rfl] at h; exact h⟩
   have c6 := HZ.out.b6.cell
   have c7 := HZ.out.b7.cell
   have cf := HZ.out.xf
   have cg := HZ.out.yg
   refine wp_region_held_drew (S := (fun V => V.cell? ⟨B6, 0, none⟩ = some (.slice A5 k5 k5) ∧ V.cell? ⟨B7, 0, none⟩ = some (.slice A6 k6 k6) ∧ V.cell? ⟨w.heap.size, 1, none⟩ = some (.bool true) ∧ V.cell? ⟨w.heap.size + 1, 1, none⟩ = some (.bool g))) (by kernel_rfl) ?_ (fun hHeld => ?_)
   ·exact ⟨c6, c7, cf, cg⟩
   obtain ⟨Wd, hWd⟩ : ∃ Wd, wz.drew = Wd := ⟨_, rfl⟩
   rw [hWd] at hHeld ⊢
   have HBV : Aside0 (Below wz.heap.size wz Wd) := ⟨by subst hWd; exact below_drew1 (Below.refl _ _)⟩
   clear hWd
   refine tp 0 ?_
   try simp only [PU]
   refine tp 1 ?_
   try simp only [PU]
   refine tp 2 ?_
   try simp only [PU]
   refine tp 3 ?_
   try simp only [PU]
   refine tp 4 ?_
   try simp only [PU]
   refine tp 5 ?_
   try simp only [PU]
   refine tp 7 ?_
   try simp only [PU]
   refine tc 6 fun K hK => ?_
   go_simp
   (go_at_call 139; (with_reducible refine (signed_any (HZ.out.below HBV.out).m6 (Nat.le_refl _) HSG.out).mono ?_); rintro e wq ⟨rfl, hmq, hbq⟩; have hma := Aside0.mk (hmq.more hbq.size); have HBV := Aside0.mk (bJoin hbq HBV.out))
   refine hK.out _ _ ?_ fun hHeld => ?_
   ·(first | exact ⟨keepAt HBV.out c6, keepAt HBV.out c7, keepAt HBV.out cf, keepAt HBV.out cg⟩ | exact ⟨(World.cell?_setCell_other _ _ _ _ (by first | (simp; done) | (have := HZ.out.n6; simp; omega))).trans ((World.cell?_setCell_other _ _ _ _ (by first | (simp; done) | (have := HZ.out.n6; simp; omega))).trans hHeld.1), (World.cell?_setCell_other _ _ _ _ (by first | (simp; done) | (have := HZ.out.n7; simp; omega))).trans ((World.cell?_setCell_other _ _ _ _ (by first | (simp; done) | (have := HZ.out.n7; simp; omega))).trans hHeld.2.1), (World.cell?_setCell_other _ _ _ _ (by simp)).trans ((World.cell?_setCell_other _ _ _ _ (by simp)).trans hHeld.2.2.1), (World.cell?_setCell_other _ _ _ _ (by simp)).trans ((World.cell?_setCell_other _ _ _ _ (by simp)).trans hHeld.2.2.2)⟩)
   clear hK K; try simp only [PU]
   refine tc 8 fun K hK => ?_
   go_simp
   (go_at_call 139; (with_reducible refine (signed_any (r := false) (HZ.out.below HBV.out).m7 (Nat.le_refl _) rfl).mono ?_); rintro e wr ⟨rfl, hmr, hbq⟩; have hmb := Aside0.mk (hmr.more hbq.size); have hma := Aside0.mk (hma.out.up hbq); have HBV := Aside0.mk (bJoin hbq HBV.out); have HOT := Aside0.mk (And.intro (HZ.out.below HBV.out).o2 (HZ.out.below HBV.out).o3); obtain ⟨p1, p2, p3, p4⟩ := HOT.out.1; obtain ⟨q1, q2, q3, q4⟩ := HOT.out.2)
   refine hK.out _ _ ?_ fun hHeld => ?_
   ·(first | exact ⟨keepAt HBV.out c6, keepAt HBV.out c7, keepAt HBV.out cf, keepAt HBV.out cg⟩ | exact ⟨(World.cell?_setCell_other _ _ _ _ (by first | (simp; done) | (have := HZ.out.n6; simp; omega))).trans ((World.cell?_setCell_other _ _ _ _ (by first | (simp; done) | (have := HZ.out.n6; simp; omega))).trans hHeld.1), (World.cell?_setCell_other _ _ _ _ (by first | (simp; done) | (have := HZ.out.n7; simp; omega))).trans ((World.cell?_setCell_other _ _ _ _ (by first | (simp; done) | (have := HZ.out.n7; simp; omega))).trans hHeld.2.1), (World.cell?_setCell_other _ _ _ _ (by simp)).trans ((World.cell?_setCell_other _ _ _ _ (by simp)).trans hHeld.2.2.1), (World.cell?_setCell_other _ _ _ _ (by simp)).trans ((World.cell?_setCell_other _ _ _ _ (by simp)).trans hHeld.2.2.2)⟩)
   clear hK K; try simp only [PU]
   refine tc 9 fun K hK => ?_
   go_simp
   refine hK.out _ _ ?_ fun hHeld => ?_
   ·(first | exact ⟨keepAt HBV.out c6, keepAt HBV.out c7, keepAt HBV.out cf, keepAt HBV.out cg⟩ | exact ⟨(World.cell?_setCell_other _ _ _ _ (by first | (simp; done) | (have := HZ.out.n6; simp; omega))).trans ((World.cell?_setCell_other _ _ _ _ (by first | (simp; done) | (have := HZ.out.n6; simp; omega))).trans hHeld.1), (World.cell?_setCell_other _ _ _ _ (by first | (simp; done) | (have := HZ.out.n7; simp; omega))).trans ((World.cell?_setCell_other _ _ _ _ (by first | (simp; done) | (have := HZ.out.n7; simp; omega))).trans hHeld.2.1), (World.cell?_setCell_other _ _ _ _ (by simp)).trans ((World.cell?_setCell_other _ _ _ _ (by simp)).trans hHeld.2.2.1), (World.cell?_setCell_other _ _ _ _ (by simp)).trans ((World.cell?_setCell_other _ _ _ _ (by simp)).trans hHeld.2.2.2)⟩)
   clear hK K; try simp only [PU]
   refine tc 10 fun K hK => ?_
   go_simp
   refine hK.out _ _ ?_ fun hHeld => ?_
   ·(first | exact ⟨keepAt HBV.out c6, keepAt HBV.out c7, keepAt HBV.out cf, keepAt HBV.out cg⟩ | exact ⟨(World.cell?_setCell_other _ _ _ _ (by first | (simp; done) | (have := HZ.out.n6; simp; omega))).trans ((World.cell?_setCell_other _ _ _ _ (by first | (simp; done) | (have := HZ.out.n6; simp; omega))).trans hHeld.1), (World.cell?_setCell_other _ _ _ _ (by first | (simp; done) | (have := HZ.out.n7; simp; omega))).trans ((World.cell?_setCell_other _ _ _ _ (by first | (simp; done) | (have := HZ.out.n7; simp; omega))).trans hHeld.2.1), (World.cell?_setCell_other _ _ _ _ (by simp)).trans ((World.cell?_setCell_other _ _ _ _ (by simp)).trans hHeld.2.2.1), (World.cell?_setCell_other _ _ _ _ (by simp)).trans ((World.cell?_setCell_other _ _ _ _ (by simp)).trans hHeld.2.2.2)⟩)
   clear hK K; try simp only [PU]
   refine wpAnyH_done (by kernel_rfl) ?_ _
   refine hK _ _ ?_
   go_wp2
   have ho3 : Out ((wr.setCell ⟨w.heap.size + 1 + 1, 0, none⟩ (.slice A5 k5 k5)).setCell ⟨w.heap.size + 1 + 1, 1, none⟩ (.bool r)) (w.heap.size + 1 + 1 + 1) := ⟨(World.cell?_setCell_other _ _ _ _ (by simp)).trans ((World.cell?_setCell_other _ _ _ _ (by simp)).trans q1), (World.cell?_setCell_other _ _ _ _ (by simp)).trans ((World.cell?_setCell_other _ _ _ _ (by simp)).trans q2), by rw [World.frozen?_setCell, World.frozen?_setCell]; exact q3, by rw [World.frozen?_setCell, World.frozen?_setCell]; exact q4⟩
   refine bodyPost_ret (v := .tuple #[.agg #[.slice A5 k5 k5, .bool r], .agg #[.slice A6 k6 k6, .bool false]]) (by simp [results, Tryz.results90, go_sem, p1, p2, q1, q2]) rfl ⟨A5, k5, A6, k6, rfl, ?_, ?_, ?_⟩
   ·rw [HLL.out.2.1]; exact ho3.mag2 (HOT.out.1.mag2 hma.out _ _) _ _
   ·rw [HLL.out.2.2]; exact ho3.mag2 (HOT.out.1.mag2 hmb.out _ _) _ _
   ·exact (((((HZ.out.bl.trans (HBV.out.mono HZ.out.bl.size)).setCell (by simp; omega) _).setCell (by simp; omega) _).setCell (by simp; omega) _).setCell (by simp; omega) _)
 ·have hx : x < 0 := Classical.not_not.1 (fun h => hc (.inl h))
  have hr0 : m % n ≠ 0 := fun h => hc (.inr h)
  obtain ⟨l1, l2, l3⟩ := HL.out.2.1 ⟨hx, hr0⟩
  have HLL : Aside0 ((!(f == g) && decide (m / n + 1 ≠ 0)) = r ∧ (x / y).natAbs = m / n + 1 ∧ (x % y).natAbs = n - m % n) := ⟨l1, l2, l3⟩
  have HZR : Aside0 (decide (m % n = 0) = false) := ⟨decide_eq_false hr0⟩
  obtain rfl : f = true := HF.out.2 hx
  clear l1 l2 l3 hc hx hr0
  ·go_enter Tryz.func90, Tryz.ntmps90
   go_wp2_with (first | (go_at_call 151; (with_reducible refine (div_calls ((H1.out.keep hB (by repeat (first | exact Below.refl _ _ | apply below_alloc)))) (H2.out.keep hB (by repeat (first | exact Below.refl _ _ | apply below_alloc))) (by simp; omega) hn0 hs1 hs2).mono ?_); rintro e wd ⟨A5, k5, A6, k6, rfl, hm5, hm6, hbd⟩; obtain ⟨f0, f1⟩ := bcell hbd; have d0 : wd.cell? ⟨w.heap.size, 1, none⟩ = some (.bool true) := (f0 _ _ (by first | (simp; done) | (simp; omega))).trans (by simp [go_sem]); have d1 : wd.cell? ⟨w.heap.size + 1, 1, none⟩ = some (.bool g) := (f0 _ _ (by first | (simp; done) | (simp; omega))).trans (by simp [go_sem]); have d2 : wd.cell? ⟨w.heap.size + 1, 0, none⟩ = some (.slice A2 L2 L2) := (f0 _ _ (by first | (simp; done) | (simp; omega))).trans (by simp [go_sem]); have HOO : Aside0 (Out wd (w.heap.size + 1 + 1) ∧ Out wd (w.heap.size + 1 + 1 + 1)) := ⟨⟨(f0 _ _ (by first | (simp; done) | (simp; omega))).trans (by simp [go_sem]), (f0 _ _ (by first | (simp; done) | (simp; omega))).trans (by simp [go_sem]), (f1 _ _ (by first | (simp; done) | (simp; omega))).trans (by simp [go_sem]), (f1 _ _ (by first | (simp; done) | (simp; omega))).trans (by simp [go_sem])⟩, ⟨(f0 _ _ (by first | (simp; done) | (simp; omega))).trans (by simp [go_sem]), (f0 _ _ (by first | (simp; done) | (simp; omega))).trans (by simp [go_sem]), (f1 _ _ (by first | (simp; done) | (simp; omega))).trans (by simp [go_sem]), (f1 _ _ (by first | (simp; done) | (simp; omega))).trans (by simp [go_sem])⟩⟩; have hlt0 : w.heap.size < wd.heap.size := (by have := hbd.size; simp at this; omega); have HBD : Aside0 (Below w.heap.size w wd ∧ w.heap.size + 4 ≤ wd.heap.size) := ⟨below_step (by repeat (first | exact Below.refl _ _ | apply below_alloc)) hbd, by have := hbd.size; simp at this; omega⟩; have HM5 := Aside0.mk hm5; have HM6 := Aside0.mk hm6; clear f0 f1 hbd hm5 hm6) | (go_at_call 89; (with_reducible refine (isZero_any HM6.out (Nat.le_refl _) (by repeat (first | exact Below.refl _ _ | apply below_alloc)) HZR.out).mono ?_); rintro e wz ⟨rfl, hbz⟩; have HZ := Aside0.mk ((OV_start HBD.out.1 HBD.out.2 d0 d1 d2 (fun wx hx => (H2.out.keep hB hx).more (Nat.le_trans hB hx.size)) HOO.out.1 HOO.out.2 HM5.out HM6.out).below hbz); clear hbz))
   rename_i Q' K hK
   have hk5 : k5 ≤ 90000 := by
    have h1 := dg_lt_pow BB1 m
    rw [H1.out.1] at h1
    have h2 := dg_length BB1 L1 (m / n) (Nat.lt_of_le_of_lt (Nat.div_le_self _ _) h1)
    rw [HM5.out.1] at h2
    omega
   obtain ⟨B6, hB6⟩ : ∃ B6, wd.heap.size = B6 := ⟨_, rfl⟩
   obtain ⟨B7, hB7⟩ : ∃ B7, B6 + 1 = B7 := ⟨_, rfl⟩
   rw [hB6, hB7] at HZ
   rw [hB6, hB7]
   clear d0 d1 d2 HOO hlt0 HM5 HM6 HBD hB6 hB7
   refine wp_mid (fun T0 T V => ∃ As ks A7 k7 A8 k8, T = (((((((T0.setIfInBounds 23 (.agg #[.slice A5 k5 k5])).setIfInBounds 24 (.agg #[.slice As ks ks, .bool false])).setIfInBounds 25 (.agg #[.slice As ks ks])).setIfInBounds 26 (.agg #[.slice A7 k7 k7])).setIfInBounds 27 (.pointer (some ⟨w.heap.size + 1, 0, none⟩))).setIfInBounds 28 (.agg #[.slice A2 L2 L2])).setIfInBounds 29 (.agg #[.slice A6 k6 k6])).setIfInBounds 30 (.agg #[.slice A8 k8 k8]) ∧ OV w true g A2 L2 n B6 B7 A7 k7 (m / n + 1) A8 k8 (n - m % n) V) ?_ ?_
   ·have hfd : ∀ (A : Option Addr) (k : Nat) (w : World), (Instr.field 89 (.agg #[.slice A k k, .bool false]) 0).run Tryz.prog w = .ok (.agg #[.slice A k k]) w := fun _ _ _ => by kernel_rfl
    have HO := HZ
    have cy := HO.out.ym
    have c6 := HO.out.b6.cell
    have c7 := HO.out.b7.cell
    refine wp_region_held_drew (S := (fun V => V.cell? ⟨w.heap.size + 1, 0, none⟩ = some (.slice A2 L2 L2))) (by kernel_rfl) ?_ (fun hHeld => ?_)
    ·exact cy
    obtain ⟨Wd, hWd⟩ : ∃ Wd, wz.drew = Wd := ⟨_, rfl⟩
    rw [hWd] at hHeld ⊢
    have HO : Aside0 (OV w true g A2 L2 n B6 B7 A5 k5 (m / n) A6 k6 (m % n) Wd) := ⟨by subst hWd; exact HO.out.below (below_drew1 (Below.refl _ _))⟩
    clear hWd
    (try have c6 := HO.out.b6.cell); (try have f6 := HO.out.b6.frozen); (try have c7 := HO.out.b7.cell); (try have f7 := HO.out.b7.frozen); (try have cy := HO.out.ym)
    refine tp 4 ?_
    try simp only [PU]
    refine tp 5 ?_
    try simp only [PU]
    refine wpAnyH_ready (rs := [0, 1, 6]) (by kernel_rfl) (by simp) ?_
    refine AllReadyH.cons rfl (fun K hK => ?_) (AllReadyH.cons rfl (fun K hK => ?_) (AllReadyH.cons rfl (fun K hK => ?_) (AllReadyH.nil)))
    ·go_simp
     refine hK.out _ _ ?_ fun hHeld => ?_
     ·exact HO.out.ym
     clear hK K; try simp only [PU]
     refine wpAnyH_ready (rs := [1, 6]) (by kernel_rfl) (by simp) ?_
     refine AllReadyH.cons rfl (fun K hK => ?_) (AllReadyH.cons rfl (fun K hK => ?_) (AllReadyH.nil))
     ·go_simp
      (go_at_call 94; (with_reducible refine (small_one _).mono ?_); rintro e wq ⟨As, ks, rfl, hms, hbq⟩; have hks : ks ≤ 90000 := (by have h1 := hms.1; have h2 := dg_length BB1 1 1 (by decide); omega); have hms := Aside0.mk hms; have HO := Aside0.mk (HO.out.below hbq); (try have hm8 := Aside0.mk (hm8.out.up hbq)); clear hbq; (try have c6 := HO.out.b6.cell); (try have f6 := HO.out.b6.frozen); (try have c7 := HO.out.b7.cell); (try have f7 := HO.out.b7.frozen); (try have cy := HO.out.ym))
      refine hK.out _ _ ?_ fun hHeld => ?_
      ·exact HO.out.ym
      clear hK K; try simp only [PU]
      refine tp 2 ?_
      try simp only [PU]
      refine wpAnyH_ready (rs := [3, 6]) (by kernel_rfl) (by simp) ?_
      refine AllReadyH.cons rfl (fun K hK => ?_) (AllReadyH.cons rfl (fun K hK => ?_) (AllReadyH.nil))
      ·go_simp
       (go_at_call 143; (with_reducible refine (add_calls HO.out.m6 hms.out (Nat.le_refl _) hk5 hks).mono ?_); rintro e wq ⟨A7, k7, rfl, hm7, hbq⟩; have hm7 := Aside0.mk hm7; have HO := Aside0.mk (HO.out.below hbq); clear hbq; (try have c6 := HO.out.b6.cell); (try have f6 := HO.out.b6.frozen); (try have c7 := HO.out.b7.cell); (try have f7 := HO.out.b7.frozen); (try have cy := HO.out.ym))
       refine hK.out _ _ ?_ fun hHeld => ?_
       ·exact HO.out.ym
       clear hK K; try simp only [PU]
       refine tc 6 fun K hK => ?_
       go_simp
       refine hK.out _ _ ?_ fun hHeld => ?_
       ·exact HO.out.ym
       clear hK K; try simp only [PU]
       refine tc 7 fun K hK => ?_
       go_simp
       (go_at_call 145; (with_reducible refine (less_calls HO.out.my HO.out.m7 (Nat.le_refl _) (Nat.le_of_lt (Nat.mod_lt _ hn0))).mono ?_); rintro e wq ⟨A8, k8, rfl, hm8, hbq⟩; have hm8 := Aside0.mk hm8; have hm7 := Aside0.mk (hm7.out.up hbq); have HO := Aside0.mk (HO.out.below hbq); clear hbq; (try have c6 := HO.out.b6.cell); (try have f6 := HO.out.b6.frozen); (try have c7 := HO.out.b7.cell); (try have f7 := HO.out.b7.frozen); (try have cy := HO.out.ym))
       refine hK.out _ _ ?_ fun hHeld => ?_
       ·exact HO.out.ym
       clear hK K; try simp only [PU]
       refine tc 8 fun K hK => ?_
       go_simp
       (have hm8 := Aside0.mk (hm8.out.upS HO.out.b6 (fun d => by simp) 0 (.slice A7 k7 k7)); have HO := Aside0.mk (HO.out.set6 hm7.out); obtain ⟨Y, hY, HO⟩ := opaqueZ HO; rw [hY]; rw [hY] at hm8; clear hY; (try have c6 := HO.out.b6.cell); (try have f6 := HO.out.b6.frozen); (try have c7 := HO.out.b7.cell); (try have f7 := HO.out.b7.frozen); (try have cy := HO.out.ym))
       refine hK.out _ _ ?_ fun hHeld => ?_
       ·exact HO.out.ym
       clear hK K; try simp only [PU]
       refine tc 9 fun K hK => ?_
       go_simp
       (have HO := Aside0.mk (HO.out.set7 hm8.out))
       refine hK.out _ _ ?_ fun hHeld => ?_
       ·exact HO.out.ym
       clear hK K; try simp only [PU]
       refine wpAnyH_done (by kernel_rfl) ?_ _
       dsimp only
       exact ⟨rfl, As, ks, A7, k7, A8, k8, by simp only [List.setIfInBounds_toArray, List.set_cons_zero, List.set_cons_succ], HO.out⟩
      ·go_simp
       refine hK.out _ _ ?_ fun hHeld => ?_
       ·exact HO.out.ym
       clear hK K; try simp only [PU]
       refine tc 3 fun K hK => ?_
       go_simp
       (go_at_call 143; (with_reducible refine (add_calls HO.out.m6 hms.out (Nat.le_refl _) hk5 hks).mono ?_); rintro e wq ⟨A7, k7, rfl, hm7, hbq⟩; have hm7 := Aside0.mk hm7; have HO := Aside0.mk (HO.out.below hbq); clear hbq; (try have c6 := HO.out.b6.cell); (try have f6 := HO.out.b6.frozen); (try have c7 := HO.out.b7.cell); (try have f7 := HO.out.b7.frozen); (try have cy := HO.out.ym))
       refine hK.out _ _ ?_ fun hHeld => ?_
       ·exact HO.out.ym
       clear hK K; try simp only [PU]
       refine tc 7 fun K hK => ?_
       go_simp
       (go_at_call 145; (with_reducible refine (less_calls HO.out.my HO.out.m7 (Nat.le_refl _) (Nat.le_of_lt (Nat.mod_lt _ hn0))).mono ?_); rintro e wq ⟨A8, k8, rfl, hm8, hbq⟩; have hm8 := Aside0.mk hm8; have hm7 := Aside0.mk (hm7.out.up hbq); have HO := Aside0.mk (HO.out.below hbq); clear hbq; (try have c6 := HO.out.b6.cell); (try have f6 := HO.out.b6.frozen); (try have c7 := HO.out.b7.cell); (try have f7 := HO.out.b7.frozen); (try have cy := HO.out.ym))
       refine hK.out _ _ ?_ fun hHeld => ?_
       ·exact HO.out.ym
       clear hK K; try simp only [PU]
       refine tc 8 fun K hK => ?_
       go_simp
       (have hm8 := Aside0.mk (hm8.out.upS HO.out.b6 (fun d => by simp) 0 (.slice A7 k7 k7)); have HO := Aside0.mk (HO.out.set6 hm7.out); obtain ⟨Y, hY, HO⟩ := opaqueZ HO; rw [hY]; rw [hY] at hm8; clear hY; (try have c6 := HO.out.b6.cell); (try have f6 := HO.out.b6.frozen); (try have c7 := HO.out.b7.cell); (try have f7 := HO.out.b7.frozen); (try have cy := HO.out.ym))
       refine hK.out _ _ ?_ fun hHeld => ?_
       ·exact HO.out.ym
       clear hK K; try simp only [PU]
       refine tc 9 fun K hK => ?_
       go_simp
       (have HO := Aside0.mk (HO.out.set7 hm8.out))
       refine hK.out _ _ ?_ fun hHeld => ?_
       ·exact HO.out.ym
       clear hK K; try simp only [PU]
       refine wpAnyH_done (by kernel_rfl) ?_ _
       dsimp only
       exact ⟨rfl, As, ks, A7, k7, A8, k8, by simp only [List.setIfInBounds_toArray, List.set_cons_zero, List.set_cons_succ], HO.out⟩
     ·go_simp
      refine hK.out _ _ ?_ fun hHeld => ?_
      ·exact HO.out.ym
      clear hK K; try simp only [PU]
      refine tc 1 fun K hK => ?_
      go_simp
      (go_at_call 94; (with_reducible refine (small_one _).mono ?_); rintro e wq ⟨As, ks, rfl, hms, hbq⟩; have hks : ks ≤ 90000 := (by have h1 := hms.1; have h2 := dg_length BB1 1 1 (by decide); omega); have hms := Aside0.mk hms; have HO := Aside0.mk (HO.out.below hbq); (try have hm8 := Aside0.mk (hm8.out.up hbq)); clear hbq; (try have c6 := HO.out.b6.cell); (try have f6 := HO.out.b6.frozen); (try have c7 := HO.out.b7.cell); (try have f7 := HO.out.b7.frozen); (try have cy := HO.out.ym))
      refine hK.out _ _ ?_ fun hHeld => ?_
      ·exact HO.out.ym
      clear hK K; try simp only [PU]
      refine tp 2 ?_
      try simp only [PU]
      refine tc 3 fun K hK => ?_
      go_simp
      (go_at_call 143; (with_reducible refine (add_calls HO.out.m6 hms.out (Nat.le_refl _) hk5 hks).mono ?_); rintro e wq ⟨A7, k7, rfl, hm7, hbq⟩; have hm7 := Aside0.mk hm7; have HO := Aside0.mk (HO.out.below hbq); clear hbq; (try have c6 := HO.out.b6.cell); (try have f6 := HO.out.b6.frozen); (try have c7 := HO.out.b7.cell); (try have f7 := HO.out.b7.frozen); (try have cy := HO.out.ym))
      refine hK.out _ _ ?_ fun hHeld => ?_
      ·exact HO.out.ym
      clear hK K; try simp only [PU]
      refine tc 7 fun K hK => ?_
      go_simp
      (go_at_call 145; (with_reducible refine (less_calls HO.out.my HO.out.m7 (Nat.le_refl _) (Nat.le_of_lt (Nat.mod_lt _ hn0))).mono ?_); rintro e wq ⟨A8, k8, rfl, hm8, hbq⟩; have hm8 := Aside0.mk hm8; have hm7 := Aside0.mk (hm7.out.up hbq); have HO := Aside0.mk (HO.out.below hbq); clear hbq; (try have c6 := HO.out.b6.cell); (try have f6 := HO.out.b6.frozen); (try have c7 := HO.out.b7.cell); (try have f7 := HO.out.b7.frozen); (try have cy := HO.out.ym))
      refine hK.out _ _ ?_ fun hHeld => ?_
      ·exact HO.out.ym
      clear hK K; try simp only [PU]
      refine tc 8 fun K hK => ?_
      go_simp
      (have hm8 := Aside0.mk (hm8.out.upS HO.out.b6 (fun d => by simp) 0 (.slice A7 k7 k7)); have HO := Aside0.mk (HO.out.set6 hm7.out); obtain ⟨Y, hY, HO⟩ := opaqueZ HO; rw [hY]; rw [hY] at hm8; clear hY; (try have c6 := HO.out.b6.cell); (try have f6 := HO.out.b6.frozen); (try have c7 := HO.out.b7.cell); (try have f7 := HO.out.b7.frozen); (try have cy := HO.out.ym))
      refine hK.out _ _ ?_ fun hHeld => ?_
      ·exact HO.out.ym
      clear hK K; try simp only [PU]
      refine tc 9 fun K hK => ?_
      go_simp
      (have HO := Aside0.mk (HO.out.set7 hm8.out))
      refine hK.out _ _ ?_ fun hHeld => ?_
      ·exact HO.out.ym
      clear hK K; try simp only [PU]
      refine wpAnyH_done (by kernel_rfl) ?_ _
      dsimp only
      exact ⟨rfl, As, ks, A7, k7, A8, k8, by simp only [List.setIfInBounds_toArray, List.set_cons_zero, List.set_cons_succ], HO.out⟩
    ·go_simp
     (go_at_call 94; (with_reducible refine (small_one _).mono ?_); rintro e wq ⟨As, ks, rfl, hms, hbq⟩; have hks : ks ≤ 90000 := (by have h1 := hms.1; have h2 := dg_length BB1 1 1 (by decide); omega); have hms := Aside0.mk hms; have HO := Aside0.mk (HO.out.below hbq); (try have hm8 := Aside0.mk (hm8.out.up hbq)); clear hbq; (try have c6 := HO.out.b6.cell); (try have f6 := HO.out.b6.frozen); (try have c7 := HO.out.b7.cell); (try have f7 := HO.out.b7.frozen); (try have cy := HO.out.ym))
     refine hK.out _ _ ?_ fun hHeld => ?_
     ·exact HO.out.ym
     clear hK K; try simp only [PU]
     refine tp 2 ?_
     try simp only [PU]
     refine wpAnyH_ready (rs := [0, 6]) (by kernel_rfl) (by simp) ?_
     refine AllReadyH.cons rfl (fun K hK => ?_) (AllReadyH.cons rfl (fun K hK => ?_) (AllReadyH.nil))
     ·go_simp
      refine hK.out _ _ ?_ fun hHeld => ?_
      ·exact HO.out.ym
      clear hK K; try simp only [PU]
      refine wpAnyH_ready (rs := [3, 6]) (by kernel_rfl) (by simp) ?_
      refine AllReadyH.cons rfl (fun K hK => ?_) (AllReadyH.cons rfl (fun K hK => ?_) (AllReadyH.nil))
      ·go_simp
       (go_at_call 143; (with_reducible refine (add_calls HO.out.m6 hms.out (Nat.le_refl _) hk5 hks).mono ?_); rintro e wq ⟨A7, k7, rfl, hm7, hbq⟩; have hm7 := Aside0.mk hm7; have HO := Aside0.mk (HO.out.below hbq); clear hbq; (try have c6 := HO.out.b6.cell); (try have f6 := HO.out.b6.frozen); (try have c7 := HO.out.b7.cell); (try have f7 := HO.out.b7.frozen); (try have cy := HO.out.ym))
       refine hK.out _ _ ?_ fun hHeld => ?_
       ·exact HO.out.ym
       clear hK K; try simp only [PU]
       refine tc 6 fun K hK => ?_
       go_simp
       refine hK.out _ _ ?_ fun hHeld => ?_
       ·exact HO.out.ym
       clear hK K; try simp only [PU]
       refine tc 7 fun K hK => ?_
       go_simp
       (go_at_call 145; (with_reducible refine (less_calls HO.out.my HO.out.m7 (Nat.le_refl _) (Nat.le_of_lt (Nat.mod_lt _ hn0))).mono ?_); rintro e wq ⟨A8, k8, rfl, hm8, hbq⟩; have hm8 := Aside0.mk hm8; have hm7 := Aside0.mk (hm7.out.up hbq); have HO := Aside0.mk (HO.out.below hbq); clear hbq; (try have c6 := HO.out.b6.cell); (try have f6 := HO.out.b6.frozen); (try have c7 := HO.out.b7.cell); (try have f7 := HO.out.b7.frozen); (try have cy := HO.out.ym))
       refine hK.out _ _ ?_ fun hHeld => ?_
       ·exact HO.out.ym
       clear hK K; try simp only [PU]
       refine tc 8 fun K hK => ?_
       go_simp
       (have hm8 := Aside0.mk (hm8.out.upS HO.out.b6 (fun d => by simp) 0 (.slice A7 k7 k7)); have HO := Aside0.mk (HO.out.set6 hm7.out); obtain ⟨Y, hY, HO⟩ := opaqueZ HO; rw [hY]; rw [hY] at hm8; clear hY; (try have c6 := HO.out.b6.cell); (try have f6 := HO.out.b6.frozen); (try have c7 := HO.out.b7.cell); (try have f7 := HO.out.b7.frozen); (try have cy := HO.out.ym))
       refine hK.out _ _ ?_ fun hHeld => ?_
       ·exact HO.out.ym
       clear hK K; try simp only [PU]
       refine tc 9 fun K hK => ?_
       go_simp
       (have HO := Aside0.mk (HO.out.set7 hm8.out))
       refine hK.out _ _ ?_ fun hHeld => ?_
       ·exact HO.out.ym
       clear hK K; try simp only [PU]
       refine wpAnyH_done (by kernel_rfl) ?_ _
       dsimp only
       exact ⟨rfl, As, ks, A7, k7, A8, k8, by simp only [List.setIfInBounds_toArray, List.set_cons_zero, List.set_cons_succ], HO.out⟩
      ·go_simp
       refine hK.out _ _ ?_ fun hHeld => ?_
       ·exact HO.out.ym
       clear hK K; try simp only [PU]
       refine tc 3 fun K hK => ?_
       go_simp
       (go_at_call 143; (with_reducible refine (add_calls HO.out.m6 hms.out (Nat.le_refl _) hk5 hks).mono ?_); rintro e wq ⟨A7, k7, rfl, hm7, hbq⟩; have hm7 := Aside0.mk hm7; have HO := Aside0.mk (HO.out.below hbq); clear hbq; (try have c6 := HO.out.b6.cell); (try have f6 := HO.out.b6.frozen); (try have c7 := HO.out.b7.cell); (try have f7 := HO.out.b7.frozen); (try have cy := HO.out.ym))
       refine hK.out _ _ ?_ fun hHeld => ?_
       ·exact HO.out.ym
       clear hK K; try simp only [PU]
       refine tc 7 fun K hK => ?_
       go_simp
       (go_at_call 145; (with_reducible refine (less_calls HO.out.my HO.out.m7 (Nat.le_refl _) (Nat.le_of_lt (Nat.mod_lt _ hn0))).mono ?_); rintro e wq ⟨A8, k8, rfl, hm8, hbq⟩; have hm8 := Aside0.mk hm8; have hm7 := Aside0.mk (hm7.out.up hbq); have HO := Aside0.mk (HO.out.below hbq); clear hbq; (try have c6 := HO.out.b6.cell); (try have f6 := HO.out.b6.frozen); (try have c7 := HO.out.b7.cell); (try have f7 := HO.out.b7.frozen); (try have cy := HO.out.ym))
       refine hK.out _ _ ?_ fun hHeld => ?_
       ·exact HO.out.ym
       clear hK K; try simp only [PU]
       refine tc 8 fun K hK => ?_
       go_simp
       (have hm8 := Aside0.mk (hm8.out.upS HO.out.b6 (fun d => by simp) 0 (.slice A7 k7 k7)); have HO := Aside0.mk (HO.out.set6 hm7.out); obtain ⟨Y, hY, HO⟩ := opaqueZ HO; rw [hY]; rw [hY] at hm8; clear hY; (try have c6 := HO.out.b6.cell); (try have f6 := HO.out.b6.frozen); (try have c7 := HO.out.b7.cell); (try have f7 := HO.out.b7.frozen); (try have cy := HO.out.ym))
       refine hK.out _ _ ?_ fun hHeld => ?_
       ·exact HO.out.ym
       clear hK K; try simp only [PU]
       refine tc 9 fun K hK => ?_
       go_simp
       (have HO := Aside0.mk (HO.out.set7 hm8.out))
       refine hK.out _ _ ?_ fun hHeld => ?_
       ·exact HO.out.ym
       clear hK K; try simp only [PU]
       refine wpAnyH_done (by kernel_rfl) ?_ _
       dsimp only
       exact ⟨rfl, As, ks, A7, k7, A8, k8, by simp only [List.setIfInBounds_toArray, List.set_cons_zero, List.set_cons_succ], HO.out⟩
     ·go_simp
      refine hK.out _ _ ?_ fun hHeld => ?_
      ·exact HO.out.ym
      clear hK K; try simp only [PU]
      refine tc 0 fun K hK => ?_
      go_simp
      refine hK.out _ _ ?_ fun hHeld => ?_
      ·exact HO.out.ym
      clear hK K; try simp only [PU]
      refine tc 3 fun K hK => ?_
      go_simp
      (go_at_call 143; (with_reducible refine (add_calls HO.out.m6 hms.out (Nat.le_refl _) hk5 hks).mono ?_); rintro e wq ⟨A7, k7, rfl, hm7, hbq⟩; have hm7 := Aside0.mk hm7; have HO := Aside0.mk (HO.out.below hbq); clear hbq; (try have c6 := HO.out.b6.cell); (try have f6 := HO.out.b6.frozen); (try have c7 := HO.out.b7.cell); (try have f7 := HO.out.b7.frozen); (try have cy := HO.out.ym))
      refine hK.out _ _ ?_ fun hHeld => ?_
      ·exact HO.out.ym
      clear hK K; try simp only [PU]
      refine tc 7 fun K hK => ?_
      go_simp
      (go_at_call 145; (with_reducible refine (less_calls HO.out.my HO.out.m7 (Nat.le_refl _) (Nat.le_of_lt (Nat.mod_lt _ hn0))).mono ?_); rintro e wq ⟨A8, k8, rfl, hm8, hbq⟩; have hm8 := Aside0.mk hm8; have hm7 := Aside0.mk (hm7.out.up hbq); have HO := Aside0.mk (HO.out.below hbq); clear hbq; (try have c6 := HO.out.b6.cell); (try have f6 := HO.out.b6.frozen); (try have c7 := HO.out.b7.cell); (try have f7 := HO.out.b7.frozen); (try have cy := HO.out.ym))
      refine hK.out _ _ ?_ fun hHeld => ?_
      ·exact HO.out.ym
      clear hK K; try simp only [PU]
      refine tc 8 fun K hK => ?_
      go_simp
      (have hm8 := Aside0.mk (hm8.out.upS HO.out.b6 (fun d => by simp) 0 (.slice A7 k7 k7)); have HO := Aside0.mk (HO.out.set6 hm7.out); obtain ⟨Y, hY, HO⟩ := opaqueZ HO; rw [hY]; rw [hY] at hm8; clear hY; (try have c6 := HO.out.b6.cell); (try have f6 := HO.out.b6.frozen); (try have c7 := HO.out.b7.cell); (try have f7 := HO.out.b7.frozen); (try have cy := HO.out.ym))
      refine hK.out _ _ ?_ fun hHeld => ?_
      ·exact HO.out.ym
      clear hK K; try simp only [PU]
      refine tc 9 fun K hK => ?_
      go_simp
      (have HO := Aside0.mk (HO.out.set7 hm8.out))
      refine hK.out _ _ ?_ fun hHeld => ?_
      ·exact HO.out.ym
      clear hK K; try simp only [PU]
      refine wpAnyH_done (by kernel_rfl) ?_ _
      dsimp only
      exact ⟨rfl, As, ks, A7, k7, A8, k8, by simp only [List.setIfInBounds_toArray, List.set_cons_zero, List.set_cons_succ], HO.out⟩
    ·go_simp
     refine hK.out _ _ ?_ fun hHeld => ?_
     ·exact HO.out.ym
     clear hK K; try simp only [PU]
     refine wpAnyH_ready (rs := [0, 1]) (by kernel_rfl) (by simp) ?_
     refine AllReadyH.cons rfl (fun K hK => ?_) (AllReadyH.cons rfl (fun K hK => ?_) (AllReadyH.nil))
     ·go_simp
      refine hK.out _ _ ?_ fun hHeld => ?_
      ·exact HO.out.ym
      clear hK K; try simp only [PU]
      refine tc 1 fun K hK => ?_
      go_simp
      (go_at_call 94; (with_reducible refine (small_one _).mono ?_); rintro e wq ⟨As, ks, rfl, hms, hbq⟩; have hks : ks ≤ 90000 := (by have h1 := hms.1; have h2 := dg_length BB1 1 1 (by decide); omega); have hms := Aside0.mk hms; have HO := Aside0.mk (HO.out.below hbq); (try have hm8 := Aside0.mk (hm8.out.up hbq)); clear hbq; (try have c6 := HO.out.b6.cell); (try have f6 := HO.out.b6.frozen); (try have c7 := HO.out.b7.cell); (try have f7 := HO.out.b7.frozen); (try have cy := HO.out.ym))
      refine hK.out _ _ ?_ fun hHeld => ?_
      ·exact HO.out.ym
      clear hK K; try simp only [PU]
      refine tp 2 ?_
      try simp only [PU]
      refine tc 3 fun K hK => ?_
      go_simp
      (go_at_call 143; (with_reducible refine (add_calls HO.out.m6 hms.out (Nat.le_refl _) hk5 hks).mono ?_); rintro e wq ⟨A7, k7, rfl, hm7, hbq⟩; have hm7 := Aside0.mk hm7; have HO := Aside0.mk (HO.out.below hbq); clear hbq; (try have c6 := HO.out.b6.cell); (try have f6 := HO.out.b6.frozen); (try have c7 := HO.out.b7.cell); (try have f7 := HO.out.b7.frozen); (try have cy := HO.out.ym))
      refine hK.out _ _ ?_ fun hHeld => ?_
      ·exact HO.out.ym
      clear hK K; try simp only [PU]
      refine tc 7 fun K hK => ?_
      go_simp
      (go_at_call 145; (with_reducible refine (less_calls HO.out.my HO.out.m7 (Nat.le_refl _) (Nat.le_of_lt (Nat.mod_lt _ hn0))).mono ?_); rintro e wq ⟨A8, k8, rfl, hm8, hbq⟩; have hm8 := Aside0.mk hm8; have hm7 := Aside0.mk (hm7.out.up hbq); have HO := Aside0.mk (HO.out.below hbq); clear hbq; (try have c6 := HO.out.b6.cell); (try have f6 := HO.out.b6.frozen); (try have c7 := HO.out.b7.cell); (try have f7 := HO.out.b7.frozen); (try have cy := HO.out.ym))
      refine hK.out _ _ ?_ fun hHeld => ?_
      ·exact HO.out.ym
      clear hK K; try simp only [PU]
      refine tc 8 fun K hK => ?_
      go_simp
      (have hm8 := Aside0.mk (hm8.out.upS HO.out.b6 (fun d => by simp) 0 (.slice A7 k7 k7)); have HO := Aside0.mk (HO.out.set6 hm7.out); obtain ⟨Y, hY, HO⟩ := opaqueZ HO; rw [hY]; rw [hY] at hm8; clear hY; (try have c6 := HO.out.b6.cell); (try have f6 := HO.out.b6.frozen); (try have c7 := HO.out.b7.cell); (try have f7 := HO.out.b7.frozen); (try have cy := HO.out.ym))
      refine hK.out _ _ ?_ fun hHeld => ?_
      ·exact HO.out.ym
      clear hK K; try simp only [PU]
      refine tc 9 fun K hK => ?_
      go_simp
      (have HO := Aside0.mk (HO.out.set7 hm8.out))
      refine hK.out _ _ ?_ fun hHeld => ?_
      ·exact HO.out.ym
      clear hK K; try simp only [PU]
      refine wpAnyH_done (by kernel_rfl) ?_ _
      dsimp only
      exact ⟨rfl, As, ks, A7, k7, A8, k8, by simp only [List.setIfInBounds_toArray, List.set_cons_zero, List.set_cons_succ], HO.out⟩
     ·go_simp
      (go_at_call 94; (with_reducible refine (small_one _).mono ?_); rintro e wq ⟨As, ks, rfl, hms, hbq⟩; have hks : ks ≤ 90000 := (by have h1 := hms.1; have h2 := dg_length BB1 1 1 (by decide); omega); have hms := Aside0.mk hms; have HO := Aside0.mk (HO.out.below hbq); (try have hm8 := Aside0.mk (hm8.out.up hbq)); clear hbq; (try have c6 := HO.out.b6.cell); (try have f6 := HO.out.b6.frozen); (try have c7 := HO.out.b7.cell); (try have f7 := HO.out.b7.frozen); (try have cy := HO.out.ym))
      refine hK.out _ _ ?_ fun hHeld => ?_
      ·exact HO.out.ym
      clear hK K; try simp only [PU]
      refine tp 2 ?_
      try simp only [PU]
      refine tc 0 fun K hK => ?_
      go_simp
      refine hK.out _ _ ?_ fun hHeld => ?_
      ·exact HO.out.ym
      clear hK K; try simp only [PU]
      refine tc 3 fun K hK => ?_
      go_simp
      (go_at_call 143; (with_reducible refine (add_calls HO.out.m6 hms.out (Nat.le_refl _) hk5 hks).mono ?_); rintro e wq ⟨A7, k7, rfl, hm7, hbq⟩; have hm7 := Aside0.mk hm7; have HO := Aside0.mk (HO.out.below hbq); clear hbq; (try have c6 := HO.out.b6.cell); (try have f6 := HO.out.b6.frozen); (try have c7 := HO.out.b7.cell); (try have f7 := HO.out.b7.frozen); (try have cy := HO.out.ym))
      refine hK.out _ _ ?_ fun hHeld => ?_
      ·exact HO.out.ym
      clear hK K; try simp only [PU]
      refine tc 7 fun K hK => ?_
      go_simp
      (go_at_call 145; (with_reducible refine (less_calls HO.out.my HO.out.m7 (Nat.le_refl _) (Nat.le_of_lt (Nat.mod_lt _ hn0))).mono ?_); rintro e wq ⟨A8, k8, rfl, hm8, hbq⟩; have hm8 := Aside0.mk hm8; have hm7 := Aside0.mk (hm7.out.up hbq); have HO := Aside0.mk (HO.out.below hbq); clear hbq; (try have c6 := HO.out.b6.cell); (try have f6 := HO.out.b6.frozen); (try have c7 := HO.out.b7.cell); (try have f7 := HO.out.b7.frozen); (try have cy := HO.out.ym))
      refine hK.out _ _ ?_ fun hHeld => ?_
      ·exact HO.out.ym
      clear hK K; try simp only [PU]
      refine tc 8 fun K hK => ?_
      go_simp
      (have hm8 := Aside0.mk (hm8.out.upS HO.out.b6 (fun d => by simp) 0 (.slice A7 k7 k7)); have HO := Aside0.mk (HO.out.set6 hm7.out); obtain ⟨Y, hY, HO⟩ := opaqueZ HO; rw [hY]; rw [hY] at hm8; clear hY; (try have c6 := HO.out.b6.cell); (try have f6 := HO.out.b6.frozen); (try have c7 := HO.out.b7.cell); (try have f7 := HO.out.b7.frozen); (try have cy := HO.out.ym))
      refine hK.out _ _ ?_ fun hHeld => ?_
      ·exact HO.out.ym
      clear hK K; try simp only [PU]
      refine tc 9 fun K hK => ?_
      go_simp
      (have HO := Aside0.mk (HO.out.set7 hm8.out))
      refine hK.out _ _ ?_ fun hHeld => ?_
      ·exact HO.out.ym
      clear hK K; try simp only [PU]
      refine wpAnyH_done (by kernel_rfl) ?_ _
      dsimp only
      exact ⟨rfl, As, ks, A7, k7, A8, k8, by simp only [List.setIfInBounds_toArray, List.set_cons_zero, List.set_cons_succ], HO.out⟩
   intro T V hM
   dsimp only at hM ⊢
   obtain ⟨As, ks, A7, k7, A8, k8, hT, hov⟩ := hM
   simp only [List.setIfInBounds_toArray, List.set_cons_zero, List.set_cons_succ] at hT
   subst hT
   have HZ := Aside0.mk hov
   clear hov
   refine hK _ _ ?_
   clear hK
   go_wp2
   rename_i K2 hK2
   have HSG : Aside0 (((!g) && decide (m / n + 1 ≠ 0)) = r) := ⟨by have h := HLL.out.1; rw [show (!(true == g)) = !g by cases g <;> rfl] at h; exact h⟩
   have c6 := HZ.out.b6.cell
   have c7 := HZ.out.b7.cell
   have cf := HZ.out.xf
   have cg := HZ.out.yg
   refine wp_region_held_drew (S := (fun V => V.cell? ⟨B6, 0, none⟩ = some (.slice A7 k7 k7) ∧ V.cell? ⟨B7, 0, none⟩ = some (.slice A8 k8 k8) ∧ V.cell? ⟨w.heap.size, 1, none⟩ = some (.bool true) ∧ V.cell? ⟨w.heap.size + 1, 1, none⟩ = some (.bool g))) (by kernel_rfl) ?_ (fun hHeld => ?_)
   ·exact ⟨c6, c7, cf, cg⟩
   obtain ⟨Wd, hWd⟩ : ∃ Wd, V.drew = Wd := ⟨_, rfl⟩
   rw [hWd] at hHeld ⊢
   have HBV : Aside0 (Below V.heap.size V Wd) := ⟨by subst hWd; exact below_drew1 (Below.refl _ _)⟩
   clear hWd
   refine tp 0 ?_
   try simp only [PU]
   refine tp 1 ?_
   try simp only [PU]
   refine tp 2 ?_
   try simp only [PU]
   refine tp 3 ?_
   try simp only [PU]
   refine tp 4 ?_
   try simp only [PU]
   refine tp 5 ?_
   try simp only [PU]
   refine tp 7 ?_
   try simp only [PU]
   refine tc 6 fun K hK => ?_
   go_simp
   (go_at_call 139; (with_reducible refine (signed_any (HZ.out.below HBV.out).m6 (Nat.le_refl _) HSG.out).mono ?_); rintro e wq ⟨rfl, hmq, hbq⟩; have hma := Aside0.mk (hmq.more hbq.size); have HBV := Aside0.mk (bJoin hbq HBV.out))
   refine hK.out _ _ ?_ fun hHeld => ?_
   ·(first | exact ⟨keepAt HBV.out c6, keepAt HBV.out c7, keepAt HBV.out cf, keepAt HBV.out cg⟩ | exact ⟨(World.cell?_setCell_other _ _ _ _ (by first | (simp; done) | (have := HZ.out.n6; simp; omega))).trans ((World.cell?_setCell_other _ _ _ _ (by first | (simp; done) | (have := HZ.out.n6; simp; omega))).trans hHeld.1), (World.cell?_setCell_other _ _ _ _ (by first | (simp; done) | (have := HZ.out.n7; simp; omega))).trans ((World.cell?_setCell_other _ _ _ _ (by first | (simp; done) | (have := HZ.out.n7; simp; omega))).trans hHeld.2.1), (World.cell?_setCell_other _ _ _ _ (by simp)).trans ((World.cell?_setCell_other _ _ _ _ (by simp)).trans hHeld.2.2.1), (World.cell?_setCell_other _ _ _ _ (by simp)).trans ((World.cell?_setCell_other _ _ _ _ (by simp)).trans hHeld.2.2.2)⟩)
   clear hK K; try simp only [PU]
   refine tc 8 fun K hK => ?_
   go_simp
   (go_at_call 139; (with_reducible refine (signed_any (r := false) (HZ.out.below HBV.out).m7 (Nat.le_refl _) rfl).mono ?_); rintro e wr ⟨rfl, hmr, hbq⟩; have hmb := Aside0.mk (hmr.more hbq.size); have hma := Aside0.mk (hma.out.up hbq); have HBV := Aside0.mk (bJoin hbq HBV.out); have HOT := Aside0.mk (And.intro (HZ.out.below HBV.out).o2 (HZ.out.below HBV.out).o3); obtain ⟨p1, p2, p3, p4⟩ := HOT.out.1; obtain ⟨q1, q2, q3, q4⟩ := HOT.out.2)
   refine hK.out _ _ ?_ fun hHeld => ?_
   ·(first | exact ⟨keepAt HBV.out c6, keepAt HBV.out c7, keepAt HBV.out cf, keepAt HBV.out cg⟩ | exact ⟨(World.cell?_setCell_other _ _ _ _ (by first | (simp; done) | (have := HZ.out.n6; simp; omega))).trans ((World.cell?_setCell_other _ _ _ _ (by first | (simp; done) | (have := HZ.out.n6; simp; omega))).trans hHeld.1), (World.cell?_setCell_other _ _ _ _ (by first | (simp; done) | (have := HZ.out.n7; simp; omega))).trans ((World.cell?_setCell_other _ _ _ _ (by first | (simp; done) | (have := HZ.out.n7; simp; omega))).trans hHeld.2.1), (World.cell?_setCell_other _ _ _ _ (by simp)).trans ((World.cell?_setCell_other _ _ _ _ (by simp)).trans hHeld.2.2.1), (World.cell?_setCell_other _ _ _ _ (by simp)).trans ((World.cell?_setCell_other _ _ _ _ (by simp)).trans hHeld.2.2.2)⟩)
   clear hK K; try simp only [PU]
   refine tc 9 fun K hK => ?_
   go_simp
   refine hK.out _ _ ?_ fun hHeld => ?_
   ·(first | exact ⟨keepAt HBV.out c6, keepAt HBV.out c7, keepAt HBV.out cf, keepAt HBV.out cg⟩ | exact ⟨(World.cell?_setCell_other _ _ _ _ (by first | (simp; done) | (have := HZ.out.n6; simp; omega))).trans ((World.cell?_setCell_other _ _ _ _ (by first | (simp; done) | (have := HZ.out.n6; simp; omega))).trans hHeld.1), (World.cell?_setCell_other _ _ _ _ (by first | (simp; done) | (have := HZ.out.n7; simp; omega))).trans ((World.cell?_setCell_other _ _ _ _ (by first | (simp; done) | (have := HZ.out.n7; simp; omega))).trans hHeld.2.1), (World.cell?_setCell_other _ _ _ _ (by simp)).trans ((World.cell?_setCell_other _ _ _ _ (by simp)).trans hHeld.2.2.1), (World.cell?_setCell_other _ _ _ _ (by simp)).trans ((World.cell?_setCell_other _ _ _ _ (by simp)).trans hHeld.2.2.2)⟩)
   clear hK K; try simp only [PU]
   refine tc 10 fun K hK => ?_
   go_simp
   refine hK.out _ _ ?_ fun hHeld => ?_
   ·(first | exact ⟨keepAt HBV.out c6, keepAt HBV.out c7, keepAt HBV.out cf, keepAt HBV.out cg⟩ | exact ⟨(World.cell?_setCell_other _ _ _ _ (by first | (simp; done) | (have := HZ.out.n6; simp; omega))).trans ((World.cell?_setCell_other _ _ _ _ (by first | (simp; done) | (have := HZ.out.n6; simp; omega))).trans hHeld.1), (World.cell?_setCell_other _ _ _ _ (by first | (simp; done) | (have := HZ.out.n7; simp; omega))).trans ((World.cell?_setCell_other _ _ _ _ (by first | (simp; done) | (have := HZ.out.n7; simp; omega))).trans hHeld.2.1), (World.cell?_setCell_other _ _ _ _ (by simp)).trans ((World.cell?_setCell_other _ _ _ _ (by simp)).trans hHeld.2.2.1), (World.cell?_setCell_other _ _ _ _ (by simp)).trans ((World.cell?_setCell_other _ _ _ _ (by simp)).trans hHeld.2.2.2)⟩)
   clear hK K; try simp only [PU]
   refine wpAnyH_done (by kernel_rfl) ?_ _
   refine hK2 _ _ ?_
   go_wp2
   have ho3 : Out ((wr.setCell ⟨w.heap.size + 1 + 1, 0, none⟩ (.slice A7 k7 k7)).setCell ⟨w.heap.size + 1 + 1, 1, none⟩ (.bool r)) (w.heap.size + 1 + 1 + 1) := ⟨(World.cell?_setCell_other _ _ _ _ (by simp)).trans ((World.cell?_setCell_other _ _ _ _ (by simp)).trans q1), (World.cell?_setCell_other _ _ _ _ (by simp)).trans ((World.cell?_setCell_other _ _ _ _ (by simp)).trans q2), by rw [World.frozen?_setCell, World.frozen?_setCell]; exact q3, by rw [World.frozen?_setCell, World.frozen?_setCell]; exact q4⟩
   refine bodyPost_ret (v := .tuple #[.agg #[.slice A7 k7 k7, .bool r], .agg #[.slice A8 k8 k8, .bool false]]) (by simp [results, Tryz.results90, go_sem, p1, p2, q1, q2]) rfl ⟨A7, k7, A8, k8, rfl, ?_, ?_, ?_⟩
   ·rw [HLL.out.2.1]; exact ho3.mag2 (HOT.out.1.mag2 hma.out _ _) _ _
   ·rw [HLL.out.2.2]; exact ho3.mag2 (HOT.out.1.mag2 hmb.out _ _) _ _
   ·exact (((((HZ.out.bl.trans (HBV.out.mono HZ.out.bl.size)).setCell (by simp; omega) _).setCell (by simp; omega) _).setCell (by simp; omega) _).setCell (by simp; omega) _)
end
section
open Go.Proofs.YtillgofjlpjbcaaGreatDoorW.PrintLast Go.Proofs.YtillgofjlpjbcaaGreatDoorW.PrintMore Go.Proofs.YtillgofjlpjbcaaGreatDoorW.PrintWords Go.RowKit
theorem iorder_calls {w : World} {B : Nat} {A1 A2 : Option Addr} {L1 L2 : Nat} {x y : Int} (h1 : Mag w B A1 L1 x.natAbs) (h2 : Mag w B A2 L2 y.natAbs) (hB : B ≤ w.heap.size) :
 Calls Tryz.prog 93 #[iV A1 L1 x, iV A2 L2 y] w fun e w' => e = .returned (.int .i64 (cmpI x y)) ∧ Below w.heap.size w w' := by
 unfold iV
 have H1 : Aside0 (Mag w B A1 L1 x.natAbs) := ⟨h1⟩
 have H2 : Aside0 (Mag w B A2 L2 y.natAbs) := ⟨h2⟩
 clear h1 h2
 by_cases hx : x < 0 <;> by_cases hy : y < 0
 ·have HV : Aside0 (cmpI (y.natAbs : Int) x.natAbs = cmpI x y) := ⟨by unfold cmpI; split <;> split <;> first | rfl | omega | (split <;> first | rfl | omega) | (split <;> split <;> first | rfl | omega)⟩
  rw [decide_eq_true hx, decide_eq_true hy]
  clear hx hy
  go_enter Tryz.func93, Tryz.ntmps93
  go_wp2_with (go_at_call 144; (with_reducible refine (order_any H2.out H1.out hB (by repeat (first | exact Below.refl _ _ | apply below_alloc)) HV.out).mono ?_); rintro e wr ⟨rfl, hbr⟩)
  go_ret
  exact ⟨rfl, below_step (by repeat (first | exact Below.refl _ _ | apply below_alloc)) hbr⟩
 ·have HV : Aside0 (cmpI x y = -1) := ⟨by unfold cmpI; rw [if_pos (by omega)]⟩
  rw [decide_eq_true hx, decide_eq_false hy, HV.out]
  clear hx hy
  go_enter Tryz.func93, Tryz.ntmps93
  go_wp2
  go_ret
  exact ⟨rfl, by repeat (first | exact Below.refl _ _ | apply below_alloc)⟩
 ·have HV : Aside0 (cmpI x y = 1) := ⟨by unfold cmpI; rw [if_neg (by omega), if_pos (by omega)]⟩
  rw [decide_eq_false hx, decide_eq_true hy, HV.out]
  clear hx hy
  go_enter Tryz.func93, Tryz.ntmps93
  go_wp2
  go_ret
  exact ⟨rfl, by repeat (first | exact Below.refl _ _ | apply below_alloc)⟩
 ·have HV : Aside0 (cmpI (x.natAbs : Int) y.natAbs = cmpI x y) := ⟨by unfold cmpI; split <;> split <;> first | rfl | omega | (split <;> first | rfl | omega) | (split <;> split <;> first | rfl | omega)⟩
  rw [decide_eq_false hx, decide_eq_false hy]
  clear hx hy
  go_enter Tryz.func93, Tryz.ntmps93
  go_wp2_with (go_at_call 144; (with_reducible refine (order_any H1.out H2.out hB (by repeat (first | exact Below.refl _ _ | apply below_alloc)) HV.out).mono ?_); rintro e wr ⟨rfl, hbr⟩)
  go_ret
  exact ⟨rfl, below_step (by repeat (first | exact Below.refl _ _ | apply below_alloc)) hbr⟩
end
section
open Go.Lib Go.Proofs.YtillgofjlpjbcaaGreatDoorW.PrintLast Go.Proofs.YtillgofjlpjbcaaGreatDoorW.PrintMore Go.Proofs.YtillgofjlpjbcaaGreatDoorW.PrintWords Go.RowKit Go.Shelf
/-- What Neg answers. -/
def negS (s : ByteArray) : ByteArray := if checkI s = 0 then strI (-(intI s)) else ⟨#[]⟩
theorem negN_calls (s : ByteArray) (hs : s.size ≤ 90000) (w : World) (htab : Tens w) :
 Calls Tryz.prog 18 #[.string s] w fun e w' => e = .returned (.tuple #[.string (negS s), .int .i64 (checkI s)]) ∧ Below w.heap.size w w' := by
 have HC := Aside0.mk (fun w => check_calls s (by omega) w)
 have HB := Aside0.mk (Below.refl w.heap.size w)
 unfold negS
 by_cases hc : checkI s = 0
 ·have hP := parseI_calls s hs hc
  have HN : ∀ (W : World) (A : Option Addr) (L : Nat), Mag W W.heap.size A L (intI s).natAbs → Calls Tryz.prog 75 #[iV A L (intI s)] W fun e w' => e = .returned (iV A L (-(intI s))) ∧ Mag w' W.heap.size A L (-(intI s)).natAbs ∧ Below W.heap.size W w' := fun W A L hm => negative_calls hm (Nat.le_refl _)
  have HT : ∀ (W : World) (A : Option Addr) (L : Nat), Below w.heap.size w W → Mag W W.heap.size A L (-(intI s)).natAbs → Calls Tryz.prog 76 #[iV A L (-(intI s))] W fun e w' => e = .returned (.string (strI (-(intI s)))) ∧ Below W.heap.size W w' := fun W A L hb hm => text_calls hm (Nat.le_refl _) (htab.below hb)
  rw [if_pos hc]
  rw [hc] at HC ⊢
  unfold iV at *
  generalize strI (-(intI s)) = S at *
  generalize decide (-(intI s) < 0) = g at *
  generalize (-(intI s)).natAbs = m at *
  generalize decide (intI s < 0) = f at *
  generalize (intI s).natAbs = n at *
  have HP := Aside0.mk hP
  have HN := Aside0.mk HN
  have HT := Aside0.mk HT
  clear hc hP
  go_enter Tryz.func18, Tryz.ntmps18
  go_wp2_with (first
   | (go_at_call 12; ((with_reducible refine (HC.out _).mono ?_); rintro e w1 ⟨rfl, hb1⟩; obtain ⟨hc1, hf1⟩ := bcell hb1; have nB1 : Aside0 (Below w.heap.size w w1) := sb hb1; clear HB; have HB := nB1; clear nB1))
   | (go_at_call 74; ((with_reducible refine (HP.out _).mono ?_); rintro e w2 ⟨A, k, rfl, hm, hb2⟩; obtain ⟨hc2, hf2⟩ := bcell hb2; have nB2 : Aside0 (Below w.heap.size w w2) := sb hb2; clear HB; have HB := nB2; clear nB2; have HM := Aside0.mk hm; clear hm))
   | (go_at_call 75; ((with_reducible refine (HN.out _ _ _ HM.out).mono ?_); rintro e w3 ⟨rfl, hm, hb3⟩; obtain ⟨hc3, hf3⟩ := bcell hb3; have nB3 : Aside0 (Below w.heap.size w w3) := sb hb3; clear HB; have HB := nB3; clear nB3; have HM3 := Aside0.mk (hm.more hb3.size); clear hm))
   | (go_at_call 76; ((with_reducible refine (HT.out _ _ _ bl HM3.out).mono ?_); rintro e w4 ⟨rfl, hb4⟩; obtain ⟨hc4, hf4⟩ := bcell hb4; have nB4 : Aside0 (Below w.heap.size w w4) := sb hb4; clear HB; have HB := nB4; clear nB4)))
  go_ret2
  exact ⟨rfl, bl⟩
 ·rw [if_neg hc]
  generalize checkI s = E at *
  have hbe : (E != 0) = true := by simp [hc]
  go_enter Tryz.func18, Tryz.ntmps18
  go_wp2_with (first | (go_at_call 12; ((with_reducible refine (HC.out _).mono ?_); rintro e w1 ⟨rfl, hb1⟩; obtain ⟨hc1, hf1⟩ := bcell hb1; have nB1 : Aside0 (Below w.heap.size w w1) := sb hb1; clear HB; have HB := nB1; clear nB1)))
  go_ret2
  exact ⟨rfl, bl⟩
/-- What Compare answers. -/
def cmpN (a b : ByteArray) : Int := if biE a b = 0 then cmpI (intI a) (intI b) else 0
theorem compareN_calls (a b : ByteArray) (ha : a.size ≤ 90000) (hb : b.size ≤ 90000) (w : World) :
 Calls Tryz.prog 29 #[.string a, .string b] w fun e w' => e = .returned (.tuple #[.int .i64 (cmpN a b), .int .i64 (biE a b)]) ∧ Below w.heap.size w w' := by
 have HB := Aside0.mk (Below.refl w.heap.size w)
 unfold cmpN
 by_cases h : biE a b = 0
 ·obtain ⟨hca, hcb⟩ := biE_zero h
  rw [if_pos h, h]
  have hR := read_ok a b ha hb hca hcb
  have HO : ∀ (W : World) (A1 A2 : Option Addr) (L1 L2 : Nat), Mag W W.heap.size A1 L1 (intI a).natAbs → Mag W W.heap.size A2 L2 (intI b).natAbs → Calls Tryz.prog 93 #[iV A1 L1 (intI a), iV A2 L2 (intI b)] W fun e w' => e = .returned (.int .i64 (cmpI (intI a) (intI b))) ∧ Below W.heap.size W w' := fun W A1 A2 L1 L2 h1 h2 => iorder_calls h1 h2 (Nat.le_refl _)
  unfold iV at *
  generalize cmpI (intI a) (intI b) = R at *
  generalize decide (intI a < 0) = na at *
  generalize (intI a).natAbs = ma at *
  generalize decide (intI b < 0) = nb at *
  generalize (intI b).natAbs = mb at *
  have HR := Aside0.mk hR
  have HO := Aside0.mk HO
  clear h hca hcb hR
  go_enter Tryz.func29, Tryz.ntmps29
  go_wp2_with (first
   | (go_at_call 87; ((with_reducible refine (HR.out _).mono ?_); rintro e w1 ⟨A1, k1, A2, k2, rfl, hm1, hm2, hb1⟩; obtain ⟨hc1, hf1⟩ := bcell hb1; have nB1 : Aside0 (Below w.heap.size w w1) := sb hb1; clear HB; have HB := nB1; clear nB1; have HM1 := Aside0.mk hm1; clear hm1; have HM2 := Aside0.mk hm2; clear hm2))
   | (go_at_call 93; ((with_reducible refine (HO.out _ _ _ _ _ ((HM1.out.keep (Nat.le_refl _) (by repeat (first | exact Below.refl _ _ | apply below_alloc))).more (by first | (simp; done) | (simp; omega) | omega)) ((HM2.out.keep (Nat.le_refl _) (by repeat (first | exact Below.refl _ _ | apply below_alloc))).more (by first | (simp; done) | (simp; omega) | omega))).mono ?_); rintro e w2 ⟨rfl, hb2⟩; obtain ⟨hc2, hf2⟩ := bcell hb2; have nB2 : Aside0 (Below w.heap.size w w2) := sb hb2; clear HB; have HB := nB2; clear nB2)))
  go_ret2
  exact ⟨rfl, bl⟩
 ·rw [if_neg h]
  have HR : Aside0 (∀ w, Calls Tryz.prog 87 #[.string a, .string b] w fun e w' => e = .returned (.tuple #[.agg #[.slice none 0 0, .bool false], .agg #[.slice none 0 0, .bool false], .int .i64 (biE a b)]) ∧ Below w.heap.size w w') := ⟨read_bad a b ha hb rfl h⟩
  generalize biE a b = E at *
  have hbe : (E != 0) = true := by simp [h]
  go_enter Tryz.func29, Tryz.ntmps29
  go_wp2_with (first | (go_at_call 87; ((with_reducible refine (HR.out _).mono ?_); rintro e w1 ⟨rfl, hb1⟩; obtain ⟨hc1, hf1⟩ := bcell hb1; have nB1 : Aside0 (Below w.heap.size w w1) := sb hb1; clear HB; have HB := nB1; clear nB1)))
  go_ret2
  exact ⟨rfl, bl⟩
theorem wr_dig {x : Int} (h : Dig 120 x) : wrE x = 0 ∧ wrS x = strI x := by
 have h1 : lenI x ≤ 120 := dec_len 120 _ (by omega) h
 unfold wrE wrS
 rw [if_neg (by omega), if_neg (by omega)]
 exact ⟨rfl, rfl⟩
theorem dig_wr {x : Int} (h : wrE x = 0) : Dig 120 x := by
 unfold wrE at h
 split at h
 ·omega
 ·rename_i h1
  have h2 := dv_lt _ (dec_digits x.natAbs)
  rw [dv_dec] at h2
  exact Nat.lt_of_lt_of_le h2 (Nat.pow_le_pow_right (by decide) (by unfold lenI at h1; omega))
theorem Dig.ediv {j : Nat} {x y : Int} (hx : Dig j x) : Dig j (x / y) := by
 unfold Dig at *
 exact Nat.lt_of_le_of_lt (Int.natAbs_ediv_le_natAbs x y) hx
/-- The error of a division. -/
def divE (a b : ByteArray) : Int := if biE a b = 0 then (if intI b = 0 then 30 else 0) else biE a b
def dmS (of : Int → Int → Int) (a b : ByteArray) : ByteArray := if divE a b = 0 then strI (of (intI a) (intI b)) else ⟨#[]⟩
theorem first2_ret (x y z : Int) (hz : firstI [x, y] = z) (w : World) (b : Nat) (hb : b = w.heap.size) (t : TypeId) : Calls Tryz.prog 88 #[.slice (some ⟨b, 0, none⟩) 2 2] (w.alloc (.cells #[.int .i64 x, .int .i64 y] t)) fun e w' => e = .returned (.int .i64 z) ∧ w' = w.alloc (.cells #[.int .i64 x, .int .i64 y] t) := by
 subst hz; exact first2_calls x y w b hb t
theorem F30 : Aside0 (firstI [0, 30] = 30) := ⟨rfl⟩
theorem F00 : Aside0 (firstI [0, 0] = 0) := ⟨rfl⟩
theorem divMod_calls (a b : ByteArray) (ha : a.size ≤ 90000) (hb : b.size ≤ 90000) (w : World) (htab : Tens w) :
 Calls Tryz.prog 27 #[.string a, .string b] w fun e w' => e = .returned (.tuple #[.string (dmS (fun x y => x / y) a b), .string (dmS (fun x y => x % y) a b), .int .i64 (divE a b)]) ∧ Below w.heap.size w w' := by
 have HB := Aside0.mk (Below.refl w.heap.size w)
 by_cases h : biE a b = 0
 ·obtain ⟨hca, hcb⟩ := biE_zero h
  have hR := read_ok a b ha hb hca hcb
  by_cases hy : intI b = 0
  ·have e : divE a b = 30 := by unfold divE; rw [if_pos h, if_pos hy]
   unfold dmS
   rw [e, if_neg (by omega), if_neg (by omega)]
   have HZ : ∀ (W : World) (A : Option Addr) (L : Nat), Mag W W.heap.size A L (intI b).natAbs → Calls Tryz.prog 89 #[.agg #[.slice A L L]] W fun e w' => e = .returned (.bool true) ∧ Below W.heap.size W w' := fun W A L hm => isZero_any hm (Nat.le_refl _) (Below.refl _ _) (decide_eq_true (by omega))
   unfold iV at *
   generalize decide (intI a < 0) = na at *
   generalize (intI a).natAbs = ma at *
   generalize decide (intI b < 0) = nb at *
   generalize (intI b).natAbs = mb at *
   have HR := Aside0.mk hR
   have HZ := Aside0.mk HZ
   clear h hca hcb hR hy e
   go_enter Tryz.func27, Tryz.ntmps27
   go_wp2_with (first
    | (go_at_call 87; ((with_reducible refine (HR.out _).mono ?_); rintro e w1 ⟨A1, k1, A2, k2, rfl, hm1, hm2, hb1⟩; obtain ⟨hc1, hf1⟩ := bcell hb1; have nB1 : Aside0 (Below w.heap.size w w1) := sb hb1; clear HB; have HB := nB1; clear nB1; have HM1 := Aside0.mk hm1; clear hm1; have HM2 := Aside0.mk hm2; clear hm2))
    | (go_at_call 89; ((with_reducible refine (HZ.out _ _ _ ((HM2.out.keep (Nat.le_refl _) (by repeat (first | exact Below.refl _ _ | apply below_alloc))).more (by first | (simp; done) | (simp; omega) | omega))).mono ?_); rintro e w2 ⟨rfl, hb2⟩; obtain ⟨hc2, hf2⟩ := bcell hb2; have nB2 : Aside0 (Below w.heap.size w w2) := sb hb2; clear HB; have HB := nB2; clear nB2))
    | (go_at_call 65; (with_reducible refine (when_calls _ _ _).mono ?_); rintro e w' ⟨rfl, rfl⟩)
    | (go_at_call 88; (with_reducible refine (first2_ret _ _ 30 F30.out _ _ (by simp) _).mono ?_); rintro e w' ⟨rfl, rfl⟩))
   go_ret3
   exact ⟨rfl, bl⟩
  ·have e : divE a b = 0 := by unfold divE; rw [if_pos h, if_neg hy]
   unfold dmS
   rw [e, if_pos rfl, if_pos rfl]
   have HZ : ∀ (W : World) (A : Option Addr) (L : Nat), Mag W W.heap.size A L (intI b).natAbs → Calls Tryz.prog 89 #[.agg #[.slice A L L]] W fun e w' => e = .returned (.bool false) ∧ Below W.heap.size W w' := fun W A L hm => isZero_any hm (Nat.le_refl _) (Below.refl _ _) (decide_eq_false (by omega))
   have HO : ∀ (W : World) (A1 A2 : Option Addr) (L1 L2 : Nat), Mag W W.heap.size A1 L1 (intI a).natAbs → Mag W W.heap.size A2 L2 (intI b).natAbs → Calls Tryz.prog 90 #[iV A1 L1 (intI a), iV A2 L2 (intI b)] W fun e w' => ∃ A k A' k', e = .returned (.tuple #[iV A k (intI a / intI b), iV A' k' (intI a % intI b)]) ∧ Mag w' w'.heap.size A k (intI a / intI b).natAbs ∧ Mag w' w'.heap.size A' k' (intI a % intI b).natAbs ∧ Below W.heap.size W w' :=
    fun W A1 A2 L1 L2 h1 h2 => over_calls h1 h2 (Nat.le_refl _) hy (by have := (intI_dig hca).len h1 14 (by omega); omega) (by have := (intI_dig hcb).len h2 14 (by omega); omega)
   have HW : ∀ (W : World) (A : Option Addr) (L : Nat), Below w.heap.size w W → Mag W W.heap.size A L (intI a / intI b).natAbs → Calls Tryz.prog 91 #[iV A L (intI a / intI b)] W fun e w' => e = .returned (.tuple #[.string (strI (intI a / intI b)), .int .i64 0]) ∧ Below W.heap.size W w' := fun W A L hb hm => by
    have h1 := wr_dig (Dig.ediv (y := intI b) (intI_dig hca))
    have h2 := written_calls hm (Nat.le_refl _) (htab.below hb)
    rw [h1.1, h1.2] at h2
    exact h2
   have HT : ∀ (W : World) (A : Option Addr) (L : Nat), Below w.heap.size w W → Mag W W.heap.size A L (intI a % intI b).natAbs → Calls Tryz.prog 76 #[iV A L (intI a % intI b)] W fun e w' => e = .returned (.string (strI (intI a % intI b))) ∧ Below W.heap.size W w' := fun W A L hb hm => text_calls hm (Nat.le_refl _) (htab.below hb)
   unfold iV at *
   generalize strI (intI a / intI b) = SQ at *
   generalize strI (intI a % intI b) = SR at *
   generalize decide (intI a / intI b < 0) = nq at *
   generalize (intI a / intI b).natAbs = mq at *
   generalize decide (intI a % intI b < 0) = nr at *
   generalize (intI a % intI b).natAbs = mr at *
   generalize decide (intI a < 0) = na at *
   generalize (intI a).natAbs = ma at *
   generalize decide (intI b < 0) = nb at *
   generalize (intI b).natAbs = mb at *
   have HR := Aside0.mk hR
   have HZ := Aside0.mk HZ
   have HO := Aside0.mk HO
   have HW := Aside0.mk HW
   have HT := Aside0.mk HT
   clear h hca hcb hR hy e
   go_enter Tryz.func27, Tryz.ntmps27
   go_wp2_with (first
    | (go_at_call 87; ((with_reducible refine (HR.out _).mono ?_); rintro e w1 ⟨A1, k1, A2, k2, rfl, hm1, hm2, hb1⟩; obtain ⟨hc1, hf1⟩ := bcell hb1; have nB1 : Aside0 (Below w.heap.size w w1) := sb hb1; clear HB; have HB := nB1; clear nB1; have HM1 := Aside0.mk hm1; clear hm1; have HM2 := Aside0.mk hm2; clear hm2))
    | (go_at_call 89; ((with_reducible refine (HZ.out _ _ _ ((HM2.out.keep (Nat.le_refl _) (by repeat (first | exact Below.refl _ _ | apply below_alloc))).more (by first | (simp; done) | (simp; omega) | omega))).mono ?_); rintro e w2 ⟨rfl, hb2⟩; obtain ⟨hc2, hf2⟩ := bcell hb2; have z2_0 : (w1.heap.size) < w2.heap.size := zb hb2; have z2_1 : (w1.heap.size + 1) < w2.heap.size := zb hb2; have nB2 : Aside0 (Below w.heap.size w w2) := sb hb2; clear HB; have HB := nB2; clear nB2; have HM1 := Aside0.mk ((((HM1.out.keep (Nat.le_refl _) (by repeat (first | exact Below.refl _ _ | apply below_alloc))).more (by first | (simp; done) | (simp; omega) | omega))).up hb2); have HM2 := Aside0.mk ((((HM2.out.keep (Nat.le_refl _) (by repeat (first | exact Below.refl _ _ | apply below_alloc))).more (by first | (simp; done) | (simp; omega) | omega))).up hb2)))
    | (go_at_call 65; (with_reducible refine (when_calls _ _ _).mono ?_); rintro e w' ⟨rfl, rfl⟩)
    | (go_at_call 88; (with_reducible refine (first2_ret _ _ 0 F00.out _ _ (by simp) _).mono ?_); rintro e w' ⟨rfl, rfl⟩)
    | (go_at_call 90; ((with_reducible refine (HO.out _ _ _ _ _ ((HM1.out.keep (Nat.le_refl _) (by repeat (first | exact Below.refl _ _ | apply below_alloc))).more (by first | (simp; done) | (simp; omega) | omega)) ((HM2.out.keep (Nat.le_refl _) (by repeat (first | exact Below.refl _ _ | apply below_alloc))).more (by first | (simp; done) | (simp; omega) | omega))).mono ?_); rintro e w3 ⟨A3, k3, A4, k4, rfl, hm3, hm4, hb3⟩; obtain ⟨hc3, hf3⟩ := bcell hb3; have nB3 : Aside0 (Below w.heap.size w w3) := sb hb3; clear HB; have HB := nB3; clear nB3; have HM3 := Aside0.mk hm3; clear hm3; have HM4 := Aside0.mk hm4; clear hm4))
    | (go_at_call 91; ((with_reducible refine (HW.out _ _ _ bl ((HM3.out.keep (Nat.le_refl _) (by repeat (first | exact Below.refl _ _ | apply below_alloc))).more (by first | (simp; done) | (simp; omega) | omega))).mono ?_); rintro e w5 ⟨rfl, hb5⟩; obtain ⟨hc5, hf5⟩ := bcell hb5; have z5_0 : (w3.heap.size) < w5.heap.size := zb hb5; have z5_1 : (w3.heap.size + 1) < w5.heap.size := zb hb5; have nB5 : Aside0 (Below w.heap.size w w5) := sb hb5; clear HB; have HB := nB5; clear nB5; have HM4 := Aside0.mk ((((HM4.out.keep (Nat.le_refl _) (by repeat (first | exact Below.refl _ _ | apply below_alloc))).more (by first | (simp; done) | (simp; omega) | omega))).up hb5)))
    | (go_at_call 76; ((with_reducible refine (HT.out _ _ _ bl HM4.out).mono ?_); rintro e w6 ⟨rfl, hb6⟩; obtain ⟨hc6, hf6⟩ := bcell hb6; have nB6 : Aside0 (Below w.heap.size w w6) := sb hb6; clear HB; have HB := nB6; clear nB6)))
   go_ret3
   exact ⟨rfl, bl⟩
 ·have e : divE a b = biE a b := by unfold divE; rw [if_neg h]
  unfold dmS
  rw [e, if_neg h, if_neg h]
  have HR : Aside0 (∀ w, Calls Tryz.prog 87 #[.string a, .string b] w fun e w' => e = .returned (.tuple #[.agg #[.slice none 0 0, .bool false], .agg #[.slice none 0 0, .bool false], .int .i64 (biE a b)]) ∧ Below w.heap.size w w') := ⟨read_bad a b ha hb rfl h⟩
  clear e
  generalize biE a b = E at *
  have HF : Aside0 (firstI [E, 0] = E) := ⟨by unfold firstI; rw [if_neg h]⟩
  have hbe : (E != 0) = true := by simp [h]
  have hbe' : (E == 0) = false := by simp [h]
  go_enter Tryz.func27, Tryz.ntmps27
  go_wp2_with (first
   | (go_at_call 87; ((with_reducible refine (HR.out _).mono ?_); rintro e w1 ⟨rfl, hb1⟩; obtain ⟨hc1, hf1⟩ := bcell hb1; have nB1 : Aside0 (Below w.heap.size w w1) := sb hb1; clear HB; have HB := nB1; clear nB1))
   | (go_at_call 65; (with_reducible refine (when_calls _ _ _).mono ?_); rintro e w' ⟨rfl, rfl⟩)
   | (go_at_call 88; (with_reducible refine (first2_ret _ _ E HF.out _ _ (by simp) _).mono ?_); rintro e w' ⟨rfl, rfl⟩))
  go_ret3
  exact ⟨rfl, bl⟩
end
end Go.Proofs.YtillgofjlpjbcaaGreatDoor.Nm
