import Derived.Test.YtillgofjlpjbcaaGreatDoorU11
import Derived.Test.YtillgofjlpjbcaaGreatDoorU3
import Derived.Test.YtillgofjlpjbcaaGreatDoorU8
import Derived.Test.YtillgofjlpjbcaaGreatDoorRows
import Derived.Deep.DeepHandedRow
import Derived.Deep.DeepWitnessRowRef
import Derived.Lib.LaidTab
import Derived.Lib.LaidU8
import Derived.Lib.LaidIn
import Derived.LaidHandle
import Derived.LaidMore
import Derived.ProofKit
import Derived.SizedLaws
import Derived.OpenShut
import Derived.Carry
/- Own text: contracts and laws on which the card rests (RbK NoG NoH NiB NpC NoK). -/
set_option linter.unusedVariables false
set_option linter.unusedSimpArgs false
set_option maxRecDepth 1000000
set_option maxHeartbeats 16000000
namespace Go.Proofs.YtillgofjlpjbcaaGreatDoor.Nm
section
open Go.Proofs.YtillgofjlpjbcaaGreatDoorW.PrintLast Go.Proofs.YtillgofjlpjbcaaGreatDoorW.PrintMore Go.Proofs.YtillgofjlpjbcaaGreatDoorW.PrintWords Go.RowKit Go.Shelf
/-- The scale in memory between two rounds. -/
structure SC (w : World) (r : Nat) (A : Option Addr) (k c n : Nat) (W : World) : Prop where
 b0 : BG W r false A k c
 k1 : k ≤ c
 m1 : RM W A k n
 bl : Below w.heap.size w W
 r0 : w.heap.size ≤ r
theorem SC.below {w W X : World} {r : Nat} {A : Option Addr} {k c n : Nat} (h : SC w r A k c n W) (hb : Below W.heap.size W X) : SC w r A k c n X := ⟨h.b0.below hb, h.k1, h.m1.below hb, h.bl.trans (hb.mono h.bl.size), h.r0⟩
theorem SC.put {w W : World} {r : Nat} {A : Option Addr} {k c n : Nat} (h : SC w r A k c n W) {A9 : Option Addr} {k9 c9 n9 : Nat} (hk : k9 ≤ c9) (hm : RM W A9 k9 n9) : SC w r A9 k9 c9 n9 ((W.setCell ⟨r, 0, none⟩ (.bool false)).setCell ⟨r, 1, none⟩ (.slice A9 k9 c9)) :=
 ⟨(h.b0.put0 _).put1 _ _ _, hk, (hm.bg h.b0 0 _).bg (h.b0.put0 _) 1 _, (h.bl.setCell (p := ⟨r, 0, none⟩) h.r0 _).setCell (p := ⟨r, 1, none⟩) h.r0 _, h.r0⟩
theorem ten_small {j : Nat} (h : j ≤ 120) : 10 ^ j < QQ ^ 31 :=
 Nat.lt_of_le_of_lt (Nat.pow_le_pow_right (by decide) h) (by decide +kernel)
theorem rten_times {j : Nat} (h : j ≤ 120) : Aside0 (∀ W A k c A' k' c', RM W A k (10 ^ j) → RM W A' k' 10 → Calls Tryz.prog 86 #[.agg #[.bool false, .slice A k c], .agg #[.bool false, .slice A' k' c']] W fun e w' => ∃ A k c, e = .returned (.agg #[.bool false, .slice A k c]) ∧ k ≤ c ∧ RM w' A k (10 ^ (j + 1)) ∧ Below W.heap.size W w') :=
 ⟨fun W A k c A' k' c' h1 h2 => by
  have e1 := h1.bound (ten_small h)
  have e2 := h2.bound (k := 1) (by decide)
  refine (rTimes_abs h1 h2 (by omega)).mono fun e w' ⟨A, k, c, g1, g2, g3, g4⟩ => ⟨A, k, c, ?_, g2, by rw [Nat.pow_succ]; exact g3, g4⟩
  rw [g1]; simp⟩
theorem rsmall_n (d : Nat) (h : d ≤ 100) (z : Int) (hz : z = d) : Aside0 (∀ W, Calls Tryz.prog 70 #[.int .i64 z] W fun e w' => ∃ A k c, e = .returned (.agg #[.bool false, .slice A k c]) ∧ k ≤ c ∧ RM w' A k d ∧ Below W.heap.size W w') :=
 ⟨fun W => by
  subst hz
  exact (rSmall_calls (w := W) (n := (d : Int)) (by omega) (by omega)).mono fun e w' hx => by
   unfold RX rV at hx
   rwa [decide_eq_false (show ¬ (d : Int) < 0 by omega)] at hx⟩
/-- A short string of digits. -/
def checkD (s : ByteArray) : Prop := digitsB s = true ∧ s.size ≤ 120
theorem fd_dig {s : ByteArray} {x : Int} (h : checkD s) (hx : intI s = x) : Dig 1000 x := by
 obtain ⟨h1, h2⟩ := h
 have hb := digits_body h1
 have hd : DG s.data.toList := isDig_of (by unfold digitsB at h1; simp only [Bool.and_eq_true] at h1; exact h1.1)
 have h120 : Dig 120 x := by
  unfold Dig
  rw [← hx, intI_abs, hb.1]
  have hl : s.data.toList.length = s.size := by simp
  exact Nat.lt_of_lt_of_le (dv_lt _ hd) (Nat.pow_le_pow_right (by decide) (by omega))
 exact h120.more (by omega)
theorem rFromDecimal_calls (s : ByteArray) (hs : s.size ≤ 90000) (w : World) :
 Calls Tryz.prog 60 #[.string s] w fun e w' => e = .returned (.tuple #[.string (fdS s), .int .i64 (fdR s)]) ∧ Below w.heap.size w w' := by
 have hsl : s.data.toList.length = s.size := by simp
 have HS1 := rsmall_n 1 (by decide) 1 rfl
 have HS10 := rsmall_n 10 (by decide) 10 rfl
 obtain ⟨S, hS⟩ : ∃ S, fdS s = S := ⟨_, rfl⟩
 obtain ⟨R, hR⟩ : ∃ R, fdR s = R := ⟨_, rfl⟩
 rw [hS, hR]
 have HV : Aside0 ((fdE s = 1 → S = ⟨#[]⟩ ∧ R = 1) ∧ (fdE s = 4 → S = ⟨#[]⟩ ∧ R = 4) ∧ (fdE s = 0 → S = rsS (fdN s) (10 ^ (cutB 46 s).size) ∧ R = rsE (fdN s) (10 ^ (cutB 46 s).size))) := by
  refine ⟨fun h => ?_, fun h => ?_, fun h => ?_⟩ <;> unfold fdS at hS <;> unfold fdR at hR <;> rw [h] at hS hR
  ·exact ⟨hS.symm, hR.symm⟩
  ·exact ⟨hS.symm, hR.symm⟩
  ·exact ⟨hS.symm, hR.symm⟩
 clear hS hR
 go_enter Tryz.func60, Tryz.ntmps60
 go_wp2_with fail
 go_loopw [4, 5] (fun v4 v5 W => ∃ (i : Nat) (v : Int), v4 = .int .i64 v ∧ v5 = .int .i64 (i : Int) ∧ i ≤ s.size ∧ Aside0 (FdI s.data.toList i v) ∧ W = w) (fun _ v5 _ => s.size - (intOf v5).toNat)
 case atStart => exact ⟨0, -1, rfl, rfl, Nat.zero_le _, ⟨.inl ⟨rfl, fun j h hj => absurd hj (Nat.not_lt_zero _)⟩⟩, by first | rfl | trivial⟩
 case round =>
  obtain ⟨i, v, rfl, rfl, hi, HI, rfl⟩ := hrel
  by_cases hlt : i < s.size
  ·obtain ⟨d, hd⟩ : ∃ d : Nat, (s[i]'hlt).toNat = d := ⟨_, rfl⟩
   have hxd : ∀ h : i < s.size, ((s[i]'h).toNat : Int) = (d : Int) := fun h => by rw [hd]
   have hil : i < s.data.toList.length := by rw [hsl]; exact hlt
   have hdl : (s.data.toList[i]'hil).toNat = d := by rw [← hd]; simp; rfl
   have q7 : (i < s.size) = True := eq_true hlt
   have q8 : ((i : Int) < (s.size : Int)) = True := eq_true (by omega)
   have e1 : IntKind.i64.wrap ((i : Int) + 1) = ((i + 1 : Nat) : Int) := by rw [IntWalk.i64_in _ (by omega)]; omega
   have HD := Aside0.mk (And.intro hil hdl)
   have HG : Aside0 (isDig (s.data.toList[i]'hil) = (decide (48 ≤ d) && decide (d ≤ 57))) := ⟨by unfold isDig; rw [hdl]⟩
   clear hd hdl
   by_cases h46 : d = 46
   ·have g1 : ((d : Int) == 46) = true := by rw [beq_iff_eq]; omega
    have HC : Aside0 (s.data.toList[i]'HD.out.1 = 46) := ⟨UInt8.toNat_inj.1 (HD.out.2.trans h46)⟩
    rcases HI.out with ⟨h1, h2⟩ | ⟨p, h1, h2, h3, h4, h5⟩
    ·subst h1
     have HN := Aside0.mk (FdI.dot h2 HD.out.1 HC.out)
     clear h2 HI
     go_wp2_with (first | (go_at_call 125; (with_reducible refine (risDigit_calls d _).mono ?_); rintro e wx ⟨rfl, rfl⟩))
     go_roundw
     case rel => exact ⟨i + 1, (i : Int), rfl, by first | rfl | go_num, hlt, HN, by first | rfl | trivial⟩
     case measure => simp [intOf]; omega
    ·subst h1
     have HF := Aside0.mk (FdI.bad2 h3 h4 h2 HD.out.1 (by rw [HC.out]; rfl))
     have g2 : ¬ (p : Int) < 0 := by omega
     have hz : (decide (48 ≤ d) && decide (d ≤ 57)) = false := by rw [h46]; rfl
     clear h3 h4 h5 HI h46
     go_wp2_with (first | (go_at_call 125; (with_reducible refine (risDigit_calls d _).mono ?_); rintro e wx ⟨rfl, rfl⟩))
     go_ret2
     exact ⟨by rw [(HV.out.1 HF.out).1, (HV.out.1 HF.out).2]; rfl, Below.refl _ _⟩
   ·have g1 : ((d : Int) == 46) = false := by rw [beq_eq_false_iff_ne]; omega
    obtain ⟨z, hz⟩ : ∃ z, (decide (48 ≤ d) && decide (d ≤ 57)) = z := ⟨_, rfl⟩
    cases z
    ·have HF : Aside0 (fdE s = 1) := ⟨FdI.bad1 HD.out.1 (HG.out.trans hz) (fun e => h46 (by rw [← HD.out.2, e]; rfl))⟩
     clear HI
     go_wp2_with (first | (go_at_call 125; (with_reducible refine (risDigit_calls d _).mono ?_); rintro e wx ⟨rfl, rfl⟩))
     go_ret2
     exact ⟨by rw [(HV.out.1 HF.out).1, (HV.out.1 HF.out).2]; rfl, Below.refl _ _⟩
    ·have HN := Aside0.mk (HI.out.dig HD.out.1 (HG.out.trans hz))
     clear HI
     go_wp2_with (first | (go_at_call 125; (with_reducible refine (risDigit_calls d _).mono ?_); rintro e wx ⟨rfl, rfl⟩))
     go_roundw
     case rel => exact ⟨i + 1, v, rfl, by first | rfl | go_num, hlt, HN, by first | rfl | trivial⟩
     case measure => simp [intOf]; omega
  ·have hie : i = s.data.toList.length := by omega
   rw [hie] at HI
   have q8 : ¬ ((i : Int) < (s.size : Int)) := by omega
   have e2 : IntKind.i64.wrap ((s.size : Int) - 1) = (s.size : Int) - 1 := IntWalk.i64_in _ (by omega)
   rcases HI.out.fin with ⟨h1, h2⟩ | ⟨p, h1, h2, ⟨h3, h4⟩ | ⟨h3, h4, h5⟩⟩
   ·subst h1
    have HF := Aside0.mk h2
    clear HI hie h2
    go_wp2_with (first | (go_at_call 125; (with_reducible refine (risDigit_calls d _).mono ?_); rintro e wx ⟨rfl, rfl⟩))
    go_ret2
    exact ⟨by rw [(HV.out.1 HF.out).1, (HV.out.1 HF.out).2]; rfl, Below.refl _ _⟩
   ·subst h1
    have HF := Aside0.mk h4
    clear HI hie h4
    rcases h3 with rfl | h3
    ·have k1 : ((0 : Nat) : Int) < 1 := by decide
     go_wp2_with (first | (go_at_call 125; (with_reducible refine (risDigit_calls d _).mono ?_); rintro e wx ⟨rfl, rfl⟩))
     go_ret2
     exact ⟨by rw [(HV.out.1 HF.out).1, (HV.out.1 HF.out).2]; rfl, Below.refl _ _⟩
    ·by_cases hp : p = 0
     ·subst hp
      have k1 : ((0 : Nat) : Int) < 1 := by decide
      go_wp2_with (first | (go_at_call 125; (with_reducible refine (risDigit_calls d _).mono ?_); rintro e wx ⟨rfl, rfl⟩))
      go_ret2
      exact ⟨by rw [(HV.out.1 HF.out).1, (HV.out.1 HF.out).2]; rfl, Below.refl _ _⟩
     ·have k1 : ¬ (p : Int) < 1 := by omega
      have k2 : ((p : Int) == (s.size : Int) - 1) = true := by rw [beq_iff_eq]; omega
      go_wp2_with (first | (go_at_call 125; (with_reducible refine (risDigit_calls d _).mono ?_); rintro e wx ⟨rfl, rfl⟩))
      go_ret2
      exact ⟨by rw [(HV.out.1 HF.out).1, (HV.out.1 HF.out).2]; rfl, Below.refl _ _⟩
   ·subst h1
    have k1 : ¬ (p : Int) < 1 := by omega
    have k2 : ((p : Int) == (s.size : Int) - 1) = false := by rw [beq_eq_false_iff_ne]; omega
    have hE := good_E h5
    clear HI hie
    by_cases h120 : 120 < s.size - 1
    ·rw [if_pos h120] at hE
     have HF := Aside0.mk hE
     have k3 : (120 : Int) < (s.size : Int) - 1 := by omega
     clear hE h5
     go_wp2_with fail
     go_ret2
     exact ⟨by rw [(HV.out.2.1 HF.out).1, (HV.out.2.1 HF.out).2]; rfl, Below.refl _ _⟩
    ·rw [if_neg h120] at hE
     have k3 : ¬ (120 : Int) < (s.size : Int) - 1 := by omega
     have HF := Aside0.mk (HV.out.2.2 hE)
     obtain ⟨z1, z2, z3, z4, z5, z6, z7, z8⟩ := fd_good h5
     obtain ⟨m, hm⟩ : ∃ m, (cutB 46 s).size = m := ⟨_, rfl⟩
     rw [hm] at HF z7
     have hX := digits_append z4 z5
     have hdb := digits_body hX
     have hXs : (cutA 46 s ++ cutB 46 s).size ≤ 120 := by rw [ByteArray.size_append]; omega
     have hint : intI (cutA 46 s ++ cutB 46 s) = fdN s := by
      unfold intI fdN
      rw [hdb.1, hdb.2, if_neg (by decide)]
      simp
     have hcX : checkD (cutA 46 s ++ cutB 46 s) := ⟨hX, hXs⟩
     have hN : Dig 1000 (fdN s) := fd_dig hcX hint
     have h10 : ((10 : Int) ^ m).natAbs = 10 ^ m := by rw [Int.natAbs_pow]; rfl
     have hpos : ¬ (10 : Int) ^ m < 0 := by have : (0 : Int) < 10 ^ m := Int.pow_pos (by decide); omega
     have d10 : Dig 1000 ((10 : Int) ^ m) := (ten_dig m).more (by omega)
     have HRE := Aside0.mk (fun W => rRead_calls (cutA 46 s ++ cutB 46 s) (by omega) (by rw [hdb.1]; exact hX) W)
     have hne : (10 : Int) ^ m ≠ 0 := fun e => by have : (0 : Int) < 10 ^ m := Int.pow_pos (by decide); omega
     have HLO := rlowest_at hN d10 hne
     have HWR := rwrite_low hN d10
     rw [hint, z2, z3] at HRE
     rw [h10] at HLO
     unfold rV at HLO
     rw [decide_eq_false hpos] at HLO
     unfold FX fR at *
     unfold RX at HRE
     unfold rV at *
     generalize rsS (fdN s) (10 ^ m) = S1 at *
     generalize rsE (fdN s) (10 ^ m) = R1 at *
     generalize fdN s / lowD (fdN s) (10 ^ m) = P at *
     generalize (10 : Int) ^ m / lowD (fdN s) (10 ^ m) = Q at *
     generalize decide (P < 0) = gP at *
     generalize decide (Q < 0) = gQ at *
     generalize (fdN s).natAbs = nN at *
     generalize decide (fdN s < 0) = gN at *
     have k4 : IntKind.i64.wrap ((p : Int) + 1) = ((p + 1 : Nat) : Int) := by rw [IntWalk.i64_in _ (by omega)]; omega
     have hm120 : m ≤ 120 := by omega
     clear hE h5 z1 z2 z3 z4 z5 z6 hX hdb hXs hint hcX hN h10 hpos d10 hm hne
     rename World => w
     go_upto_region 14 with (first | (go_at_call 70; (with_reducible refine (HS1.out _).mono ?_); rintro e W1 ⟨A1, K1, C1, rfl, hk1, hm1, hbx⟩; have HM1 := Aside0.mk (And.intro hk1 hm1); have HB := Aside0.mk hbx; clear hbx hk1 hm1))
     obtain ⟨Y, hY⟩ : ∃ Y, W1.alloc (.cells #[.bool false, .slice A1 K1 C1] 77) = Y := ⟨_, rfl⟩
     have HS : Aside0 (SC w W1.heap.size A1 K1 C1 (10 ^ 0) Y) := ⟨by
      subst hY
      have hb := below_alloc (Below.refl W1.heap.size W1) (.cells #[.bool false, .slice A1 K1 C1] 77)
      exact ⟨BG.new _ _ _ _ _, HM1.out.1, HM1.out.2.below hb, HB.out.trans (hb.mono HB.out.size), HB.out.size⟩⟩
     rw [hY]
     clear hY HM1 HB
     generalize W1.heap.size = r at *
     go_wp2_with fail
     go_loopw [7] (fun v7 W => ∃ (j : Nat) (A : Option Addr) (k c : Nat), v7 = .int .i64 ((p + 1 + j : Nat) : Int) ∧ j ≤ m ∧ Aside0 (SC w r A k c (10 ^ j) W)) (fun v7 _ => s.size - (intOf v7).toNat)
     case atStart => exact ⟨0, A1, K1, C1, rfl, Nat.zero_le _, HS⟩
     case round =>
      clear HS
      obtain ⟨j, A, k, c, rfl, hj, HS⟩ := hrel
      have x0 := HS.out.b0.cell0
      have x1 := HS.out.b0.cell1
      have x2 := HS.out.b0.fr 0
      have x3 := HS.out.b0.fr 1
      by_cases hlt : j < m
      ·have l1 : ((p + 1 + j : Nat) : Int) < (s.size : Int) := by omega
       have e1 : IntKind.i64.wrap (((p + 1 + j : Nat) : Int) + 1) = ((p + 1 + (j + 1) : Nat) : Int) := by rw [IntWalk.i64_in _ (by omega)]; omega
       have HT := rten_times (j := j) (by omega)
       go_wp2_with fail
       rename_i K hK
       refine wp_region_held_drew (S := (fun _ => True)) (by kernel_rfl) ?_ (fun hHeld => ?_)
       ·trivial
       (obtain ⟨Z, hZ⟩ : ∃ Z, wr.drew = Z := ⟨_, rfl⟩; have hbx : Below wr.heap.size wr Z := (by subst hZ; exact below_drew1 (Below.refl _ _)); have HS2 := Aside0.mk (HS.out.below hbx); clear HS x0 x1 x2 x3; have HS := HS2; clear HS2; have x0 := HS.out.b0.cell0; have x1 := HS.out.b0.cell1; have x2 := HS.out.b0.fr 0; have x3 := HS.out.b0.fr 1; rw [hZ]; clear hZ hbx)
       repeat' (first
        | (refine fun (_ : Tg 0) K hK => ?_; go_simp; refine hK.out _ _ ?_ fun hHeld => ?_; (trivial); clear hK K; try simp only [PU])
        | (refine fun (_ : Tg 1) K hK => ?_; go_simp; (go_at_call 70; (with_reducible refine (HS10.out _).mono ?_); rintro e W2 ⟨A8, k8, c8, rfl, hk8, hm8, hbx⟩; have HM8 := Aside0.mk hm8; have HS2 := Aside0.mk (HS.out.below hbx); clear HS x0 x1 x2 x3; have HS := HS2; clear HS2; have x0 := HS.out.b0.cell0; have x1 := HS.out.b0.cell1; have x2 := HS.out.b0.fr 0; have x3 := HS.out.b0.fr 1; clear hbx hk8 hm8); refine hK.out _ _ ?_ fun hHeld => ?_; (trivial); clear hK K; try simp only [PU])
        | (refine fun (_ : Tg 2) K hK => ?_; go_simp; (go_at_call 86; (with_reducible refine (HT.out _ _ _ _ _ _ _ HS.out.m1 HM8.out).mono ?_); rintro e W3 ⟨A9, k9, c9, rfl, hk9, hm9, hbx⟩; have HM9 := Aside0.mk (And.intro hk9 hm9); have HS2 := Aside0.mk (HS.out.below hbx); clear HS x0 x1 x2 x3; have HS := HS2; clear HS2; have x0 := HS.out.b0.cell0; have x1 := HS.out.b0.cell1; have x2 := HS.out.b0.fr 0; have x3 := HS.out.b0.fr 1; clear hbx hk9 hm9); refine hK.out _ _ ?_ fun hHeld => ?_; (trivial); clear hK K; try simp only [PU])
        | (refine fun (_ : Tg 3) K hK => ?_; go_simp; refine hK.out _ _ ?_ fun hHeld => ?_; (trivial); clear hK K; try simp only [PU])
        | refine t1 1 ?_
        | refine t1 2 ?_
        | refine t1 3 ?_
        | refine t1 0 ?_
        | refine t2 0 1 ?_ ?_
        | fail)
       all_goals
        refine wpAnyH_done (by kernel_rfl) ?_ _
        (refine hK _ _ ?_; have HS3 := Aside0.mk (HS.out.put HM9.out.1 HM9.out.2); clear hK x0 x1 x2 x3; go_wp2; go_roundw; (case rel => exact ⟨j + 1, A9, k9, c9, by first | rfl | go_num, hlt, HS3⟩); (case measure => simp [intOf]; omega))
      ·obtain rfl : j = m := by omega
       have l1 : ¬ ((p + 1 + j : Nat) : Int) < (s.size : Int) := by omega
       have y1 : ((p : Int) ≤ (s.size : Int)) = True := eq_true (by omega)
       have y2 : (p ≤ s.size) = True := eq_true (by omega)
       have y3 : ((0 : Int) ≤ (p : Int)) = True := eq_true (by omega)
       have y5 : (((p + 1 : Nat) : Int) ≤ (s.size : Int)) = True := eq_true (by omega)
       have y6 : (p + 1 ≤ s.size) = True := eq_true (by omega)
       have y7 : ((p : Int) + 1 ≤ (s.size : Int)) = True := eq_true (by omega)
       have y9 : ((0 : Int) ≤ (p : Int) + 1) = True := eq_true (by omega)
       have y0 : ¬ 9223372036854775807 < p + (s.size - (p + 1)) := by omega
       have HX := Aside0.mk (And.intro x0 x1)
       have HA := Aside0.mk (And.intro HS.out.bl (Nat.le_refl wr.heap.size))
       have hr : r < wr.heap.size := HS.out.b0.lt
       clear x0 x1 x2 x3
       go_wp2_with fail
       rename_i K hK
       have KP : Aside0 (∀ V, Below (wr.heap.size) wr V → (fun V => V.cell? ⟨r, 0, none⟩ = some (.bool false) ∧ V.cell? ⟨r, 1, none⟩ = some (.slice A k c) ∧ Below (wr.heap.size) wr V) V) := ⟨fun V hBB => ⟨keepB hBB (by omega) HX.out.1, keepB hBB (by omega) HX.out.2, hBB⟩⟩
       refine wq KP fun hHeld => ?_
       refine tp 0 ?_
       try simp only [PU]
       refine tp 1 ?_
       try simp only [PU]
       refine tp 2 ?_
       try simp only [PU]
       refine tp 3 ?_
       try simp only [PU]
       refine tp 4 ?_
       try simp only [PU]
       refine tp 5 ?_
       try simp only [PU]
       refine tp 6 ?_
       try simp only [PU]
       refine tp 7 ?_
       try simp only [PU]
       refine tp 9 ?_
       try simp only [PU]
       refine tc 8 fun K hK => ?_
       go_simp
       (go_at_call 72; (with_reducible refine (HRE.out _).mono ?_); rintro e wm ⟨A5, k5, c5, rfl, hk5, hm5, hbq⟩; have HM5 := Aside0.mk (And.intro hk5 hm5); clear hk5 hm5)
       refine hK.out _ _ ?_ fun hHeld => ?_
       ·(first | exact KP.out _ (bKeep hbq hHeld.2.2 (by have := HA.out.2; omega)) | (refine KP.out _ ?_; repeat (first | exact hHeld.2.2 | refine Below.setCell ?_ (by first | (simp; done) | (simp; omega)) _)))
       clear hK K; try simp only [PU]
       refine tc 10 fun K hK => ?_
       go_simp
       (go_at_call 124; (with_reducible refine (HLO.out _ _ _ _ _ _ _ HM5.out.2 (HS.out.m1.below hHeld.2.2) HM5.out.1 HS.out.k1).mono ?_); rintro e wm ⟨A6, k6, c6, A7, k7, c7, rfl, hm6, hbq⟩; have HM6 := Aside0.mk hm6; clear hm6)
       refine hK.out _ _ ?_ fun hHeld => ?_
       ·(first | exact KP.out _ (bKeep hbq hHeld.2.2 (by have := HA.out.2; omega)) | (refine KP.out _ ?_; repeat (first | exact hHeld.2.2 | refine Below.setCell ?_ (by first | (simp; done) | (simp; omega)) _)))
       clear hK K; try simp only [PU]
       refine tc 11 fun K hK => ?_
       go_simp
       (go_at_call 101; (with_reducible refine (HWR.out _ _ _ _ _ _ _ HM6.out).mono ?_); rintro e wm ⟨rfl, hbq⟩)
       refine hK.out _ _ ?_ fun hHeld => ?_
       ·(first | exact KP.out _ (bKeep hbq hHeld.2.2 (by have := HA.out.2; omega)) | (refine KP.out _ ?_; repeat (first | exact hHeld.2.2 | refine Below.setCell ?_ (by first | (simp; done) | (simp; omega)) _)))
       clear hK K; try simp only [PU]
       refine tp 12 ?_
       try simp only [PU]
       refine tp 13 ?_
       try simp only [PU]
       refine tp 14 ?_
       try simp only [PU]
       refine tp 15 ?_
       try simp only [PU]
       refine wpAnyH_done (by kernel_rfl) ?_ _
       refine hK _ _ ?_
       go_wp2
       go_ret2
       exact ⟨by rw [HF.out.1, HF.out.2]; rfl, HS.out.bl.trans (hHeld.2.2.mono HS.out.bl.size)⟩
end
section
open Go.Lib Go.Proofs.YtillgofjlpjbcaaGreatDoorW.PrintLast Go.Proofs.YtillgofjlpjbcaaGreatDoorW.PrintMore Go.Proofs.YtillgofjlpjbcaaGreatDoorW.PrintWords Go.RowKit Go.Shelf
set_option maxRecDepth 100000
def nines : ByteArray := ⟨(List.replicate 120 57).toArray⟩
theorem nines_size : nines.size = 120 := by show (List.replicate 120 (57 : UInt8)).toArray.size = 120; simp
theorem nines_calls (W : World) : Calls Tryz.prog 62 #[.string ⟨#[57]⟩, .int .i64 120] W fun e w' => e = .returned (.string nines) ∧ Below W.heap.size W w' := by
 have h := Tryz.strings_Repeat ⟨#[57]⟩ 120 W (by omega) (by show 1 * 120 ≤ _; omega)
 have e : Lib.repeatL [57] 120 = List.replicate 120 57 := by
  have : ∀ q, Lib.repeatL [57] q = List.replicate q 57 := fun q => by
   induction q with
   | zero => rfl
   | succ q ih => rw [Lib.repeatL, ih]; rfl
  exact this 120
 rw [show (⟨#[57]⟩ : ByteArray).data.toList = [57] from rfl, e] at h
 exact h
def awF : Nat → FuncId
 | 0 => 21
 | 1 => 23
 | 2 => 25
 | 3 => 33
 | 4 => 55
 | 5 => 35
 | 6 => 37
 | 7 => 39
 | _ => 41
def awA : Nat → ByteArray
 | 0 => ⟨#[57, 57]⟩
 | 1 => ⟨#[53]⟩
 | 2 => ⟨#[45, 49, 50]⟩
 | 3 => ⟨#[45, 49, 50]⟩
 | 4 => ⟨#[54]⟩
 | 5 => ⟨#[49, 47, 50]⟩
 | 6 => ⟨#[49, 47, 50]⟩
 | 7 => ⟨#[50, 47, 51]⟩
 | _ => ⟨#[49, 47, 50]⟩
def awB : Nat → ByteArray
 | 0 => ⟨#[49]⟩
 | 1 => ⟨#[49, 50]⟩
 | 2 => ⟨#[49, 50]⟩
 | 3 => ⟨#[49, 56]⟩
 | 4 => ⟨#[45, 52]⟩
 | 5 => ⟨#[49, 47, 51]⟩
 | 6 => ⟨#[49, 47, 50]⟩
 | 7 => ⟨#[51, 47, 52]⟩
 | _ => ⟨#[45, 51, 47, 52]⟩
def awC : Nat → ByteArray
 | 0 => ⟨#[49, 48, 48]⟩
 | 1 => ⟨#[45, 55]⟩
 | 2 => ⟨#[45, 49, 52, 52]⟩
 | 3 => ⟨#[54]⟩
 | 4 => ⟨#[45, 51, 47, 50]⟩
 | 5 => ⟨#[53, 47, 54]⟩
 | 6 => ⟨#[48, 47, 49]⟩
 | 7 => ⟨#[49, 47, 50]⟩
 | _ => ⟨#[45, 50, 47, 51]⟩
def dmA : Nat → ByteArray
 | 0 => ⟨#[45, 55]⟩
 | 1 => ⟨#[45, 55]⟩
 | _ => ⟨#[55]⟩
def dmB : Nat → ByteArray
 | 0 => ⟨#[50]⟩
 | 1 => ⟨#[45, 50]⟩
 | _ => ⟨#[45, 50]⟩
def dmC : Nat → ByteArray
 | 0 => ⟨#[45, 52]⟩
 | 1 => ⟨#[52]⟩
 | _ => ⟨#[45, 51]⟩
def dmD : Nat → ByteArray
 | 0 => ⟨#[49]⟩
 | 1 => ⟨#[49]⟩
 | _ => ⟨#[49]⟩
theorem aw0 (W : World) (hE : EN W) : Calls Tryz.prog 21 #[.string ⟨#[57, 57]⟩, .string ⟨#[49]⟩] W fun e w' => e = .returned (.tuple #[.string ⟨#[49, 48, 48]⟩, .int .i64 0]) ∧ Below W.heap.size W w' := by
 have h := addN_calls ⟨#[57, 57]⟩ ⟨#[49]⟩ (by decide) (by decide) W hE.tens
 rw [show biS (fun x y : Int => x + y) ⟨#[57, 57]⟩ ⟨#[49]⟩ = ⟨#[49, 48, 48]⟩ from by decide +kernel, show biR (fun x y : Int => x + y) ⟨#[57, 57]⟩ ⟨#[49]⟩ = 0 from by decide +kernel] at h
 exact h
theorem aw1 (W : World) (hE : EN W) : Calls Tryz.prog 23 #[.string ⟨#[53]⟩, .string ⟨#[49, 50]⟩] W fun e w' => e = .returned (.tuple #[.string ⟨#[45, 55]⟩, .int .i64 0]) ∧ Below W.heap.size W w' := by
 have h := subN_calls ⟨#[53]⟩ ⟨#[49, 50]⟩ (by decide) (by decide) W hE.tens
 rw [show biS (fun x y : Int => x - y) ⟨#[53]⟩ ⟨#[49, 50]⟩ = ⟨#[45, 55]⟩ from by decide +kernel, show biR (fun x y : Int => x - y) ⟨#[53]⟩ ⟨#[49, 50]⟩ = 0 from by decide +kernel] at h
 exact h
theorem aw2 (W : World) (hE : EN W) : Calls Tryz.prog 25 #[.string ⟨#[45, 49, 50]⟩, .string ⟨#[49, 50]⟩] W fun e w' => e = .returned (.tuple #[.string ⟨#[45, 49, 52, 52]⟩, .int .i64 0]) ∧ Below W.heap.size W w' := by
 have h := mulN_calls ⟨#[45, 49, 50]⟩ ⟨#[49, 50]⟩ (by decide) (by decide) W hE.tens
 rw [show biS (fun x y : Int => x * y) ⟨#[45, 49, 50]⟩ ⟨#[49, 50]⟩ = ⟨#[45, 49, 52, 52]⟩ from by decide +kernel, show biR (fun x y : Int => x * y) ⟨#[45, 49, 50]⟩ ⟨#[49, 50]⟩ = 0 from by decide +kernel] at h
 exact h
theorem aw3 (W : World) (hE : EN W) : Calls Tryz.prog 33 #[.string ⟨#[45, 49, 50]⟩, .string ⟨#[49, 56]⟩] W fun e w' => e = .returned (.tuple #[.string ⟨#[54]⟩, .int .i64 0]) ∧ Below W.heap.size W w' := by
 have h := gcdN_calls ⟨#[45, 49, 50]⟩ ⟨#[49, 56]⟩ (by decide) (by decide) W hE.tens
 rw [show biS (fun x y : Int => (Int.gcd x y : Int)) ⟨#[45, 49, 50]⟩ ⟨#[49, 56]⟩ = ⟨#[54]⟩ from by decide +kernel, show biR (fun x y : Int => (Int.gcd x y : Int)) ⟨#[45, 49, 50]⟩ ⟨#[49, 56]⟩ = 0 from by decide +kernel] at h
 exact h
theorem aw4 (W : World) (hE : EN W) : Calls Tryz.prog 55 #[.string ⟨#[54]⟩, .string ⟨#[45, 52]⟩] W fun e w' => e = .returned (.tuple #[.string ⟨#[45, 51, 47, 50]⟩, .int .i64 0]) ∧ Below W.heap.size W w' := by
 have h := realR_calls ⟨#[54]⟩ ⟨#[45, 52]⟩ (by decide) (by decide) W hE.tens
 rw [show rlS ⟨#[54]⟩ ⟨#[45, 52]⟩ = ⟨#[45, 51, 47, 50]⟩ from by decide +kernel, show rlR ⟨#[54]⟩ ⟨#[45, 52]⟩ = 0 from by decide +kernel] at h
 exact h
theorem aw5 (W : World) (hE : EN W) : Calls Tryz.prog 35 #[.string ⟨#[49, 47, 50]⟩, .string ⟨#[49, 47, 51]⟩] W fun e w' => e = .returned (.tuple #[.string ⟨#[53, 47, 54]⟩, .int .i64 0]) ∧ Below W.heap.size W w' := by
 have h := addReal_calls ⟨#[49, 47, 50]⟩ ⟨#[49, 47, 51]⟩ (by decide) (by decide) W hE
 rw [show reS ofAdd ⟨#[49, 47, 50]⟩ ⟨#[49, 47, 51]⟩ = ⟨#[53, 47, 54]⟩ from by decide +kernel, show reR ofAdd ⟨#[49, 47, 50]⟩ ⟨#[49, 47, 51]⟩ = 0 from by decide +kernel] at h
 exact h
theorem aw6 (W : World) (hE : EN W) : Calls Tryz.prog 37 #[.string ⟨#[49, 47, 50]⟩, .string ⟨#[49, 47, 50]⟩] W fun e w' => e = .returned (.tuple #[.string ⟨#[48, 47, 49]⟩, .int .i64 0]) ∧ Below W.heap.size W w' := by
 have h := subReal_calls ⟨#[49, 47, 50]⟩ ⟨#[49, 47, 50]⟩ (by decide) (by decide) W hE
 rw [show reS ofSub ⟨#[49, 47, 50]⟩ ⟨#[49, 47, 50]⟩ = ⟨#[48, 47, 49]⟩ from by decide +kernel, show reR ofSub ⟨#[49, 47, 50]⟩ ⟨#[49, 47, 50]⟩ = 0 from by decide +kernel] at h
 exact h
theorem aw7 (W : World) (hE : EN W) : Calls Tryz.prog 39 #[.string ⟨#[50, 47, 51]⟩, .string ⟨#[51, 47, 52]⟩] W fun e w' => e = .returned (.tuple #[.string ⟨#[49, 47, 50]⟩, .int .i64 0]) ∧ Below W.heap.size W w' := by
 have h := mulReal_calls ⟨#[50, 47, 51]⟩ ⟨#[51, 47, 52]⟩ (by decide) (by decide) W hE
 rw [show reS ofMul ⟨#[50, 47, 51]⟩ ⟨#[51, 47, 52]⟩ = ⟨#[49, 47, 50]⟩ from by decide +kernel, show reR ofMul ⟨#[50, 47, 51]⟩ ⟨#[51, 47, 52]⟩ = 0 from by decide +kernel] at h
 exact h
theorem aw8 (W : World) (hE : EN W) : Calls Tryz.prog 41 #[.string ⟨#[49, 47, 50]⟩, .string ⟨#[45, 51, 47, 52]⟩] W fun e w' => e = .returned (.tuple #[.string ⟨#[45, 50, 47, 51]⟩, .int .i64 0]) ∧ Below W.heap.size W w' := by
 have h := divReal_calls ⟨#[49, 47, 50]⟩ ⟨#[45, 51, 47, 52]⟩ (by decide) (by decide) W hE
 rw [show drS ⟨#[49, 47, 50]⟩ ⟨#[45, 51, 47, 52]⟩ = ⟨#[45, 50, 47, 51]⟩ from by decide +kernel, show drR ⟨#[49, 47, 50]⟩ ⟨#[45, 51, 47, 52]⟩ = 0 from by decide +kernel] at h
 exact h
theorem aw_calls (i : Nat) (hi : i < 9) (W : World) (hE : EN W) : Calls Tryz.prog (awF i) #[.string (awA i), .string (awB i)] W fun e w' => e = .returned (.tuple #[.string (awC i), .int .i64 0]) ∧ Below W.heap.size W w' :=
 match i, hi with
 | 0, _ => aw0 W hE
 | 1, _ => aw1 W hE
 | 2, _ => aw2 W hE
 | 3, _ => aw3 W hE
 | 4, _ => aw4 W hE
 | 5, _ => aw5 W hE
 | 6, _ => aw6 W hE
 | 7, _ => aw7 W hE
 | 8, _ => aw8 W hE
theorem aw_enters (i : Nat) (hi : i < 9) : ∀ (args : Array Value) (w : World), (callFunc (awF i) args).run Tryz.prog w = .ok (.enter (awF i) args) w :=
 match i, hi with
 | 0, _ => enters_of Tryz.func21 (by kernel_rfl) rfl
 | 1, _ => enters_of Tryz.func23 (by kernel_rfl) rfl
 | 2, _ => enters_of Tryz.func25 (by kernel_rfl) rfl
 | 3, _ => enters_of Tryz.func33 (by kernel_rfl) rfl
 | 4, _ => enters_of Tryz.func55 (by kernel_rfl) rfl
 | 5, _ => enters_of Tryz.func35 (by kernel_rfl) rfl
 | 6, _ => enters_of Tryz.func37 (by kernel_rfl) rfl
 | 7, _ => enters_of Tryz.func39 (by kernel_rfl) rfl
 | 8, _ => enters_of Tryz.func41 (by kernel_rfl) rfl
theorem dm0 (W : World) (hE : EN W) : Calls Tryz.prog 27 #[.string ⟨#[45, 55]⟩, .string ⟨#[50]⟩] W fun e w' => e = .returned (.tuple #[.string ⟨#[45, 52]⟩, .string ⟨#[49]⟩, .int .i64 0]) ∧ Below W.heap.size W w' := by
 have h := divMod_calls ⟨#[45, 55]⟩ ⟨#[50]⟩ (by decide) (by decide) W hE.tens
 rw [show dmS (fun x y => x / y) ⟨#[45, 55]⟩ ⟨#[50]⟩ = ⟨#[45, 52]⟩ from by decide +kernel, show dmS (fun x y => x % y) ⟨#[45, 55]⟩ ⟨#[50]⟩ = ⟨#[49]⟩ from by decide +kernel, show divE ⟨#[45, 55]⟩ ⟨#[50]⟩ = 0 from by decide +kernel] at h
 exact h
theorem dm1 (W : World) (hE : EN W) : Calls Tryz.prog 27 #[.string ⟨#[45, 55]⟩, .string ⟨#[45, 50]⟩] W fun e w' => e = .returned (.tuple #[.string ⟨#[52]⟩, .string ⟨#[49]⟩, .int .i64 0]) ∧ Below W.heap.size W w' := by
 have h := divMod_calls ⟨#[45, 55]⟩ ⟨#[45, 50]⟩ (by decide) (by decide) W hE.tens
 rw [show dmS (fun x y => x / y) ⟨#[45, 55]⟩ ⟨#[45, 50]⟩ = ⟨#[52]⟩ from by decide +kernel, show dmS (fun x y => x % y) ⟨#[45, 55]⟩ ⟨#[45, 50]⟩ = ⟨#[49]⟩ from by decide +kernel, show divE ⟨#[45, 55]⟩ ⟨#[45, 50]⟩ = 0 from by decide +kernel] at h
 exact h
theorem dm2 (W : World) (hE : EN W) : Calls Tryz.prog 27 #[.string ⟨#[55]⟩, .string ⟨#[45, 50]⟩] W fun e w' => e = .returned (.tuple #[.string ⟨#[45, 51]⟩, .string ⟨#[49]⟩, .int .i64 0]) ∧ Below W.heap.size W w' := by
 have h := divMod_calls ⟨#[55]⟩ ⟨#[45, 50]⟩ (by decide) (by decide) W hE.tens
 rw [show dmS (fun x y => x / y) ⟨#[55]⟩ ⟨#[45, 50]⟩ = ⟨#[45, 51]⟩ from by decide +kernel, show dmS (fun x y => x % y) ⟨#[55]⟩ ⟨#[45, 50]⟩ = ⟨#[49]⟩ from by decide +kernel, show divE ⟨#[55]⟩ ⟨#[45, 50]⟩ = 0 from by decide +kernel] at h
 exact h
theorem dm_calls (i : Nat) (hi : i < 3) (W : World) (hE : EN W) : Calls Tryz.prog 27 #[.string (dmA i), .string (dmB i)] W fun e w' => e = .returned (.tuple #[.string (dmC i), .string (dmD i), .int .i64 0]) ∧ Below W.heap.size W w' :=
 match i, hi with
 | 0, _ => dm0 W hE
 | 1, _ => dm1 W hE
 | 2, _ => dm2 W hE
theorem ax16 (W : World) (hE : EN W) : Calls Tryz.prog 21 #[.string nines, .string ⟨#[49]⟩] W fun e w' => e = .returned (.tuple #[.string ⟨#[]⟩, .int .i64 4]) ∧ Below W.heap.size W w' := by
 have h := addN_calls nines ⟨#[49]⟩ (by rw [nines_size]; omega) (by decide) W hE.tens
 rw [show biS (fun x y : Int => x + y) nines ⟨#[49]⟩ = ⟨#[]⟩ from by decide +kernel, show biR (fun x y : Int => x + y) nines ⟨#[49]⟩ = 4 from by decide +kernel] at h
 exact h
theorem ax17 (W : World) (hE : EN W) : Calls Tryz.prog 27 #[.string ⟨#[55]⟩, .string ⟨#[48]⟩] W fun e w' => e = .returned (.tuple #[.string ⟨#[]⟩, .string ⟨#[]⟩, .int .i64 30]) ∧ Below W.heap.size W w' := by
 have h := divMod_calls ⟨#[55]⟩ ⟨#[48]⟩ (by decide) (by decide) W hE.tens
 rw [show dmS (fun x y => x / y) ⟨#[55]⟩ ⟨#[48]⟩ = ⟨#[]⟩ from by decide +kernel, show dmS (fun x y => x % y) ⟨#[55]⟩ ⟨#[48]⟩ = ⟨#[]⟩ from by decide +kernel, show divE ⟨#[55]⟩ ⟨#[48]⟩ = 30 from by decide +kernel] at h
 exact h
theorem ax18 (W : World) (hE : EN W) : Calls Tryz.prog 31 #[.string ⟨#[45, 50]⟩, .int .i64 5] W fun e w' => e = .returned (.tuple #[.string ⟨#[45, 51, 50]⟩, .int .i64 0]) ∧ Below W.heap.size W w' := by
 have h := pow_calls ⟨#[45, 50]⟩ (by decide) 5 W hE.tens
 rw [show powS ⟨#[45, 50]⟩ 5 = ⟨#[45, 51, 50]⟩ from by decide +kernel, show powR ⟨#[45, 50]⟩ 5 = 0 from by decide +kernel] at h
 exact h
theorem ax19 (W : World) (hE : EN W) : Calls Tryz.prog 53 #[.string ⟨#[45, 51, 47, 50]⟩] W fun e w' => e = .returned (.tuple #[.string ⟨#[45, 50]⟩, .int .i64 0]) ∧ Below W.heap.size W w' := by
 have h := floor_calls ⟨#[45, 51, 47, 50]⟩ (by decide) W hE
 rw [show flS ⟨#[45, 51, 47, 50]⟩ = ⟨#[45, 50]⟩ from by decide +kernel, show flR ⟨#[45, 51, 47, 50]⟩ = 0 from by decide +kernel] at h
 exact h
theorem ax20 (W : World) (hE : EN W) : Calls Tryz.prog 59 #[.string ⟨#[49, 50, 46, 53, 48]⟩] W fun e w' => e = .returned (.tuple #[.string ⟨#[50, 53, 47, 50]⟩, .int .i64 0]) ∧ Below W.heap.size W w' := by
 have h := fromDecimal_calls ⟨#[49, 50, 46, 53, 48]⟩ (by decide) W hE
 rw [show fdS ⟨#[49, 50, 46, 53, 48]⟩ = ⟨#[50, 53, 47, 50]⟩ from by decide +kernel, show fdR ⟨#[49, 50, 46, 53, 48]⟩ = 0 from by decide +kernel] at h
 exact h
theorem ax21 (W : World) (hE : EN W) : Calls Tryz.prog 45 #[.string ⟨#[45, 49]⟩, .int .i64 8] W fun e w' => e = .returned (.tuple #[.string ⟨#[50, 53, 53]⟩, .int .i64 0]) ∧ Below W.heap.size W w' := by
 have h := wrap_calls ⟨#[45, 49]⟩ (by decide) 8 W hE.tens
 rw [show wpS ⟨#[45, 49]⟩ 8 = ⟨#[50, 53, 53]⟩ from by decide +kernel, show wpE ⟨#[45, 49]⟩ 8 = 0 from by decide +kernel] at h
 exact h
theorem ax22 (W : World) (hE : EN W) : Calls Tryz.prog 47 #[.int .i64 0, .int .i64 8, .string ⟨#[50, 48, 48]⟩, .string ⟨#[49, 48, 48]⟩] W fun e w' => e = .returned (.tuple #[.string ⟨#[52, 52]⟩, .int .i64 0]) ∧ Below W.heap.size W w' := by
 have h := bits_calls 0 8 ⟨#[50, 48, 48]⟩ ⟨#[49, 48, 48]⟩ (by decide) (by decide) W hE
 rw [show btS 0 8 ⟨#[50, 48, 48]⟩ ⟨#[49, 48, 48]⟩ = ⟨#[52, 52]⟩ from by decide +kernel, show btR 0 8 ⟨#[50, 48, 48]⟩ ⟨#[49, 48, 48]⟩ = 0 from by decide +kernel] at h
 exact h
theorem ax23 (W : World) (hE : EN W) : Calls Tryz.prog 47 #[.int .i64 8, .int .i64 8, .string ⟨#[49]⟩, .string ⟨#[56]⟩] W fun e w' => e = .returned (.tuple #[.string ⟨#[48]⟩, .int .i64 0]) ∧ Below W.heap.size W w' := by
 have h := bits_calls 8 8 ⟨#[49]⟩ ⟨#[56]⟩ (by decide) (by decide) W hE
 rw [show btS 8 8 ⟨#[49]⟩ ⟨#[56]⟩ = ⟨#[48]⟩ from by decide +kernel, show btR 8 8 ⟨#[49]⟩ ⟨#[56]⟩ = 0 from by decide +kernel] at h
 exact h
theorem ax24 (W : World) (hE : EN W) : Calls Tryz.prog 47 #[.int .i64 7, .int .i64 8, .string ⟨#[49, 50]⟩, .string ⟨#[49, 48]⟩] W fun e w' => e = .returned (.tuple #[.string ⟨#[54]⟩, .int .i64 0]) ∧ Below W.heap.size W w' := by
 have h := bits_calls 7 8 ⟨#[49, 50]⟩ ⟨#[49, 48]⟩ (by decide) (by decide) W hE
 rw [show btS 7 8 ⟨#[49, 50]⟩ ⟨#[49, 48]⟩ = ⟨#[54]⟩ from by decide +kernel, show btR 7 8 ⟨#[49, 50]⟩ ⟨#[49, 48]⟩ = 0 from by decide +kernel] at h
 exact h
theorem ax25 (W : World) (hE : EN W) : Calls Tryz.prog 29 #[.string ⟨#[45, 53]⟩, .string ⟨#[51]⟩] W fun e w' => e = .returned (.tuple #[.int .i64 (-1), .int .i64 0]) ∧ Below W.heap.size W w' := by
 have h := compareN_calls ⟨#[45, 53]⟩ ⟨#[51]⟩ (by decide) (by decide) W
 rw [show cmpN ⟨#[45, 53]⟩ ⟨#[51]⟩ = -1 from by decide +kernel, show biE ⟨#[45, 53]⟩ ⟨#[51]⟩ = 0 from by decide +kernel] at h
 exact h
theorem ax26 (W : World) (hE : EN W) : Calls Tryz.prog 43 #[.string ⟨#[49, 47, 51]⟩, .string ⟨#[49, 47, 52]⟩] W fun e w' => e = .returned (.tuple #[.int .i64 1, .int .i64 0]) ∧ Below W.heap.size W w' := by
 have h := compareReal_calls ⟨#[49, 47, 51]⟩ ⟨#[49, 47, 52]⟩ (by decide) (by decide) W hE
 rw [show cmpR ⟨#[49, 47, 51]⟩ ⟨#[49, 47, 52]⟩ = 1 from by decide +kernel, show reE ⟨#[49, 47, 51]⟩ ⟨#[49, 47, 52]⟩ = 0 from by decide +kernel] at h
 exact h
theorem ax27 (W : World) (hE : EN W) : Calls Tryz.prog 16 #[.string ⟨#[45, 52, 50]⟩] W fun e w' => e = .returned (.tuple #[.int .i64 (-42), .int .i64 0]) ∧ Below W.heap.size W w' := by
 have h := toInt_calls ⟨#[45, 52, 50]⟩ (by decide) W hE
 rw [show toIV ⟨#[45, 52, 50]⟩ = -42 from by decide +kernel, show toIE ⟨#[45, 52, 50]⟩ = 0 from by decide +kernel] at h
 exact h
theorem ax28 (W : World) (hE : EN W) : Calls Tryz.prog 18 #[.string ⟨#[48]⟩] W fun e w' => e = .returned (.tuple #[.string ⟨#[48]⟩, .int .i64 0]) ∧ Below W.heap.size W w' := by
 have h := negN_calls ⟨#[48]⟩ (by decide) W hE.tens
 rw [show negS ⟨#[48]⟩ = ⟨#[48]⟩ from by decide +kernel, show checkI ⟨#[48]⟩ = 0 from by decide +kernel] at h
 exact h
theorem ax30 (W : World) (hE : EN W) : Calls Tryz.prog 12 #[.string ⟨#[48, 48, 55]⟩] W fun e w' => e = .returned (.int .i64 1) ∧ Below W.heap.size W w' := by
 have h := check_calls ⟨#[48, 48, 55]⟩ (by decide) W
 rw [show checkI ⟨#[48, 48, 55]⟩ = 1 from by decide +kernel] at h
 exact h
theorem ax31 (W : World) (hE : EN W) : Calls Tryz.prog 12 #[.string ⟨#[45, 48]⟩] W fun e w' => e = .returned (.int .i64 1) ∧ Below W.heap.size W w' := by
 have h := check_calls ⟨#[45, 48]⟩ (by decide) W
 rw [show checkI ⟨#[45, 48]⟩ = 1 from by decide +kernel] at h
 exact h
theorem ax32 (W : World) (hE : EN W) : Calls Tryz.prog 12 #[.string (nines ++ ⟨#[57]⟩)] W fun e w' => e = .returned (.int .i64 4) ∧ Below W.heap.size W w' := by
 have h := check_calls (nines ++ ⟨#[57]⟩) (by rw [ByteArray.size_append, nines_size]; decide) W
 rw [show checkI (nines ++ ⟨#[57]⟩) = 4 from by decide +kernel] at h
 exact h
theorem ax33 (W : World) (hE : EN W) : Calls Tryz.prog 51 #[.string ⟨#[50, 47, 52]⟩] W fun e w' => e = .returned (.int .i64 1) ∧ Below W.heap.size W w' := by
 have h := checkR_calls ⟨#[50, 47, 52]⟩ (by decide) W hE
 rw [show checkR ⟨#[50, 47, 52]⟩ = 1 from by decide +kernel] at h
 exact h
theorem ax34 (W : World) (hE : EN W) : Calls Tryz.prog 14 #[.int .i64 (-9)] W fun e w' => e = .returned (.string ⟨#[45, 57]⟩) ∧ Below W.heap.size W w' := by
 have h := fromInt_calls (-9) (by omega) (by omega) W hE.tens
 rw [show (⟨(Lib.itoa (-9)).toArray⟩ : ByteArray) = ⟨#[45, 57]⟩ from by decide +kernel] at h
 exact h
/-- A table in memory. -/
def TB (W : World) (b : Nat) (tab : Array Value) : Prop := ∃ T, W.heap[b]? = some (.cells tab T (0, 0))
theorem TB.cell {W : World} {b : Nat} {tab : Array Value} (h : TB W b tab) {o : Nat} {v : Value} (ho : tab[o]? = some v) : W.cell? ⟨b, o, none⟩ = some v := by
 obtain ⟨T, h⟩ := h
 rw [Lib.cell_of_heap h]
 exact ho
theorem TB.lt {W : World} {b : Nat} {tab : Array Value} (h : TB W b tab) : b < W.heap.size := by
 obtain ⟨T, h⟩ := h
 exact (Array.getElem?_eq_some_iff.1 h).1
theorem TB.below {W X : World} {b : Nat} {tab : Array Value} (h : TB W b tab) (hb : Below W.heap.size W X) : TB X b tab := by
 have hl := h.lt
 obtain ⟨T, h⟩ := h
 exact ⟨T, (hb.block b hl).trans h⟩
def awTab : Array Value := #[.func (.func 21) #[] #[], .string ⟨#[57, 57]⟩, .string ⟨#[49]⟩, .string ⟨#[49, 48, 48]⟩, .func (.func 23) #[] #[], .string ⟨#[53]⟩, .string ⟨#[49, 50]⟩, .string ⟨#[45, 55]⟩, .func (.func 25) #[] #[], .string ⟨#[45, 49, 50]⟩, .string ⟨#[49, 50]⟩, .string ⟨#[45, 49, 52, 52]⟩, .func (.func 33) #[] #[], .string ⟨#[45, 49, 50]⟩, .string ⟨#[49, 56]⟩, .string ⟨#[54]⟩, .func (.func 55) #[] #[], .string ⟨#[54]⟩, .string ⟨#[45, 52]⟩, .string ⟨#[45, 51, 47, 50]⟩, .func (.func 35) #[] #[], .string ⟨#[49, 47, 50]⟩, .string ⟨#[49, 47, 51]⟩, .string ⟨#[53, 47, 54]⟩, .func (.func 37) #[] #[], .string ⟨#[49, 47, 50]⟩, .string ⟨#[49, 47, 50]⟩, .string ⟨#[48, 47, 49]⟩, .func (.func 39) #[] #[], .string ⟨#[50, 47, 51]⟩, .string ⟨#[51, 47, 52]⟩, .string ⟨#[49, 47, 50]⟩, .func (.func 41) #[] #[], .string ⟨#[49, 47, 50]⟩, .string ⟨#[45, 51, 47, 52]⟩, .string ⟨#[45, 50, 47, 51]⟩]
def dmTab : Array Value := #[.string ⟨#[45, 55]⟩, .string ⟨#[50]⟩, .string ⟨#[45, 52]⟩, .string ⟨#[49]⟩, .string ⟨#[45, 55]⟩, .string ⟨#[45, 50]⟩, .string ⟨#[52]⟩, .string ⟨#[49]⟩, .string ⟨#[55]⟩, .string ⟨#[45, 50]⟩, .string ⟨#[45, 51]⟩, .string ⟨#[49]⟩]
theorem awTab_get (i : Nat) (hi : i < 9) : awTab[i * 4]? = some (.func (.func (awF i)) #[] #[]) ∧ awTab[i * 4 + 1]? = some (.string (awA i)) ∧ awTab[i * 4 + 2]? = some (.string (awB i)) ∧ awTab[i * 4 + 3]? = some (.string (awC i)) :=
 match i, hi with
 | 0, _ => ⟨rfl, rfl, rfl, rfl⟩
 | 1, _ => ⟨rfl, rfl, rfl, rfl⟩
 | 2, _ => ⟨rfl, rfl, rfl, rfl⟩
 | 3, _ => ⟨rfl, rfl, rfl, rfl⟩
 | 4, _ => ⟨rfl, rfl, rfl, rfl⟩
 | 5, _ => ⟨rfl, rfl, rfl, rfl⟩
 | 6, _ => ⟨rfl, rfl, rfl, rfl⟩
 | 7, _ => ⟨rfl, rfl, rfl, rfl⟩
 | 8, _ => ⟨rfl, rfl, rfl, rfl⟩
theorem dmTab_get (i : Nat) (hi : i < 3) : dmTab[i * 4]? = some (.string (dmA i)) ∧ dmTab[i * 4 + 1]? = some (.string (dmB i)) ∧ dmTab[i * 4 + 2]? = some (.string (dmC i)) ∧ dmTab[i * 4 + 3]? = some (.string (dmD i)) :=
 match i, hi with
 | 0, _ => ⟨rfl, rfl, rfl, rfl⟩
 | 1, _ => ⟨rfl, rfl, rfl, rfl⟩
 | 2, _ => ⟨rfl, rfl, rfl, rfl⟩
theorem awake_calls (w : World) (hE : EN w) : Calls Tryz.prog 10 #[] w fun e w' => e = .returned (.bool true) ∧ Below w.heap.size w w' := by
 have HE := Aside0.mk hE
 have hns : nines.size = 120 := nines_size
 clear hE
 go_enter Tryz.func10, Tryz.ntmps10
 go_wp2_with fail
 obtain ⟨b, hb⟩ : ∃ b, w.heap.size = b := ⟨_, rfl⟩
 have I0 : Aside0 (TB (w.alloc (.cells #[.func (.func 21) #[] #[], .string ⟨#[57, 57]⟩, .string ⟨#[49]⟩, .string ⟨#[49, 48, 48]⟩, .func (.func 23) #[] #[], .string ⟨#[53]⟩, .string ⟨#[49, 50]⟩, .string ⟨#[45, 55]⟩, .func (.func 25) #[] #[], .string ⟨#[45, 49, 50]⟩, .string ⟨#[49, 50]⟩, .string ⟨#[45, 49, 52, 52]⟩, .func (.func 33) #[] #[], .string ⟨#[45, 49, 50]⟩, .string ⟨#[49, 56]⟩, .string ⟨#[54]⟩, .func (.func 55) #[] #[], .string ⟨#[54]⟩, .string ⟨#[45, 52]⟩, .string ⟨#[45, 51, 47, 50]⟩, .func (.func 35) #[] #[], .string ⟨#[49, 47, 50]⟩, .string ⟨#[49, 47, 51]⟩, .string ⟨#[53, 47, 54]⟩, .func (.func 37) #[] #[], .string ⟨#[49, 47, 50]⟩, .string ⟨#[49, 47, 50]⟩, .string ⟨#[48, 47, 49]⟩, .func (.func 39) #[] #[], .string ⟨#[50, 47, 51]⟩, .string ⟨#[51, 47, 52]⟩, .string ⟨#[49, 47, 50]⟩, .func (.func 41) #[] #[], .string ⟨#[49, 47, 50]⟩, .string ⟨#[45, 51, 47, 52]⟩, .string ⟨#[45, 50, 47, 51]⟩] 63)) b awTab ∧ Below w.heap.size w (w.alloc (.cells #[.func (.func 21) #[] #[], .string ⟨#[57, 57]⟩, .string ⟨#[49]⟩, .string ⟨#[49, 48, 48]⟩, .func (.func 23) #[] #[], .string ⟨#[53]⟩, .string ⟨#[49, 50]⟩, .string ⟨#[45, 55]⟩, .func (.func 25) #[] #[], .string ⟨#[45, 49, 50]⟩, .string ⟨#[49, 50]⟩, .string ⟨#[45, 49, 52, 52]⟩, .func (.func 33) #[] #[], .string ⟨#[45, 49, 50]⟩, .string ⟨#[49, 56]⟩, .string ⟨#[54]⟩, .func (.func 55) #[] #[], .string ⟨#[54]⟩, .string ⟨#[45, 52]⟩, .string ⟨#[45, 51, 47, 50]⟩, .func (.func 35) #[] #[], .string ⟨#[49, 47, 50]⟩, .string ⟨#[49, 47, 51]⟩, .string ⟨#[53, 47, 54]⟩, .func (.func 37) #[] #[], .string ⟨#[49, 47, 50]⟩, .string ⟨#[49, 47, 50]⟩, .string ⟨#[48, 47, 49]⟩, .func (.func 39) #[] #[], .string ⟨#[50, 47, 51]⟩, .string ⟨#[51, 47, 52]⟩, .string ⟨#[49, 47, 50]⟩, .func (.func 41) #[] #[], .string ⟨#[49, 47, 50]⟩, .string ⟨#[45, 51, 47, 52]⟩, .string ⟨#[45, 50, 47, 51]⟩] 63))) := ⟨⟨_, by rw [← hb]; exact heap_alloc_new w _⟩, below_alloc (Below.refl _ _) _⟩
 rw [hb]
 clear hb
 go_loopw [50] (fun v50 W => ∃ i : Nat, v50 = .int .i64 (i : Int) ∧ i ≤ 9 ∧ Aside0 (TB W b awTab ∧ Below w.heap.size w W)) (fun v50 _ => 9 - (RowKit.intOf v50).toNat)
 case atStart => exact ⟨0, rfl, Nat.zero_le _, I0⟩
 case round =>
  obtain ⟨i, rfl, hi, HI⟩ := hrel
  have e1 : IntKind.i64.wrap ((i : Int) + 1) = ((i + 1 : Nat) : Int) := by rw [IntWalk.i64_in _ (by omega)]; omega
  by_cases hlt : i < 9
  ·have hlt' : (i : Int) < 9 := by omega
   obtain ⟨g0, g1, g2, g3⟩ := awTab_get i hlt
   have c0 := HI.out.1.cell g0
   have c1 := HI.out.1.cell g1
   have c2 := HI.out.1.cell g2
   have c3 := HI.out.1.cell g3
   have hbl := HI.out.1.lt
   have eg := aw_enters i hlt
   have HA := Aside0.mk (fun W hb => aw_calls i hlt W (HE.out.below hb))
   clear g0 g1 g2 g3
   generalize awF i = F at *
   generalize awA i = sa at *
   generalize awB i = sb at *
   generalize awC i = sc at *
   go_wp2_with (first | (go_at_fn F; ((with_reducible refine (HA.out _ (below_alloc HI.out.2 _)).mono ?_); rintro e w2 ⟨rfl, hb2⟩; obtain ⟨hc2, hf2⟩ := bcell hb2; have z2 : wr.heap.size < w2.heap.size := Nat.lt_of_lt_of_le (by simp) hb2.size; have HN := Aside0.mk (And.intro (HI.out.1.below ((below_alloc (Below.refl _ _) _).trans (hb2.mono (by simp)))) ((below_alloc HI.out.2 _).trans (hb2.mono (below_alloc HI.out.2 _).size))))))
   go_roundw
   case rel => exact ⟨i + 1, by first | rfl | go_num, hlt, HN⟩
   case measure => simp [RowKit.intOf]; omega
  ·have hlt' : ¬ (i : Int) < 9 := by omega
   obtain rfl : i = 9 := by omega
   have HB0 := Aside0.mk HI.out.2
   clear HI e1 hlt I0
   go_wp2_with fail
   obtain ⟨b2, hb2⟩ : ∃ b2, wr.heap.size = b2 := ⟨_, rfl⟩
   have I1 : Aside0 (TB (wr.alloc (.cells #[.string ⟨#[45, 55]⟩, .string ⟨#[50]⟩, .string ⟨#[45, 52]⟩, .string ⟨#[49]⟩, .string ⟨#[45, 55]⟩, .string ⟨#[45, 50]⟩, .string ⟨#[52]⟩, .string ⟨#[49]⟩, .string ⟨#[55]⟩, .string ⟨#[45, 50]⟩, .string ⟨#[45, 51]⟩, .string ⟨#[49]⟩] 65)) b2 dmTab ∧ Below w.heap.size w (wr.alloc (.cells #[.string ⟨#[45, 55]⟩, .string ⟨#[50]⟩, .string ⟨#[45, 52]⟩, .string ⟨#[49]⟩, .string ⟨#[45, 55]⟩, .string ⟨#[45, 50]⟩, .string ⟨#[52]⟩, .string ⟨#[49]⟩, .string ⟨#[55]⟩, .string ⟨#[45, 50]⟩, .string ⟨#[45, 51]⟩, .string ⟨#[49]⟩] 65))) := ⟨⟨_, by rw [← hb2]; exact heap_alloc_new wr _⟩, below_alloc HB0.out _⟩
   rw [hb2]
   clear hb2 HB0
   go_loopw [78] (fun v78 W => ∃ i : Nat, v78 = .int .i64 (i : Int) ∧ i ≤ 3 ∧ Aside0 (TB W b2 dmTab ∧ Below w.heap.size w W)) (fun v78 _ => 3 - (RowKit.intOf v78).toNat)
   case atStart => exact ⟨0, rfl, Nat.zero_le _, I1⟩
   case round =>
    obtain ⟨i, rfl, hi, HI⟩ := hrel
    have e1 : IntKind.i64.wrap ((i : Int) + 1) = ((i + 1 : Nat) : Int) := by rw [IntWalk.i64_in _ (by omega)]; omega
    by_cases hlt : i < 3
    ·have hlt' : (i : Int) < 3 := by omega
     obtain ⟨g0, g1, g2, g3⟩ := dmTab_get i hlt
     have c0 := HI.out.1.cell g0
     have c1 := HI.out.1.cell g1
     have c2 := HI.out.1.cell g2
     have c3 := HI.out.1.cell g3
     have hbl := HI.out.1.lt
     have HA := Aside0.mk (fun W hb => dm_calls i hlt W (HE.out.below hb))
     clear g0 g1 g2 g3
     generalize dmA i = sa at *
     generalize dmB i = sb at *
     generalize dmC i = sc at *
     generalize dmD i = sd at *
     go_wp2_with (first | (go_at_call 27; ((with_reducible refine (HA.out _ (below_alloc HI.out.2 _)).mono ?_); rintro e w2 ⟨rfl, hb2⟩; obtain ⟨hc2, hf2⟩ := bcell hb2; have z2 : wr.heap.size < w2.heap.size := Nat.lt_of_lt_of_le (by simp) hb2.size; have HN := Aside0.mk (And.intro (HI.out.1.below ((below_alloc (Below.refl _ _) _).trans (hb2.mono (by simp)))) ((below_alloc HI.out.2 _).trans (hb2.mono (below_alloc HI.out.2 _).size))))))
     go_roundw
     case rel => exact ⟨i + 1, by first | rfl | go_num, hlt, HN⟩
     case measure => simp [RowKit.intOf]; omega
    ·have hlt' : ¬ (i : Int) < 3 := by omega
     obtain rfl : i = 3 := by omega
     have HC := Aside0.mk HI.out.2
     clear HI e1 hlt I1
     go_wp2_with (first | (go_at_call 62; (with_reducible refine (nines_calls _).mono ?_); rintro e wx ⟨rfl, hbx⟩; have HC2 := Aside0.mk (HC.out.trans (hbx.mono HC.out.size)); clear HC; have HC := HC2; clear HC2 hbx) | (go_at_call 21; (with_reducible refine (ax16 _ (HE.out.below HC.out)).mono ?_); rintro e wx ⟨rfl, hbx⟩; have HC2 := Aside0.mk (HC.out.trans (hbx.mono HC.out.size)); clear HC; have HC := HC2; clear HC2 hbx) | (go_at_call 27; (with_reducible refine (ax17 _ (HE.out.below HC.out)).mono ?_); rintro e wx ⟨rfl, hbx⟩; have HC2 := Aside0.mk (HC.out.trans (hbx.mono HC.out.size)); clear HC; have HC := HC2; clear HC2 hbx) | (go_at_call 31; (with_reducible refine (ax18 _ (HE.out.below HC.out)).mono ?_); rintro e wx ⟨rfl, hbx⟩; have HC2 := Aside0.mk (HC.out.trans (hbx.mono HC.out.size)); clear HC; have HC := HC2; clear HC2 hbx) | (go_at_call 53; (with_reducible refine (ax19 _ (HE.out.below HC.out)).mono ?_); rintro e wx ⟨rfl, hbx⟩; have HC2 := Aside0.mk (HC.out.trans (hbx.mono HC.out.size)); clear HC; have HC := HC2; clear HC2 hbx) | (go_at_call 59; (with_reducible refine (ax20 _ (HE.out.below HC.out)).mono ?_); rintro e wx ⟨rfl, hbx⟩; have HC2 := Aside0.mk (HC.out.trans (hbx.mono HC.out.size)); clear HC; have HC := HC2; clear HC2 hbx) | (go_at_call 45; (with_reducible refine (ax21 _ (HE.out.below HC.out)).mono ?_); rintro e wx ⟨rfl, hbx⟩; have HC2 := Aside0.mk (HC.out.trans (hbx.mono HC.out.size)); clear HC; have HC := HC2; clear HC2 hbx) | (go_at_call 47; (with_reducible refine (ax22 _ (HE.out.below HC.out)).mono ?_); rintro e wx ⟨rfl, hbx⟩; have HC2 := Aside0.mk (HC.out.trans (hbx.mono HC.out.size)); clear HC; have HC := HC2; clear HC2 hbx) | (go_at_call 47; (with_reducible refine (ax23 _ (HE.out.below HC.out)).mono ?_); rintro e wx ⟨rfl, hbx⟩; have HC2 := Aside0.mk (HC.out.trans (hbx.mono HC.out.size)); clear HC; have HC := HC2; clear HC2 hbx) | (go_at_call 47; (with_reducible refine (ax24 _ (HE.out.below HC.out)).mono ?_); rintro e wx ⟨rfl, hbx⟩; have HC2 := Aside0.mk (HC.out.trans (hbx.mono HC.out.size)); clear HC; have HC := HC2; clear HC2 hbx) | (go_at_call 29; (with_reducible refine (ax25 _ (HE.out.below HC.out)).mono ?_); rintro e wx ⟨rfl, hbx⟩; have HC2 := Aside0.mk (HC.out.trans (hbx.mono HC.out.size)); clear HC; have HC := HC2; clear HC2 hbx) | (go_at_call 43; (with_reducible refine (ax26 _ (HE.out.below HC.out)).mono ?_); rintro e wx ⟨rfl, hbx⟩; have HC2 := Aside0.mk (HC.out.trans (hbx.mono HC.out.size)); clear HC; have HC := HC2; clear HC2 hbx) | (go_at_call 16; (with_reducible refine (ax27 _ (HE.out.below HC.out)).mono ?_); rintro e wx ⟨rfl, hbx⟩; have HC2 := Aside0.mk (HC.out.trans (hbx.mono HC.out.size)); clear HC; have HC := HC2; clear HC2 hbx) | (go_at_call 18; (with_reducible refine (ax28 _ (HE.out.below HC.out)).mono ?_); rintro e wx ⟨rfl, hbx⟩; have HC2 := Aside0.mk (HC.out.trans (hbx.mono HC.out.size)); clear HC; have HC := HC2; clear HC2 hbx) | (go_at_call 12; (with_reducible refine (ax30 _ (HE.out.below HC.out)).mono ?_); rintro e wx ⟨rfl, hbx⟩; have HC2 := Aside0.mk (HC.out.trans (hbx.mono HC.out.size)); clear HC; have HC := HC2; clear HC2 hbx) | (go_at_call 12; (with_reducible refine (ax31 _ (HE.out.below HC.out)).mono ?_); rintro e wx ⟨rfl, hbx⟩; have HC2 := Aside0.mk (HC.out.trans (hbx.mono HC.out.size)); clear HC; have HC := HC2; clear HC2 hbx) | (go_at_call 12; (with_reducible refine (ax32 _ (HE.out.below HC.out)).mono ?_); rintro e wx ⟨rfl, hbx⟩; have HC2 := Aside0.mk (HC.out.trans (hbx.mono HC.out.size)); clear HC; have HC := HC2; clear HC2 hbx) | (go_at_call 51; (with_reducible refine (ax33 _ (HE.out.below HC.out)).mono ?_); rintro e wx ⟨rfl, hbx⟩; have HC2 := Aside0.mk (HC.out.trans (hbx.mono HC.out.size)); clear HC; have HC := HC2; clear HC2 hbx) | (go_at_call 14; (with_reducible refine (ax34 _ (HE.out.below HC.out)).mono ?_); rintro e wx ⟨rfl, hbx⟩; have HC2 := Aside0.mk (HC.out.trans (hbx.mono HC.out.size)); clear HC; have HC := HC2; clear HC2 hbx))
     go_ret
     exact ⟨rfl, HC.out⟩
end
section
open Go.Proofs.YtillgofjlpjbcaaGreatDoorW.PrintLast Go.Proofs.YtillgofjlpjbcaaGreatDoorW.PrintMore Go.Proofs.YtillgofjlpjbcaaGreatDoorW.PrintWords Go.RowKit Go.Shelf
theorem both_calls (s : ByteArray) (k : Int) (w : World) :
 Calls Tryz.prog 20 #[.string s, .int .i64 k, .string s, .int .i64 k] w fun e w' => e = .returned (.bool true) ∧ w' = w := by
 go_enter Tryz.func20, Tryz.ntmps20
 go_wp2_with fail
 go_ret
 exact ⟨rfl, rfl⟩
theorem long_calls {w : World} {g n : Nat} (ss : List ByteArray) (hn : ss.length = n) (hl : n ≤ 1000) (hc : ∀ j, j < n → w.cell? ⟨g, j, none⟩ = some (.string (ss.getD j ⟨#[]⟩))) :
 Calls Tryz.prog 11 #[.slice (some ⟨g, 0, none⟩) n n] w fun e w' => e = .returned (.bool (ss.any fun s => decide (300 < s.size))) ∧ w' = w := by
 have HC := Aside0.mk hc
 clear hc
 go_enter Tryz.func11, Tryz.ntmps11
 go_wp2_with fail
 go_loopw [7] (fun v7 W => ∃ i : Nat, v7 = .int .i64 (i : Int) ∧ i ≤ n ∧ W = w ∧ Aside0 ((ss.take i).any (fun s => decide (300 < s.size)) = false)) (fun v7 _ => n - (intOf v7).toNat)
 case atStart => exact ⟨0, rfl, Nat.zero_le _, rfl, ⟨by simp⟩⟩
 case round =>
  obtain ⟨i, rfl, hi, rfl, hz⟩ := hrel
  by_cases hlt : i < n
  ·have hci := HC.out i hlt
   have hli : i < ss.length := by omega
   obtain ⟨d, hd⟩ : ∃ d, ss.getD i ⟨#[]⟩ = d := ⟨_, rfl⟩
   rw [hd] at hci
   have hdi : ss[i] = d := by rw [← hd]; simp [List.getD_eq_getElem?_getD, hli]
   have hlt' : (i : Int) < (n : Int) := by omega
   have e1 : IntKind.i64.wrap ((i : Int) + 1) = ((i + 1 : Nat) : Int) := by rw [IntWalk.i64_in _ (by omega)]; omega
   have HD := Aside0.mk hdi
   clear hd hdi
   by_cases h0 : 300 < d.size
   ·have hb : decide ((300 : Int) < (d.size : Int)) = true := decide_eq_true (by omega)
    have HT : Aside0 (ss.any (fun s => decide (300 < s.size)) = true) := ⟨List.any_eq_true.2 ⟨ss[i], List.getElem_mem _, by rw [HD.out]; exact decide_eq_true h0⟩⟩
    go_wp2
    go_ret
    exact ⟨ret_b HT.out.symm, rfl⟩
   ·have hb : decide ((300 : Int) < (d.size : Int)) = false := decide_eq_false (by omega)
    have HT : Aside0 ((ss.take (i + 1)).any (fun s => decide (300 < s.size)) = false) := ⟨by
     rw [List.take_succ_eq_append_getElem hli, List.any_append, hz.out, HD.out]
     simp; omega⟩
    go_wp2
    go_roundw
    case rel => exact ⟨i + 1, by first | rfl | go_num, hlt, by first | rfl | trivial, HT⟩
    case measure => simp [intOf]; omega
  ·obtain rfl : i = n := by omega
   have HT : Aside0 (ss.any (fun s => decide (300 < s.size)) = false) := ⟨by
    have h := hz.out
    rwa [List.take_of_length_le (by omega)] at h⟩
   go_wp2
   go_ret
   exact ⟨ret_b HT.out.symm, rfl⟩
theorem long3_calls (a b c : ByteArray) (z : Bool) (hz : (decide (300 < a.size) || (decide (300 < b.size) || decide (300 < c.size))) = z) (w : World) (g : Nat) (hg : g = w.heap.size) (t : TypeId) : Calls Tryz.prog 11 #[.slice (some ⟨g, 0, none⟩) 3 3] (w.alloc (.cells #[.string a, .string b, .string c] t)) fun e w' => e = .returned (.bool z) ∧ w' = w.alloc (.cells #[.string a, .string b, .string c] t) := by
 subst hz hg
 have h := long_calls (w := w.alloc (.cells #[.string a, .string b, .string c] t)) (g := w.heap.size) [a, b, c] rfl (by simp) (fun j hj => by
  match j, hj with
  | 0, _ => simp
  | 1, _ => simp
  | 2, _ => simp)
 simpa using h
end
section
open Go.Lib Go.Proofs.YtillgofjlpjbcaaGreatDoorW.PrintLast Go.Proofs.YtillgofjlpjbcaaGreatDoorW.PrintMore Go.Proofs.YtillgofjlpjbcaaGreatDoorW.PrintWords Go.RowKit Go.Shelf
theorem parts_law (a b c : ByteArray) (w : World) (hE : EN w) :
 Calls Tryz.prog 9 #[.string a, .string b, .string c] w fun e w' => e = .returned (.bool true) ∧ Below w.heap.size w w' := by
 have HA : Aside0 (∀ W, Below w.heap.size w W → Calls Tryz.prog 10 #[] W fun e w' => e = .returned (.bool true) ∧ Below W.heap.size W w') := ⟨fun W hb => awake_calls W (hE.below hb)⟩
 have HC := Aside0.mk (Below.refl w.heap.size w)
 by_cases hl : (decide (300 < a.size) || (decide (300 < b.size) || decide (300 < c.size))) = true
 ·have HL := Aside0.mk (fun (W : World) (g : Nat) (hg : g = W.heap.size) (t : TypeId) => long3_calls a b c true hl W g hg t)
  clear hE hl
  go_enter Tryz.func9, Tryz.ntmps9
  go_wp2_with (first | (go_at_call 10; (with_reducible refine (HA.out _ HC.out).mono ?_); rintro e wx ⟨rfl, hbx⟩; have HC2 := Aside0.mk (HC.out.trans (hbx.mono HC.out.size)); clear HC; have HC := HC2; clear HC2 hbx) | (go_at_call 11; (with_reducible refine (HL.out _ _ rfl _).mono ?_); rintro e wx ⟨rfl, hwx⟩; rw [hwx]; clear hwx wx; have HC2 := Aside0.mk (below_alloc HC.out (.cells #[.string a, .string b, .string c] 9)); clear HC; have HC := HC2; clear HC2))
  go_ret
  exact ⟨rfl, HC.out⟩
 ·have hl' : (decide (300 < a.size) || (decide (300 < b.size) || decide (300 < c.size))) = false := by simpa using hl
  have HL := Aside0.mk (fun (W : World) (g : Nat) (hg : g = W.heap.size) (t : TypeId) => long3_calls a b c false hl' W g hg t)
  have hs : a.size ≤ 300 ∧ b.size ≤ 300 ∧ c.size ≤ 300 := by simp at hl'; omega
  have ha9 : a.size ≤ 90000 := by omega
  have hb9 : b.size ≤ 90000 := by omega
  have hc9 : c.size ≤ 90000 := by omega
  clear hl hl'
  have P0 := Aside0.mk (fun (W : World) (hb : Below w.heap.size w W) => (show Calls Tryz.prog 51 #[.string a] W (fun e w' => e = .returned (.int .i64 (checkR a)) ∧ Below W.heap.size W w') from checkR_calls a ha9 W (hE.below hb)))
  have Q0 := Aside0.mk (fun (W : World) (hb : Below w.heap.size w W) => (show Calls Tryz.prog 54 #[.string a] W (fun e w' => e = .returned (.int .i64 (checkR a)) ∧ Below W.heap.size W w') from rCheckReal_calls a ha9 W))
  have P1 := Aside0.mk (fun (W : World) (hb : Below w.heap.size w W) => (show Calls Tryz.prog 55 #[.string b, .string c] W (fun e w' => e = .returned (.tuple #[.string (rlS b c), .int .i64 (rlR b c)]) ∧ Below W.heap.size W w') from realR_calls b c hb9 hc9 W (hE.tens.below hb)))
  have Q1 := Aside0.mk (fun (W : World) (hb : Below w.heap.size w W) => (show Calls Tryz.prog 56 #[.string b, .string c] W (fun e w' => e = .returned (.tuple #[.string (rlS b c), .int .i64 (rlR b c)]) ∧ Below W.heap.size W w') from rReal_calls b c hb9 hc9 W))
  have P2 := Aside0.mk (fun (W : World) (hb : Below w.heap.size w W) => (show Calls Tryz.prog 57 #[.string a] W (fun e w' => e = .returned (.tuple #[.string (paS (cutA 47) a), .string (paS (cutB 47) a), .int .i64 (checkR a)]) ∧ Below W.heap.size W w') from parts_calls a ha9 W (hE.below hb)))
  have Q2 := Aside0.mk (fun (W : World) (hb : Below w.heap.size w W) => (show Calls Tryz.prog 58 #[.string a] W (fun e w' => e = .returned (.tuple #[.string (paS (cutA 47) a), .string (paS (cutB 47) a), .int .i64 (checkR a)]) ∧ Below W.heap.size W w') from rParts_calls a ha9 W))
  have P3 := Aside0.mk (fun (W : World) (hb : Below w.heap.size w W) => (show Calls Tryz.prog 59 #[.string a] W (fun e w' => e = .returned (.tuple #[.string (fdS a), .int .i64 (fdR a)]) ∧ Below W.heap.size W w') from fromDecimal_calls a ha9 W (hE.below hb)))
  have Q3 := Aside0.mk (fun (W : World) (hb : Below w.heap.size w W) => (show Calls Tryz.prog 60 #[.string a] W (fun e w' => e = .returned (.tuple #[.string (fdS a), .int .i64 (fdR a)]) ∧ Below W.heap.size W w') from rFromDecimal_calls a ha9 W))
  have P4 := Aside0.mk (fun (W : World) (hb : Below w.heap.size w W) => (show Calls Tryz.prog 53 #[.string a] W (fun e w' => e = .returned (.tuple #[.string (flS a), .int .i64 (flR a)]) ∧ Below W.heap.size W w') from floor_calls a ha9 W (hE.below hb)))
  have Q4 := Aside0.mk (fun (W : World) (hb : Below w.heap.size w W) => (show Calls Tryz.prog 61 #[.string a] W (fun e w' => e = .returned (.tuple #[.string (flS a), .int .i64 (flR a)]) ∧ Below W.heap.size W w') from rFloor_calls a ha9 W))
  clear hE hs ha9 hb9 hc9
  generalize checkR a = v0 at *
  generalize rlS b c = v1 at *
  generalize rlR b c = v2 at *
  generalize paS (cutA 47) a = v3 at *
  generalize paS (cutB 47) a = v4 at *
  generalize fdS a = v5 at *
  generalize fdR a = v6 at *
  generalize flS a = v7 at *
  generalize flR a = v8 at *
  go_enter Tryz.func9, Tryz.ntmps9
  go_wp2_with (first | (go_at_call 10; (with_reducible refine (HA.out _ HC.out).mono ?_); rintro e wx ⟨rfl, hbx⟩; have HC2 := Aside0.mk (HC.out.trans (hbx.mono HC.out.size)); clear HC; have HC := HC2; clear HC2 hbx) | (go_at_call 11; (with_reducible refine (HL.out _ _ rfl _).mono ?_); rintro e wx ⟨rfl, hwx⟩; rw [hwx]; clear hwx wx; have HC2 := Aside0.mk (below_alloc HC.out (.cells #[.string a, .string b, .string c] 9)); clear HC; have HC := HC2; clear HC2) | (go_at_call 20; (with_reducible refine (both_calls _ _ _).mono ?_); rintro e wx ⟨rfl, hwx⟩; rw [hwx]; clear hwx wx) | (go_at_call 51; (with_reducible refine (P0.out _ HC.out).mono ?_); rintro e wx ⟨rfl, hbx⟩; have HC2 := Aside0.mk (HC.out.trans (hbx.mono HC.out.size)); clear HC; have HC := HC2; clear HC2 hbx) | (go_at_call 54; (with_reducible refine (Q0.out _ HC.out).mono ?_); rintro e wx ⟨rfl, hbx⟩; have HC2 := Aside0.mk (HC.out.trans (hbx.mono HC.out.size)); clear HC; have HC := HC2; clear HC2 hbx) | (go_at_call 55; (with_reducible refine (P1.out _ HC.out).mono ?_); rintro e wx ⟨rfl, hbx⟩; have HC2 := Aside0.mk (HC.out.trans (hbx.mono HC.out.size)); clear HC; have HC := HC2; clear HC2 hbx) | (go_at_call 56; (with_reducible refine (Q1.out _ HC.out).mono ?_); rintro e wx ⟨rfl, hbx⟩; have HC2 := Aside0.mk (HC.out.trans (hbx.mono HC.out.size)); clear HC; have HC := HC2; clear HC2 hbx) | (go_at_call 57; (with_reducible refine (P2.out _ HC.out).mono ?_); rintro e wx ⟨rfl, hbx⟩; have HC2 := Aside0.mk (HC.out.trans (hbx.mono HC.out.size)); clear HC; have HC := HC2; clear HC2 hbx) | (go_at_call 58; (with_reducible refine (Q2.out _ HC.out).mono ?_); rintro e wx ⟨rfl, hbx⟩; have HC2 := Aside0.mk (HC.out.trans (hbx.mono HC.out.size)); clear HC; have HC := HC2; clear HC2 hbx) | (go_at_call 59; (with_reducible refine (P3.out _ HC.out).mono ?_); rintro e wx ⟨rfl, hbx⟩; have HC2 := Aside0.mk (HC.out.trans (hbx.mono HC.out.size)); clear HC; have HC := HC2; clear HC2 hbx) | (go_at_call 60; (with_reducible refine (Q3.out _ HC.out).mono ?_); rintro e wx ⟨rfl, hbx⟩; have HC2 := Aside0.mk (HC.out.trans (hbx.mono HC.out.size)); clear HC; have HC := HC2; clear HC2 hbx) | (go_at_call 53; (with_reducible refine (P4.out _ HC.out).mono ?_); rintro e wx ⟨rfl, hbx⟩; have HC2 := Aside0.mk (HC.out.trans (hbx.mono HC.out.size)); clear HC; have HC := HC2; clear HC2 hbx) | (go_at_call 61; (with_reducible refine (Q4.out _ HC.out).mono ?_); rintro e wx ⟨rfl, hbx⟩; have HC2 := Aside0.mk (HC.out.trans (hbx.mono HC.out.size)); clear HC; have HC := HC2; clear HC2 hbx))
  go_ret
  exact ⟨rfl, HC.out⟩
end
section
open Go.ChangeAt Go.ChangeShapes Go.Proofs.YtillgofjlpjbcaaGreatDoorW.PrintLast Go.Proofs.YtillgofjlpjbcaaGreatDoorW.PrintMore Go.Proofs.YtillgofjlpjbcaaGreatDoorW.PrintWords Go.RowKit Go.WideShapes
/-- The variables that the rows list. -/
def laidL : List (String × DataW Unit) := [("math/bits.deBruijn32tab", Rows.laid_math_bits_deBruijn32tab), ("math/bits.deBruijn64tab", Rows.laid_math_bits_deBruijn64tab), ("internal/strconv.uint64pow10", Rows.laid_internal_strconv_uint64pow10), ("strconv.ErrRange", Rows.laid_strconv_ErrRange), ("strconv.ErrSyntax", Rows.laid_strconv_ErrSyntax), ("entail/num.bitOps", Rows.laid_entail_num_bitOps)]
theorem mln_of {W : World} (h : W.ShapedOpen Tryz.prog) : ∃ m, W.cell? ⟨4, 0, none⟩ = some (.int .i64 m) := by
 obtain ⟨cs, hh, hs, hr⟩ := h.1 4 #[.int .i64 0] 3 (by decide +kernel) (by kernel_rfl)
 obtain ⟨ts, hts, _, hall⟩ := hr (by kernel_rfl)
 have hts2 : Tryz.prog.cellTypes Tryz.prog.depth 3 = some [3] := by kernel_rfl
 rw [hts2] at hts
 cases hts
 have h1 : 0 < cs.size := by rw [hs]; decide
 obtain ⟨u, hu', hok⟩ := hall 0 cs[0] (Array.getElem?_eq_getElem h1)
 have : u = 3 := (Option.some.inj (show some 3 = some u from hu')).symm
 subst this
 have hcell : W.cell? ⟨4, 0, none⟩ = some cs[0] := by
  unfold World.cell?
  rw [hh]
  exact Array.getElem?_eq_getElem h1
 rw [hcell]
 unfold Cell.ok at hok
 rw [Tryz.underlying3] at hok
 cases hv : cs[0] <;> rw [hv] at hok <;> first | (simp at hok; done) | (rename_i k a; simp at hok; exact ⟨a, by rw [hok.1]⟩) | skip
theorem iface_of_trod {P : Program} {w : World} {fuel : Nat} {t : TypeId} {ms : Array (String × TypeId)} {cs : List Value} {name : String} {d : DataW Unit} {p : List MemPlace} (hu : P.underlying t = some (.interface ms))
 (h : DataW.trod (fun _ => ()) P w 0 (fun _ => true) false fuel t cs = some (.iface name d, p)) : ∃ tp q, cs = [.iface tp q] := by
 cases fuel with
 | zero => simp [DataW.trod] at h
 | succ f =>
   unfold DataW.trod at h
   rw [hu] at h
   cases cs with
   | nil => simp at h
   | cons v r =>
     cases r with
     | cons v' r' => cases v <;> simp at h
     | nil =>
       cases v <;> simp at h
       exact ⟨_, _, rfl⟩
theorem err_of {P : Program} {W : World} {n : String} {ms : Array (String × TypeId)} {g t : Nat} {name : String} {d : DataW Unit} (hn : P.globalNamed n = some g) (ht : (P.globals[g]?).map (·.type) = some t) (hu : P.underlying t = some (.interface ms))
 (h : Lib.VarReads P W n (.iface name d)) : ∃ tp p, W.var? P n = some #[.iface tp p] := by
 obtain ⟨g', t', cs, fuel, p, h1, h2, h3, h4⟩ := h
 obtain rfl := Option.some.inj (hn.symm.trans h1)
 obtain rfl := Option.some.inj (ht.symm.trans h2)
 obtain ⟨tp, q, e⟩ := iface_of_trod hu h4
 exact ⟨tp, q, by rw [h3]; congr 1; exact Array.eq_one_of_toList e⟩
theorem tens_of {P : Program} {W : World} {n : String} {g t e m : Nat} {k : IntKind} {zs : List Int} (hn : P.globalNamed n = some g) (ht : (P.globals[g]?).map (·.type) = some t) (hu : P.underlying t = some (.array m e)) (he : P.underlying e = some (.int k)) (hce : P.cellsOf e = 1) (hct : P.cellsOf t = m)
 (h : Lib.VarReads P W n (Lib.tabData k zs)) : Lib.TabIs P W n k zs := by
 obtain ⟨g', t', cs, fuel, p, h1, h2, h3, h4⟩ := h
 obtain rfl := Option.some.inj (hn.symm.trans h1)
 obtain rfl := Option.some.inj (ht.symm.trans h2)
 have := Lib.cells_of_tab hu he hce hct h4
 unfold Lib.TabIs
 rw [h3, ← this]
/-- The operations' table, cell for cell. -/
theorem ops_of {P : Program} {W : World} {n : String} {g t e tf tb m : Nat} {f0 f1 : Field} {fs : Array Field} {ps rs : Array TypeId} {va : Bool} {ds : List (DataW Unit)} {names : List (UInt8 × List UInt8 × Bool)}
 (hn : P.globalNamed n = some g) (ht : (P.globals[g]?).map (·.type) = some t) (hu : P.underlying t = some (.array m e)) (he : P.underlying e = some (.struct fs)) (hfs : fs.size = 2) (hf0 : fs[0]? = some f0) (hf1 : fs[1]? = some f1)
 (h00 : f0.offset = 0) (h10 : f1.offset = 1) (ht0 : f0.type = tf) (ht1 : f1.type = tb) (hcf : P.cellsOf tf = 1) (hcb : P.cellsOf tb = 1) (hce : P.cellsOf e = 2) (hct : P.cellsOf t = m * 2) (huf : P.underlying tf = some (.func ps rs va)) (hub : P.underlying tb = some .bool)
 (hd : DataW.funcsOut (.agg ds) = .agg (names.map fun x => .agg [.held (x.1 :: x.2.1), .lit (.bool x.2.2)])) (hnl : names.length = m)
 (h : funcsAt P W n (.agg ds)) : ∀ (i : Nat) (x : UInt8 × List UInt8 × Bool), names[i]? = some x → ∀ f, ((List.range P.funcs.size).filter fun f => (P.funcs[f]?).any (·.name.toUTF8.data.toList == x.1 :: x.2.1)) = [f] →
   W.cell? ⟨g, 2 * i, none⟩ = some (.func (.func f) #[] #[]) ∧ W.cell? ⟨g, 2 * i + 1, none⟩ = some (.bool x.2.2) := by
 obtain ⟨g', t', cs, fuel, p, h1, h2, h3, h4⟩ := h
 obtain rfl := Option.some.inj (hn.symm.trans h1)
 obtain rfl := Option.some.inj (ht.symm.trans h2)
 rw [hd] at h4
 intro i x hx f hf
 obtain ⟨xs, k, rfl, hxs, hl, hxl, hall⟩ := DataW.trod_array hu h4
 have hi : i < m := by rw [← hnl]; exact (List.getElem?_eq_some_iff.1 hx).1
 have hxe : xs.map (·.1) = names.map fun x => (.agg [.held (x.1 :: x.2.1), .lit (.bool x.2.2)] : DataW (List UInt8)) := by
  have := congrArg Prod.fst hxs
  simpa using this.symm
 have h5 := hall i hi
 obtain ⟨y, hy⟩ : ∃ y, xs[i]? = some y := ⟨xs[i]'(by omega), List.getElem?_eq_getElem (by omega)⟩
 rw [hy, hce] at h5
 have hy1 : y.1 = .agg [.held (x.1 :: x.2.1), .lit (.bool x.2.2)] := by
  have h6 : (xs.map (·.1))[i]? = some y.1 := by simp [hy]
  rw [hxe] at h6
  simp only [List.getElem?_map, hx, Option.map_some, Option.some.injEq] at h6
  exact h6.symm
 obtain ⟨zs, k2, rfl, hz, hzl, hzs, hzall⟩ := DataW.trod_struct he h5
 have hz1 : zs.map (·.1) = [.held (x.1 :: x.2.1), .lit (.bool x.2.2)] := by
  have := congrArg Prod.fst hz
  rw [hy1] at this
  simpa using this.symm
 have a0 := hzall 0 f0 hf0
 have a1 := hzall 1 f1 hf1
 rw [h00, ht0, hcf] at a0
 rw [h10, ht1, hcb] at a1
 obtain ⟨z0, z1, rfl⟩ : ∃ z0 z1, zs = [z0, z1] := by
  have hzl2 : zs.length = 2 := by have := congrArg List.length hz1; simpa using this
  match zs, hzl2 with
  | [z0, z1], _ => exact ⟨z0, z1, rfl⟩
 ·simp only [List.map_cons, List.map_nil, List.cons.injEq, and_true] at hz1
  simp only [List.getElem?_cons_zero, List.getElem?_cons_succ] at a0 a1
  have hcl : cs.toList.length = m * 2 := by rw [hl, hct]
  have hlt0 : i * 2 < cs.toList.length := by omega
  have hlt1 : i * 2 + 1 < cs.toList.length := by omega
  have b0 : ((cs.toList.drop (i * 2)).take 2).drop 0 = [cs.toList[i * 2], cs.toList[i * 2 + 1]] := by
   rw [List.drop_eq_getElem_cons hlt0, List.drop_eq_getElem_cons hlt1]; rfl
  have b1 : (((cs.toList.drop (i * 2)).take 2).drop 0).take 1 = [cs.toList[i * 2]] := by rw [b0]; rfl
  have b2 : (((cs.toList.drop (i * 2)).take 2).drop 1).take 1 = [cs.toList[i * 2 + 1]] := by
   rw [show ((cs.toList.drop (i * 2)).take 2).drop 1 = (((cs.toList.drop (i * 2)).take 2).drop 0).drop 1 by simp, b0]; rfl
  rw [b1] at a0
  rw [b2] at a1
  have c0 := func_of_trod (v := cs.toList[i * 2]) huf hf (q := z0.2) (by rw [a0]; rw [← hz1.1])
  have c1 : cs.toList[i * 2 + 1] = .bool x.2.2 := by
   cases k2 with
   | zero => simp [DataW.trod] at a1
   | succ k3 =>
     unfold DataW.trod at a1
     rw [hub] at a1
     cases hv : cs.toList[i * 2 + 1] <;> rw [hv] at a1 <;> simp at a1
     have := congrArg Prod.fst a1
     rw [hz1.2] at this
     simp at this
     rw [this]
  have v0 := World.var?_cell h1 h3 (i * 2)
  have v1 := World.var?_cell h1 h3 (i * 2 + 1)
  rw [Nat.mul_comm 2 i]
  rw [v0, v1, ← Array.getElem?_toList, ← Array.getElem?_toList, List.getElem?_eq_getElem hlt0, List.getElem?_eq_getElem hlt1, c0, c1]
  exact ⟨rfl, rfl⟩
def opNames : List (UInt8 × List UInt8 × Bool) := [(101, [110, 116, 97, 105, 108, 47, 110, 117, 109, 46, 98, 105, 116, 79, 112, 115, 36, 49], false), (101, [110, 116, 97, 105, 108, 47, 110, 117, 109, 46, 98, 105, 116, 79, 112, 115, 36, 50], false), (101, [110, 116, 97, 105, 108, 47, 110, 117, 109, 46, 98, 105, 116, 79, 112, 115, 36, 51], false), (101, [110, 116, 97, 105, 108, 47, 110, 117, 109, 46, 98, 105, 116, 79, 112, 115, 36, 52], true), (101, [110, 116, 97, 105, 108, 47, 110, 117, 109, 46, 98, 105, 116, 79, 112, 115, 36, 53], true), (101, [110, 116, 97, 105, 108, 47, 110, 117, 109, 46, 98, 105, 116, 79, 112, 115, 36, 54], false), (101, [110, 116, 97, 105, 108, 47, 110, 117, 109, 46, 98, 105, 116, 79, 112, 115, 36, 55], false), (101, [110, 116, 97, 105, 108, 47, 110, 117, 109, 46, 98, 105, 116, 79, 112, 115, 36, 56], false), (101, [110, 116, 97, 105, 108, 47, 110, 117, 109, 46, 98, 105, 116, 79, 112, 115, 36, 57], false), (101, [110, 116, 97, 105, 108, 47, 110, 117, 109, 46, 98, 105, 116, 79, 112, 115, 36, 49, 48], false)]
def opsD : List (DataW Unit) := match (Rows.laid_entail_num_bitOps : DataW Unit) with
 | .iface _ (.agg l) => l
 | _ => []
theorem opsD_eq : (Rows.laid_entail_num_bitOps : DataW Unit) = .iface "func table" (.agg opsD) := rfl
theorem opsD_out : DataW.funcsOut (.agg opsD) = .agg (opNames.map fun x => .agg [.held (x.1 :: x.2.1), .lit (.bool x.2.2)]) := rfl
theorem opG : Tryz.prog.globalNamed "entail/num.bitOps" = some 0 := by kernel_rfl
theorem opT : (Tryz.prog.globals[0]?).map (·.type) = some 130 := by kernel_rfl
theorem ops_laid {W : World} (h : funcsAt Tryz.prog W "entail/num.bitOps" (.agg opsD)) : ∀ j : Nat, j < 10 → W.cell? ⟨0, 2 * j, none⟩ = some (.func (.func (221 + j)) #[] #[]) ∧ W.cell? ⟨0, 2 * j + 1, none⟩ = some (.bool (decide (j = 3 ∨ j = 4))) := by
 have H := ops_of (P := Tryz.prog) (W := W) (m := 10) (tf := 128) (tb := 4) opG opT Tryz.underlying130 Tryz.underlying129 rfl rfl rfl rfl rfl rfl rfl (by kernel_rfl) (by kernel_rfl) (by kernel_rfl) (by kernel_rfl) Tryz.underlying128 Tryz.underlying4 opsD_out rfl h
 intro j hj
 match j, hj with
 | 0, _ => exact H 0 _ rfl (221 + 0) (by kernel_rfl)
 | 1, _ => exact H 1 _ rfl (221 + 1) (by kernel_rfl)
 | 2, _ => exact H 2 _ rfl (221 + 2) (by kernel_rfl)
 | 3, _ => exact H 3 _ rfl (221 + 3) (by kernel_rfl)
 | 4, _ => exact H 4 _ rfl (221 + 4) (by kernel_rfl)
 | 5, _ => exact H 5 _ rfl (221 + 5) (by kernel_rfl)
 | 6, _ => exact H 6 _ rfl (221 + 6) (by kernel_rfl)
 | 7, _ => exact H 7 _ rfl (221 + 7) (by kernel_rfl)
 | 8, _ => exact H 8 _ rfl (221 + 8) (by kernel_rfl)
 | 9, _ => exact H 9 _ rfl (221 + 9) (by kernel_rfl)
theorem laidL_data : (laidL.filter fun x => x.2.handleName?.isNone) = [("math/bits.deBruijn32tab", Rows.laid_math_bits_deBruijn32tab), ("math/bits.deBruijn64tab", Rows.laid_math_bits_deBruijn64tab), ("internal/strconv.uint64pow10", Rows.laid_internal_strconv_uint64pow10), ("strconv.ErrRange", Rows.laid_strconv_ErrRange), ("strconv.ErrSyntax", Rows.laid_strconv_ErrSyntax)] := by kernel_rfl
theorem laidL_hand : (laidL.filter fun x => x.2.handleName?.isSome) = [("entail/num.bitOps", Rows.laid_entail_num_bitOps)] := by kernel_rfl
theorem laidH_data {W : World} (h : laidMetH Tryz.prog laidL W) : laidMet Tryz.prog [("math/bits.deBruijn32tab", Rows.laid_math_bits_deBruijn32tab), ("math/bits.deBruijn64tab", Rows.laid_math_bits_deBruijn64tab), ("internal/strconv.uint64pow10", Rows.laid_internal_strconv_uint64pow10), ("strconv.ErrRange", Rows.laid_strconv_ErrRange), ("strconv.ErrSyntax", Rows.laid_strconv_ErrSyntax)] W := by
 unfold laidMetH at h
 rw [laidL_hand, laidL_data] at h
 exact h.1
theorem pow10D : (Rows.laid_internal_strconv_uint64pow10 : DataW Unit) = Lib.tabData .u64 Lib.pow10Tab := by kernel_rfl
theorem env_of {W : World} (h : laidMetH Tryz.prog laidL W) (hsh : W.ShapedOpen Tryz.prog) : EN W := by
 have hd := laidH_data h
 have hf : funcsAt Tryz.prog W "entail/num.bitOps" (.agg opsD) := h.funcs (by rw [← opsD_eq]; unfold laidL; simp)
 have r1 := Lib.laidMet.reads hd (n := "internal/strconv.uint64pow10") (d := Rows.laid_internal_strconv_uint64pow10) (by simp)
 have r2 := Lib.laidMet.reads hd (n := "strconv.ErrRange") (d := Rows.laid_strconv_ErrRange) (by simp)
 have r3 := Lib.laidMet.reads hd (n := "strconv.ErrSyntax") (d := Rows.laid_strconv_ErrSyntax) (by simp)
 rw [pow10D] at r1
 exact ⟨tens_of (P := Tryz.prog) (g := 1) (by kernel_rfl) (by kernel_rfl) Tryz.underlying203 Tryz.underlying54 (by kernel_rfl) (by kernel_rfl) r1, mln_of hsh,
  err_of (P := Tryz.prog) (g := 2) (by kernel_rfl) (by kernel_rfl) Tryz.underlying80 r3, err_of (P := Tryz.prog) (g := 3) (by kernel_rfl) (by kernel_rfl) Tryz.underlying80 r2, ops_laid hf⟩
theorem args_below {H : Type} {enc : TypeId × Value → H} {P : Program} (hl : laidOutB P = true) {W W' : World} (hb : Below W.heap.size W W') :
 ∀ {ts : List TypeId} {vs : List Value} {ds : List (DataW H)} {ps : List MemPlace}, (ts.all fun t => P.readableRec t && decide (t < P.types.size)) = true → (∀ x ∈ ps, x.block < W.heap.size) →
  DataW.TrodAll enc P W 0 (fun _ => true) true ts vs ds ps → DataW.TrodAll enc P W' 0 (fun b => decide (b < W.heap.size)) true ts vs ds ps
 | [], [], [], _, _, _, h => h
 | t :: ts, v :: vs, d :: ds, _, ht, hlt, ⟨p, q, h1, h2, e⟩ => by
   simp only [List.all_cons, Bool.and_eq_true, decide_eq_true_eq] at ht
   exact ⟨p, q, Below.trod hl ht.1.1 ht.1.2 h1 hb (fun x hx => hlt x (by rw [e]; exact List.mem_append_left _ hx)), args_below hl hb (by rw [List.all_eq_true]; intro x hx; simpa using List.all_eq_true.mp ht.2 x hx) (fun x hx => hlt x (by rw [e]; exact List.mem_append_right _ hx)) h2, e⟩
theorem post_law {H : Type} {enc : TypeId × Value → H} {P : Program} {f : Func} {s : ChangeSpec} {W W' : World} {args : Array Value} {ds gs : List (DataW H)} {before : List MemPlace} (hl : laidOutB P = true) (h4 : P.underlying 4 = some .bool)
 (hW : DataW.Whole enc P f.params.toList s.vars false W args.toList ds gs before) (ht : (f.params.toList.all fun t => P.readableRec t && decide (t < P.types.size)) = true)
 (hv : s.vars = []) (hs : s.fn H ds = { results := [.lit (.bool true)], args := ds }) (hr : f.resultTypes = #[4]) (hb : Below W.heap.size W W') :
 s.post enc P f false true false false W args (.bool true) W' := by
 have hlt : ∀ p ∈ before, p.block < W.heap.size := fun p hp => hW.lt p hp
 have hW' := hW
 obtain ⟨p, q, hA, hV, rfl, _, _⟩ := hW
 rw [hv] at hV
 obtain ⟨rfl, rfl⟩ := trodVars_none hV
 rw [List.append_nil] at hlt hW'
 refine ⟨ds, [], p, [], p, [], hW', ?_, ?_, ?_, World.keptBut_mono (fun x hx => ⟨hx, .inr (.inl hx)⟩) (hb.frame (· ∈ p)), fun h => by cases h⟩
 ·rw [List.append_nil, hs, hr]
  exact trodAll_cons_mk (shut_bool h4 _) trodAll_mk0
 ·rw [List.append_nil, hs]
  exact args_below hl hb ht hlt hA
 ·rw [List.append_nil, hs, hv]
  trivial
theorem laidOut : laidOutB Tryz.prog = true := by kernel_rfl
theorem ownK : ownKnob Tryz.prog.godebug = none := by kernel_rfl
end
end Go.Proofs.YtillgofjlpjbcaaGreatDoor.Nm
