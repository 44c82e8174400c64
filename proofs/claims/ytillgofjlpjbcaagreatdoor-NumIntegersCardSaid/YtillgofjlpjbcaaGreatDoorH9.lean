import Derived.Test.YtillgofjlpjbcaaGreatDoorH8
import Derived.Test.YtillgofjlpjbcaaGreatDoorH7
import Derived.Test.YtillgofjlpjbcaaGreatDoorH2
/- Own text: contracts and laws on which the card rests (RaS RaV RaN NnQ). -/
set_option linter.unusedVariables false
set_option linter.unusedSimpArgs false
set_option maxRecDepth 1000000
set_option maxHeartbeats 16000000
namespace Go.Proofs.YtillgofjlpjbcaaGreatDoor.Nm
section
open Go.Proofs.YtillgofjlpjbcaaGreatDoorW.PrintLast Go.Proofs.YtillgofjlpjbcaaGreatDoorW.PrintMore Go.Proofs.YtillgofjlpjbcaaGreatDoorW.PrintWords Go.RowKit Go.Shelf
theorem RM.rl {W : World} {A : Option Addr} {L n : Nat} (h : RM W A L n) : RL W A L (dg QQ n) := h
theorem RM.val {W : World} {A : Option Addr} {L n n' : Nat} (h : RM W A L n) (e : n = n') : RM W A L n' := by subst e; exact h
theorem lead_form {W X : World} {v : Value} {a k R : Nat} {A : Option Addr} {Y : World} (h : Kd.R (Kd.int .i64) 3 W X.heap.size (fun _ => True) v ([(a : Int)] ++ li (dg QQ R))) (hm : RM Y A k R) :
 ∃ g c, v = .slice (some ⟨g, 0, none⟩) (k + 1) c ∧ X.heap.size ≤ g ∧ k + 1 ≤ c ∧ Aside0 (RL W (some ⟨g, 0, none⟩) (k + 1) (a :: dg QQ R)) := by
 obtain ⟨g, c, e, hg, _, _⟩ := Kd.R_form h (by simp)
 have hl : ([(a : Int)] ++ li (dg QQ R)).length = k + 1 := by rw [List.length_append, li_len, hm.len]; exact Nat.add_comm _ _
 have h2 := h
 rw [e] at h2
 have h3 := Kd.R_reads' h2
 rw [hl] at e h3
 exact ⟨g, c, e, hg, h3.2.1, ⟨h3.2.2⟩⟩
theorem mid_facts {lo hi mid : Nat} (h : (lo + hi + 1) / 2 = mid) (h1 : lo < hi) (h9 : hi ≤ 9999) (q : Nat) : (lo ≤ mid - 1 ∧ mid - 1 ≤ 9999 ∧ mid ≤ hi) ∧ (((mid - 1 : Nat) : Int) - (lo : Int)).toNat < ((hi : Int) - (lo : Int)).toNat ∧ ((hi : Int) - (mid : Int)).toNat < ((hi : Int) - (lo : Int)).toNat ∧ (¬ mid ≤ q → q ≤ mid - 1) :=
 ⟨by omega, by omega, by omega, by omega⟩
theorem tops_lt {b : Nat} (hb : 1 < b) (n l i : Nat) : ∀ d ∈ tops b n l i, d < b := by
 intro d hd
 obtain ⟨j, _, rfl⟩ := List.mem_map.1 hd
 split
 ·omega
 ·exact Nat.mod_lt _ (by omega)
theorem rover_calls {w : World} {A1 A2 : Option Addr} {L1 L2 c1 c2 m n : Nat} (h1 : RM w A1 L1 m) (h2 : RM w A2 L2 n) (h0 : 0 < n) (hL1 : L1 ≤ 40000) (hL2 : L2 ≤ 40000) :
 Calls Tryz.prog 152 #[.slice A1 L1 c1, .slice A2 L2 c2] w fun e w' => ∃ A k c A' k' c', e = .returned (.tuple #[.slice A k c, .slice A' k' c']) ∧ k ≤ c ∧ k' ≤ c' ∧ RM w' A k (m / n) ∧ RM w' A' k' (m % n) ∧ Below w.heap.size w w' := by
 have HM : Aside0 (m < QQ ^ L1) := ⟨by have := dg_lt_pow QQ1 m; rwa [h1.len] at this⟩
 have HN : Aside0 (n < QQ ^ L2) := ⟨by have := dg_lt_pow QQ1 n; rwa [h2.len] at this⟩
 have H1 := h1.at_below
 have H2 := h2.at_below
 have hmk := make_int (L1 : Int) L1 rfl (by omega)
 have hu77 := bigF1
 clear h1 h2
 go_enter Tryz.func152, Tryz.ntmps152
 go_wp2_with fail
 have HG : Aside0 (RowI (w.alloc (zerosI L1)) w.heap.size (tops QQ (m / n) L1 L1) ∧ Below w.heap.size w (w.alloc (zerosI L1))) := ⟨by
  rw [tops_beyond (Nat.lt_of_le_of_lt (Nat.div_le_self _ _) HM.out) QQ1]
  exact ⟨rowI_zeros w L1, below_alloc (Below.refl _ _) _⟩⟩
 clear hmk
 go_loopw [7, 8] (fun v7 v8 W => ∃ (j : Nat) (Ar : Option Addr) (kr cr : Nat), v7 = .slice Ar kr cr ∧ v8 = .int .i64 ((j : Int) - 1) ∧ j ≤ L1 ∧ kr ≤ cr ∧ Aside0 (RM W Ar kr (m / QQ ^ j % n)) ∧ Aside0 (RowI W w.heap.size (tops QQ (m / n) L1 j)) ∧ Aside0 (Below w.heap.size w W)) (fun _ v8 _ => (intOf v8 + 1).toNat)
 case atStart => exact ⟨L1, none, 0, 0, rfl, by first | rfl | go_num, Nat.le_refl _, Nat.le_refl _, ⟨(RM.zero _).val (by rw [Nat.div_eq_of_lt HM.out, Nat.zero_mod])⟩, ⟨HG.out.1⟩, ⟨HG.out.2⟩⟩
 case round =>
  obtain ⟨j, Ar, kr, cr, rfl, rfl, hj, hkr, HR, HRw, HBX⟩ := hrel
  obtain ⟨X, rfl⟩ : ∃ X, X = wr := ⟨_, rfl⟩
  rcases Nat.eq_zero_or_pos j with rfl | hj0
  ·have g1 : ¬ (0 : Int) ≤ ((0 : Nat) : Int) - 1 := by decide
   have HRF : Aside0 (RM X Ar kr (m % n)) := ⟨HR.out.val (by simp)⟩
   have HF : Aside0 (RL X (some ⟨w.heap.size, 0, none⟩) L1 (tops QQ (m / n) L1 0) ∧ (∀ d ∈ tops QQ (m / n) L1 0, d < QQ) ∧ Go.Proofs.YtillgofjlpjbcaaGreatDoor.Nm.val QQ (tops QQ (m / n) L1 0) = m / n) := ⟨by
    have h := HRw.out.rl (by rw [tops_length]; omega)
    rw [tops_length] at h
    refine ⟨h, tops_lt QQ1 _ _ _, ?_⟩
    rw [tops_full, val_digs QQ1]
    exact Nat.mod_eq_of_lt (Nat.lt_of_le_of_lt (Nat.div_le_self _ _) HM.out)⟩
   clear HR
   go_wp2_with (go_at_call 137; (with_reducible refine (rtrim_sign HF.out.1 (Nat.le_refl _) HF.out.2.1 false).mono ?_); rintro e X2 ⟨k6, g6, rfl, hg6, hk6, hm6, hbq⟩; have HM6 := Aside0.mk (And.intro hk6 (hm6.val HF.out.2.2)); have HB6 := Aside0.mk hbq; clear hg6 hk6 hm6 hbq)
   repeat (go_quiet (fail); try go_wp2)
   go_ret2
   exact ⟨_, k6, L1, Ar, kr, cr, rfl, HM6.out.1, hkr, HM6.out.2, HRF.out.below HB6.out, HBX.out.trans (HB6.out.mono HBX.out.size)⟩
  ·obtain ⟨j, rfl⟩ : ∃ i, j = i + 1 := ⟨j - 1, by omega⟩
   have ej : ((j + 1 : Nat) : Int) - 1 = (j : Int) := by omega
   rw [ej]
   clear ej
   obtain ⟨ad, hA, hc⟩ := (H1.out _ HBX.out).at (i := j) (by omega)
   subst hA
   obtain ⟨a, ha⟩ : ∃ a, m / QQ ^ j % QQ = a := ⟨_, rfl⟩
   rw [ha] at hc
   have ha1 : a < QQ := by rw [← ha]; exact Nat.mod_lt _ (by decide)
   obtain ⟨R, hR⟩ : ∃ R, m / QQ ^ (j + 1) % n = R := ⟨_, rfl⟩
   obtain ⟨R1, hR1⟩ : ∃ R1, R * QQ + a = R1 := ⟨_, rfl⟩
   obtain ⟨q, hq⟩ : ∃ q, R1 / n = q := ⟨_, rfl⟩
   have hstep := quo_step (m := m) (i := j) QQ1 h0
   rw [hR, ha, hR1, hq] at hstep
   have HRR : Aside0 (RM X Ar kr R) := ⟨HR.out.val hR⟩
   have HBND : Aside0 (R1 < QQ ^ (L2 + 1)) := ⟨Nat.lt_of_lt_of_le hstep.2.2 (by rw [Nat.pow_succ]; exact Nat.mul_le_mul_right _ (Nat.le_of_lt HN.out))⟩
   have HVV : Aside0 (Go.Proofs.YtillgofjlpjbcaaGreatDoor.Nm.val QQ (a :: dg QQ R) = R1) := ⟨by rw [Go.Proofs.YtillgofjlpjbcaaGreatDoor.Nm.val, val_dg QQ1, ← hR1, Nat.mul_comm]; omega⟩
   have HDD : Aside0 (∀ d ∈ a :: dg QQ R, d < QQ) := ⟨fun d hd => by
    rcases List.mem_cons.1 hd with h | h
    ·rw [h]; exact ha1
    ·exact dg_lt QQ1 _ d h⟩
   have HRow : Aside0 (∀ W, Below X.heap.size X W → RowI W w.heap.size (tops QQ (m / n) L1 (j + 1))) := ⟨fun W hb => HRw.out.keep hb⟩
   have hq9 : q ≤ 9999 := by
    have : q < 10000 := by rw [← hq]; exact Nat.div_lt_of_lt_mul hstep.2.2
    omega
   have HQS : Aside0 (q = m / n / QQ ^ j % QQ ∧ (q = 0 → m / QQ ^ j % n = R1) ∧ n * q ≤ R1 ∧ R1 - n * q = m / QQ ^ j % n) := ⟨hstep.1, fun e => by
    have := Nat.mod_add_div R1 n
    rw [hq, e, hstep.2.1] at this
    simpa using this, by rw [← hq]; exact Nat.mul_div_le R1 n, by
    have := Nat.mod_add_div R1 n
    rw [hq, hstep.2.1] at this
    omega⟩
   have hkr9 : kr ≤ 50000 := by
    have h := HRR.out.bound (k := L2) (Nat.lt_trans (by rw [← hR]; exact Nat.mod_lt _ h0) HN.out)
    omega
   have g0 : (0 : Int) ≤ (j : Int) := by omega
   have g2 : (j : Int) < (L1 : Int) := by omega
   have s4 : IntKind.i64.wrap ((j : Int) - 1) = (j : Int) - 1 := IntWalk.i64_in _ (by omega)
   clear ha hR HR HRw hstep hR1
   by_cases hlt : R1 < n
   ·have hq0 : q = 0 := by rw [← hq]; exact Nat.div_eq_of_lt hlt
    have gz : decide (cmpI (R1 : Int) (n : Int) < 0) = true := by unfold cmpI; rw [if_pos (by omega)]; rfl
    go_wp2_with (first | ((with_reducible refine gate_builtin (b := .append) (xs := #[.tmp 26, .tmp 27]) rfl ?_); at_builtin; (refine Kd.R_append_row (Value.int .i64) (0 : Int) (h1 := fun _ => rfl) (w0 := X) X.heap.size rfl (.tmp 26) (.tmp 27) 75 3 (.int .i64 0) 8 rfl Tryz.underlying75 rinfo rfl (by omega) (.slice (some ⟨X.heap.size, 0, none⟩) 1 1) [(a : Int)] (li (dg QQ R)) Ar kr cr (fun _ => True) rfl rfl (fun _ _ => trivial) (Kd.R_of_own (own_litI X a) (fun _ _ => trivial)) (HRR.out.below (below_alloc (Below.refl _ _) _)) (below_alloc (Below.refl _ _) _) (by simp) (by simp; omega) ?_); intro v38 w8 ho hb hg hat; obtain ⟨g2, cap, e2, hg2, hcap2, HL⟩ := lead_form ho HRR.out; subst e2; have HG2 := Aside0.mk (And.intro hg2 hcap2); have HB8 := Aside0.mk hb; clear ho hb hg hat hg2 hcap2) | (go_at_call 137; (with_reducible refine (rtrim_sign HL.out HG2.out.2 HDD.out false).mono ?_); rintro e X2 ⟨k6, g6, rfl, hg6, hk6, hm6, hbq⟩; have HM6 := Aside0.mk (hm6.val HVV.out); have HB6 := Aside0.mk ((HBX.out.trans (HB8.out.mono HBX.out.size)).trans (hbq.mono (by have := HBX.out.size; have := HB8.out.size; omega))); have HX6 := Aside0.mk (HB8.out.trans (hbq.mono HB8.out.size)); have HK6 := Aside0.mk hk6; clear hg6 hk6 hm6 hbq) | (go_at_call 147; (with_reducible refine (rmagnitude_calls HM6.out (H2.out _ HB6.out) (Nat.le_trans (HM6.out.bound HBND.out) (by omega))).mono ?_); rintro e X3 ⟨rfl, hdr⟩; have HB3 := Aside0.mk hdr.below; clear hdr))
    go_loopw [9, 10] (fun v9 v10 W => ∃ lo hi : Nat, v9 = .int .i64 (lo : Int) ∧ v10 = .int .i64 (hi : Int) ∧ lo ≤ hi ∧ hi ≤ 9999 ∧ Aside0 (lo ≤ q ∧ q ≤ hi) ∧ Aside0 (Below X2.heap.size X2 W)) (fun v9 v10 _ => (intOf v10 - intOf v9).toNat)
    case atStart => exact ⟨0, 0, rfl, rfl, Nat.zero_le _, by omega, ⟨Nat.zero_le _, (by omega)⟩, HB3⟩
    case round =>
     clear HB3
     obtain ⟨lo, hi, rfl, rfl, hlh, hh9, HLH, HBW⟩ := hrel
     by_cases hlt : lo < hi
     ·have g1 : (lo : Int) < (hi : Int) := by omega
      obtain ⟨mid, hmid⟩ : ∃ mid, (lo + hi + 1) / 2 = mid := ⟨_, rfl⟩
      have hd0 : 0 < mid := by omega
      have hd1 : mid < 10000 := by omega
      have hmi : lo < mid ∧ mid ≤ hi := by omega
      have e1 : IntKind.i64.wrap ((lo : Int) + (hi : Int)) = (lo : Int) + (hi : Int) := IntWalk.i64_in _ (by omega)
      have e2 : IntKind.i64.wrap ((lo : Int) + (hi : Int) + 1) = (lo : Int) + (hi : Int) + 1 := IntWalk.i64_in _ (by omega)
      have e4 : ((lo : Int) + (hi : Int) + 1) / 2 = (mid : Int) := by omega
      have e5 : IntKind.i64.wrap ((mid : Int) - 1) = ((mid - 1 : Nat) : Int) := by rw [IntWalk.i64_in _ (by omega)]; omega
      have e6 : wrap64 (mid : Int) = (mid : Int) := by have h := IntWalk.i64_in (mid : Int) (by omega); rwa [i64_w] at h
      obtain ⟨N, hN⟩ : ∃ N, n * mid = N := ⟨_, rfl⟩
      have HNM := Aside0.mk hN
      have HBM : Aside0 (N < QQ ^ (L2 + 1)) := ⟨by rw [← hN, Nat.pow_succ]; exact Nat.mul_lt_mul'' HN.out hd1⟩
      obtain ⟨z, hz⟩ : ∃ z, decide (cmpI (N : Int) (R1 : Int) ≤ 0) = z := ⟨_, rfl⟩
      have HZ : Aside0 (z = true ↔ mid ≤ q) := ⟨by rw [← hz, decide_eq_true_iff, ← hq, Nat.le_div_iff_mul_le h0, Nat.mul_comm mid n, hN]; unfold cmpI; split <;> (try split) <;> omega⟩
      have HF := Aside0.mk (mid_facts hmid hlt hh9 q)
      clear hmid hN
      cases z
      ·go_wp2_with (first | (go_at_call 180; (with_reducible refine (rbyLimb_calls (H2.out _ (HB6.out.trans (HBW.out.mono HB6.out.size))) (by omega) hd0 hd1).mono ?_); rintro e X4 ⟨A5, k5, c5, rfl, hk5, hm5, hbq⟩; have HM5 := Aside0.mk (And.intro hk5 (And.intro hm5 hm5.rl)); have HB5 := Aside0.mk (HBW.out.trans (hbq.mono HBW.out.size)); clear hk5 hm5 hbq) | (go_at_call 137; (with_reducible refine (rtrim_sign HM5.out.2.2 HM5.out.1 (dg_lt QQ1 _) false).mono ?_); rintro e X5 ⟨k7, g7, rfl, hg7, hk7, hm7, hbq⟩; have HM7 := Aside0.mk (hm7.val ((val_dg QQ1 _).trans HNM.out)); have HB7 := Aside0.mk (HB5.out.trans (hbq.mono HB5.out.size)); clear hg7 hk7 hm7 hbq) | (go_at_call 147; (with_reducible refine (rmagnitude_calls HM7.out (HM6.out.below HB7.out) (Nat.le_trans (HM7.out.bound HBM.out) (by omega))).mono ?_); rintro e X6 ⟨rfl, hdr⟩; have HBE := Aside0.mk (HB7.out.trans (hdr.below.mono HB7.out.size)); clear hdr))
       go_roundw
       case rel => exact ⟨lo, mid - 1, rfl, rfl, HF.out.1.1, HF.out.1.2.1, ⟨HLH.out.1, HF.out.2.2.2 (fun h => Bool.noConfusion (HZ.out.2 h))⟩, HBE⟩
       case measure => exact HF.out.2.1
      ·go_wp2_with (first | (go_at_call 180; (with_reducible refine (rbyLimb_calls (H2.out _ (HB6.out.trans (HBW.out.mono HB6.out.size))) (by omega) hd0 hd1).mono ?_); rintro e X4 ⟨A5, k5, c5, rfl, hk5, hm5, hbq⟩; have HM5 := Aside0.mk (And.intro hk5 (And.intro hm5 hm5.rl)); have HB5 := Aside0.mk (HBW.out.trans (hbq.mono HBW.out.size)); clear hk5 hm5 hbq) | (go_at_call 137; (with_reducible refine (rtrim_sign HM5.out.2.2 HM5.out.1 (dg_lt QQ1 _) false).mono ?_); rintro e X5 ⟨k7, g7, rfl, hg7, hk7, hm7, hbq⟩; have HM7 := Aside0.mk (hm7.val ((val_dg QQ1 _).trans HNM.out)); have HB7 := Aside0.mk (HB5.out.trans (hbq.mono HB5.out.size)); clear hg7 hk7 hm7 hbq) | (go_at_call 147; (with_reducible refine (rmagnitude_calls HM7.out (HM6.out.below HB7.out) (Nat.le_trans (HM7.out.bound HBM.out) (by omega))).mono ?_); rintro e X6 ⟨rfl, hdr⟩; have HBE := Aside0.mk (HB7.out.trans (hdr.below.mono HB7.out.size)); clear hdr))
       go_roundw
       case rel => exact ⟨mid, hi, rfl, rfl, HF.out.1.2.2, hh9, ⟨HZ.out.1 (by first | rfl | trivial), HLH.out.2⟩, HBE⟩
       case measure => exact HF.out.2.2.1
     ·have hlq : lo = q := by have := HLH.out; omega
      have g1 : ¬ (lo : Int) < (hi : Int) := by omega
      subst hlq
      clear hlt hlh HLH hq0
      have HRW := Aside0.mk (HRow.out _ (HX6.out.trans (HBW.out.mono HX6.out.size)))
      have r0 := HRW.out.cell (j := j) (by rw [tops_length]; omega)
      have r1 := HRW.out.frozen j
      have r2 : (j : Int) < (L1 : Int) := by omega
      have HBS := Aside0.mk ((HB6.out.trans (HBW.out.mono HB6.out.size)).setCell (p := ⟨w.heap.size, j, none⟩) (Nat.le_refl _) (.int .i64 (lo : Int)))
      have HM8 := Aside0.mk ((HM6.out.below HBW.out).far (g := w.heap.size) (by have := HG2.out.1; have := HBX.out.size; have := HRow.out _ (Below.refl _ _) |>.lt; omega) j (.int .i64 (lo : Int)))
      have HRS : Aside0 (RowI (wr.setCell ⟨w.heap.size, j, none⟩ (.int .i64 (lo : Int))) w.heap.size (tops QQ (m / n) L1 j)) := ⟨by
       have h := HRW.out.set j lo
       have e : (tops QQ (m / n) L1 (j + 1)).set j lo = tops QQ (m / n) L1 j := by rw [HQS.out.1, tops_set]
       rwa [e] at h⟩
      by_cases hl0 : lo = 0
      ·have HMF := Aside0.mk (HM8.out.val (HQS.out.2.1 hl0).symm)
       subst hl0
       go_wp2
       go_roundw
       case rel => exact ⟨j, some ⟨g2, 0, none⟩, k6, cap, rfl, by first | rfl | go_num, by omega, HK6.out, HMF, HRS, HBS⟩
       case measure => simp [intOf]
      ·have hd0 : 0 < lo := by omega
       have hd1 : lo < 10000 := by omega
       have g9 : (0 : Int) < (lo : Int) := by omega
       have HLE : Aside0 (n * lo ≤ R1) := ⟨HQS.out.2.2.1⟩
       go_wp2_with (first | (go_at_call 180; (with_reducible refine (rbyLimb_calls (H2.out _ HBS.out) (by omega) hd0 hd1).mono ?_); rintro e X4 ⟨A5, k5, c5, rfl, hk5, hm5, hbq⟩; have HM5 := Aside0.mk (And.intro hk5 (And.intro hm5 hm5.rl)); have HB5 := Aside0.mk hbq; clear hk5 hm5 hbq) | (go_at_call 148; (with_reducible refine (rminus_calls (HM8.out.below HB5.out) HM5.out.2.1 HLE.out (Nat.le_trans (HM6.out.bound HBND.out) (by omega))).mono ?_); rintro e X7 ⟨A9, k9, c9, rfl, hk9, hm9, hbq⟩; have HM9 := Aside0.mk (And.intro hk9 hm9); have HB9 := Aside0.mk (HB5.out.trans (hbq.mono HB5.out.size)); clear hk9 hm9 hbq))
       go_roundw
       case rel => exact ⟨j, A9, k9, c9, rfl, by first | rfl | go_num, by omega, HM9.out.1, ⟨HM9.out.2.val HQS.out.2.2.2⟩, ⟨HRS.out.keep HB9.out⟩, ⟨HBS.out.trans (HB9.out.mono HBS.out.size)⟩⟩
       case measure => simp [intOf]
   ·have hq0 : True := trivial
    have gz : decide (cmpI (R1 : Int) (n : Int) < 0) = false := by unfold cmpI; rw [if_neg (by omega)]; split <;> rfl
    go_wp2_with (first | ((with_reducible refine gate_builtin (b := .append) (xs := #[.tmp 26, .tmp 27]) rfl ?_); at_builtin; (refine Kd.R_append_row (Value.int .i64) (0 : Int) (h1 := fun _ => rfl) (w0 := X) X.heap.size rfl (.tmp 26) (.tmp 27) 75 3 (.int .i64 0) 8 rfl Tryz.underlying75 rinfo rfl (by omega) (.slice (some ⟨X.heap.size, 0, none⟩) 1 1) [(a : Int)] (li (dg QQ R)) Ar kr cr (fun _ => True) rfl rfl (fun _ _ => trivial) (Kd.R_of_own (own_litI X a) (fun _ _ => trivial)) (HRR.out.below (below_alloc (Below.refl _ _) _)) (below_alloc (Below.refl _ _) _) (by simp) (by simp; omega) ?_); intro v38 w8 ho hb hg hat; obtain ⟨g2, cap, e2, hg2, hcap2, HL⟩ := lead_form ho HRR.out; subst e2; have HG2 := Aside0.mk (And.intro hg2 hcap2); have HB8 := Aside0.mk hb; clear ho hb hg hat hg2 hcap2) | (go_at_call 137; (with_reducible refine (rtrim_sign HL.out HG2.out.2 HDD.out false).mono ?_); rintro e X2 ⟨k6, g6, rfl, hg6, hk6, hm6, hbq⟩; have HM6 := Aside0.mk (hm6.val HVV.out); have HB6 := Aside0.mk ((HBX.out.trans (HB8.out.mono HBX.out.size)).trans (hbq.mono (by have := HBX.out.size; have := HB8.out.size; omega))); have HX6 := Aside0.mk (HB8.out.trans (hbq.mono HB8.out.size)); have HK6 := Aside0.mk hk6; clear hg6 hk6 hm6 hbq) | (go_at_call 147; (with_reducible refine (rmagnitude_calls HM6.out (H2.out _ HB6.out) (Nat.le_trans (HM6.out.bound HBND.out) (by omega))).mono ?_); rintro e X3 ⟨rfl, hdr⟩; have HB3 := Aside0.mk hdr.below; clear hdr))
    go_loopw [9, 10] (fun v9 v10 W => ∃ lo hi : Nat, v9 = .int .i64 (lo : Int) ∧ v10 = .int .i64 (hi : Int) ∧ lo ≤ hi ∧ hi ≤ 9999 ∧ Aside0 (lo ≤ q ∧ q ≤ hi) ∧ Aside0 (Below X2.heap.size X2 W)) (fun v9 v10 _ => (intOf v10 - intOf v9).toNat)
    case atStart => exact ⟨0, 9999, rfl, rfl, Nat.zero_le _, by omega, ⟨Nat.zero_le _, hq9⟩, HB3⟩
    case round =>
     clear HB3
     obtain ⟨lo, hi, rfl, rfl, hlh, hh9, HLH, HBW⟩ := hrel
     by_cases hlt : lo < hi
     ·have g1 : (lo : Int) < (hi : Int) := by omega
      obtain ⟨mid, hmid⟩ : ∃ mid, (lo + hi + 1) / 2 = mid := ⟨_, rfl⟩
      have hd0 : 0 < mid := by omega
      have hd1 : mid < 10000 := by omega
      have hmi : lo < mid ∧ mid ≤ hi := by omega
      have e1 : IntKind.i64.wrap ((lo : Int) + (hi : Int)) = (lo : Int) + (hi : Int) := IntWalk.i64_in _ (by omega)
      have e2 : IntKind.i64.wrap ((lo : Int) + (hi : Int) + 1) = (lo : Int) + (hi : Int) + 1 := IntWalk.i64_in _ (by omega)
      have e4 : ((lo : Int) + (hi : Int) + 1) / 2 = (mid : Int) := by omega
      have e5 : IntKind.i64.wrap ((mid : Int) - 1) = ((mid - 1 : Nat) : Int) := by rw [IntWalk.i64_in _ (by omega)]; omega
      have e6 : wrap64 (mid : Int) = (mid : Int) := by have h := IntWalk.i64_in (mid : Int) (by omega); rwa [i64_w] at h
      obtain ⟨N, hN⟩ : ∃ N, n * mid = N := ⟨_, rfl⟩
      have HNM := Aside0.mk hN
      have HBM : Aside0 (N < QQ ^ (L2 + 1)) := ⟨by rw [← hN, Nat.pow_succ]; exact Nat.mul_lt_mul'' HN.out hd1⟩
      obtain ⟨z, hz⟩ : ∃ z, decide (cmpI (N : Int) (R1 : Int) ≤ 0) = z := ⟨_, rfl⟩
      have HZ : Aside0 (z = true ↔ mid ≤ q) := ⟨by rw [← hz, decide_eq_true_iff, ← hq, Nat.le_div_iff_mul_le h0, Nat.mul_comm mid n, hN]; unfold cmpI; split <;> (try split) <;> omega⟩
      have HF := Aside0.mk (mid_facts hmid hlt hh9 q)
      clear hmid hN
      cases z
      ·go_wp2_with (first | (go_at_call 180; (with_reducible refine (rbyLimb_calls (H2.out _ (HB6.out.trans (HBW.out.mono HB6.out.size))) (by omega) hd0 hd1).mono ?_); rintro e X4 ⟨A5, k5, c5, rfl, hk5, hm5, hbq⟩; have HM5 := Aside0.mk (And.intro hk5 (And.intro hm5 hm5.rl)); have HB5 := Aside0.mk (HBW.out.trans (hbq.mono HBW.out.size)); clear hk5 hm5 hbq) | (go_at_call 137; (with_reducible refine (rtrim_sign HM5.out.2.2 HM5.out.1 (dg_lt QQ1 _) false).mono ?_); rintro e X5 ⟨k7, g7, rfl, hg7, hk7, hm7, hbq⟩; have HM7 := Aside0.mk (hm7.val ((val_dg QQ1 _).trans HNM.out)); have HB7 := Aside0.mk (HB5.out.trans (hbq.mono HB5.out.size)); clear hg7 hk7 hm7 hbq) | (go_at_call 147; (with_reducible refine (rmagnitude_calls HM7.out (HM6.out.below HB7.out) (Nat.le_trans (HM7.out.bound HBM.out) (by omega))).mono ?_); rintro e X6 ⟨rfl, hdr⟩; have HBE := Aside0.mk (HB7.out.trans (hdr.below.mono HB7.out.size)); clear hdr))
       go_roundw
       case rel => exact ⟨lo, mid - 1, rfl, rfl, HF.out.1.1, HF.out.1.2.1, ⟨HLH.out.1, HF.out.2.2.2 (fun h => Bool.noConfusion (HZ.out.2 h))⟩, HBE⟩
       case measure => exact HF.out.2.1
      ·go_wp2_with (first | (go_at_call 180; (with_reducible refine (rbyLimb_calls (H2.out _ (HB6.out.trans (HBW.out.mono HB6.out.size))) (by omega) hd0 hd1).mono ?_); rintro e X4 ⟨A5, k5, c5, rfl, hk5, hm5, hbq⟩; have HM5 := Aside0.mk (And.intro hk5 (And.intro hm5 hm5.rl)); have HB5 := Aside0.mk (HBW.out.trans (hbq.mono HBW.out.size)); clear hk5 hm5 hbq) | (go_at_call 137; (with_reducible refine (rtrim_sign HM5.out.2.2 HM5.out.1 (dg_lt QQ1 _) false).mono ?_); rintro e X5 ⟨k7, g7, rfl, hg7, hk7, hm7, hbq⟩; have HM7 := Aside0.mk (hm7.val ((val_dg QQ1 _).trans HNM.out)); have HB7 := Aside0.mk (HB5.out.trans (hbq.mono HB5.out.size)); clear hg7 hk7 hm7 hbq) | (go_at_call 147; (with_reducible refine (rmagnitude_calls HM7.out (HM6.out.below HB7.out) (Nat.le_trans (HM7.out.bound HBM.out) (by omega))).mono ?_); rintro e X6 ⟨rfl, hdr⟩; have HBE := Aside0.mk (HB7.out.trans (hdr.below.mono HB7.out.size)); clear hdr))
       go_roundw
       case rel => exact ⟨mid, hi, rfl, rfl, HF.out.1.2.2, hh9, ⟨HZ.out.1 (by first | rfl | trivial), HLH.out.2⟩, HBE⟩
       case measure => exact HF.out.2.2.1
     ·have hlq : lo = q := by have := HLH.out; omega
      have g1 : ¬ (lo : Int) < (hi : Int) := by omega
      subst hlq
      clear hlt hlh HLH hq0
      have HRW := Aside0.mk (HRow.out _ (HX6.out.trans (HBW.out.mono HX6.out.size)))
      have r0 := HRW.out.cell (j := j) (by rw [tops_length]; omega)
      have r1 := HRW.out.frozen j
      have r2 : (j : Int) < (L1 : Int) := by omega
      have HBS := Aside0.mk ((HB6.out.trans (HBW.out.mono HB6.out.size)).setCell (p := ⟨w.heap.size, j, none⟩) (Nat.le_refl _) (.int .i64 (lo : Int)))
      have HM8 := Aside0.mk ((HM6.out.below HBW.out).far (g := w.heap.size) (by have := HG2.out.1; have := HBX.out.size; have := HRow.out _ (Below.refl _ _) |>.lt; omega) j (.int .i64 (lo : Int)))
      have HRS : Aside0 (RowI (wr.setCell ⟨w.heap.size, j, none⟩ (.int .i64 (lo : Int))) w.heap.size (tops QQ (m / n) L1 j)) := ⟨by
       have h := HRW.out.set j lo
       have e : (tops QQ (m / n) L1 (j + 1)).set j lo = tops QQ (m / n) L1 j := by rw [HQS.out.1, tops_set]
       rwa [e] at h⟩
      by_cases hl0 : lo = 0
      ·have HMF := Aside0.mk (HM8.out.val (HQS.out.2.1 hl0).symm)
       subst hl0
       go_wp2
       go_roundw
       case rel => exact ⟨j, some ⟨g2, 0, none⟩, k6, cap, rfl, by first | rfl | go_num, by omega, HK6.out, HMF, HRS, HBS⟩
       case measure => simp [intOf]
      ·have hd0 : 0 < lo := by omega
       have hd1 : lo < 10000 := by omega
       have g9 : (0 : Int) < (lo : Int) := by omega
       have HLE : Aside0 (n * lo ≤ R1) := ⟨HQS.out.2.2.1⟩
       go_wp2_with (first | (go_at_call 180; (with_reducible refine (rbyLimb_calls (H2.out _ HBS.out) (by omega) hd0 hd1).mono ?_); rintro e X4 ⟨A5, k5, c5, rfl, hk5, hm5, hbq⟩; have HM5 := Aside0.mk (And.intro hk5 (And.intro hm5 hm5.rl)); have HB5 := Aside0.mk hbq; clear hk5 hm5 hbq) | (go_at_call 148; (with_reducible refine (rminus_calls (HM8.out.below HB5.out) HM5.out.2.1 HLE.out (Nat.le_trans (HM6.out.bound HBND.out) (by omega))).mono ?_); rintro e X7 ⟨A9, k9, c9, rfl, hk9, hm9, hbq⟩; have HM9 := Aside0.mk (And.intro hk9 hm9); have HB9 := Aside0.mk (HB5.out.trans (hbq.mono HB5.out.size)); clear hk9 hm9 hbq))
       go_roundw
       case rel => exact ⟨j, A9, k9, c9, rfl, by first | rfl | go_num, by omega, HM9.out.1, ⟨HM9.out.2.val HQS.out.2.2.2⟩, ⟨HRS.out.keep HB9.out⟩, ⟨HBS.out.trans (HB9.out.mono HBS.out.size)⟩⟩
       case measure => simp [intOf]
/-- Two variables of type Big. -/
abbrev QR (W : World) (p q : Nat) (f1 : Bool) (A1 : Option Addr) (L1 c1 : Nat) (f2 : Bool) (A2 : Option Addr) (L2 c2 : Nat) : Prop := BG W p f1 A1 L1 c1 ∧ BG W q f2 A2 L2 c2
theorem QR.new (w : World) (f1 : Bool) (A1 : Option Addr) (L1 c1 : Nat) (f2 : Bool) (A2 : Option Addr) (L2 c2 : Nat) : QR ((w.alloc (.cells #[.bool f1, .slice A1 L1 c1] 77)).alloc (.cells #[.bool f2, .slice A2 L2 c2] 77)) w.heap.size (w.heap.size + 1) f1 A1 L1 c1 f2 A2 L2 c2 := by
 refine ⟨(BG.new w _ _ _ _).alloc _, ?_⟩
 have h := BG.new (w.alloc (.cells #[.bool f1, .slice A1 L1 c1] 77)) f2 A2 L2 c2
 simpa using h
theorem cell_far2 {V : World} {b b' o : Nat} {v u u' : Value} (h : V.cell? ⟨b, o, none⟩ = some v) (hne : b ≠ b') : ((V.setCell ⟨b', 0, none⟩ u).setCell ⟨b', 1, none⟩ u').cell? ⟨b, o, none⟩ = some v := by
 rw [World.cell?_setCell_other _ _ _ _ (fun e => hne (congrArg Addr.block e).symm), World.cell?_setCell_other _ _ _ _ (fun e => hne (congrArg Addr.block e).symm)]
 exact h
/-- Four variables of type Big: two that came in, two for what goes out. -/
structure F4 (W : World) (b : Nat) (f1 : Bool) (A1 : Option Addr) (L1 c1 : Nat) (f2 : Bool) (A2 : Option Addr) (L2 c2 : Nat) : Prop where
 x1 : BG W b f1 A1 L1 c1
 x2 : BG W (b + 1) f2 A2 L2 c2
 o1 : BG W (b + 1 + 1) false none 0 0
 o2 : BG W (b + 1 + 1 + 1) false none 0 0
theorem F4.below {W X : World} {b : Nat} {f1 : Bool} {A1 : Option Addr} {L1 c1 : Nat} {f2 : Bool} {A2 : Option Addr} {L2 c2 : Nat} (h : F4 W b f1 A1 L1 c1 f2 A2 L2 c2) (hb : Below W.heap.size W X) : F4 X b f1 A1 L1 c1 f2 A2 L2 c2 := ⟨h.x1.below hb, h.x2.below hb, h.o1.below hb, h.o2.below hb⟩
theorem F4.other {W : World} {b b' : Nat} {f1 : Bool} {A1 : Option Addr} {L1 c1 : Nat} {f2 : Bool} {A2 : Option Addr} {L2 c2 : Nat} (h : F4 W b f1 A1 L1 c1 f2 A2 L2 c2) (hb : b + 1 + 1 + 1 < b') (o : Nat) (u : Value) : F4 (W.setCell ⟨b', o, none⟩ u) b f1 A1 L1 c1 f2 A2 L2 c2 := ⟨h.x1.other (by omega) _ _, h.x2.other (by omega) _ _, h.o1.other (by omega) _ _, h.o2.other (by omega) _ _⟩
theorem F4.new (w : World) (f1 : Bool) (A1 : Option Addr) (L1 c1 : Nat) (f2 : Bool) (A2 : Option Addr) (L2 c2 : Nat) : F4 ((((w.alloc (.cells #[.bool f1, .slice A1 L1 c1] 77)).alloc (.cells #[.bool f2, .slice A2 L2 c2] 77)).alloc (.cells #[.bool false, .slice none 0 0] 77)).alloc (.cells #[.bool false, .slice none 0 0] 77)) w.heap.size f1 A1 L1 c1 f2 A2 L2 c2 := by
 have n : ∀ (W : World) (b : Nat) (hb : W.heap.size = b) (f : Bool) (A : Option Addr) (L c : Nat), BG (W.alloc (.cells #[.bool f, .slice A L c] 77)) b f A L c := fun W b hb f A L c => by subst hb; exact BG.new W f A L c
 exact ⟨(((n _ _ rfl _ _ _ _).alloc _).alloc _).alloc _, ((n _ _ (by simp) _ _ _ _).alloc _).alloc _, (n _ _ (by simp) _ _ _ _).alloc _, n _ _ (by simp) _ _ _ _⟩
theorem out2 {w W : World} {b : Nat} {f1 : Bool} {A1 : Option Addr} {L1 c1 : Nat} {f2 : Bool} {A2 : Option Addr} {L2 c2 : Nat} (h : F4 W b f1 A1 L1 c1 f2 A2 L2 c2) (hb : Below w.heap.size w W) (e : b = w.heap.size) {A A' : Option Addr} {k k' n n' : Nat} (hm : RM W A k n) (hm' : RM W A' k' n') (f g : Bool) (c c' : Nat) :
 BG ((((W.setCell ⟨b + 1 + 1, 0, none⟩ (.bool f)).setCell ⟨b + 1 + 1, 1, none⟩ (.slice A k c)).setCell ⟨b + 1 + 1 + 1, 0, none⟩ (.bool g)).setCell ⟨b + 1 + 1 + 1, 1, none⟩ (.slice A' k' c')) (b + 1 + 1) f A k c ∧
 BG ((((W.setCell ⟨b + 1 + 1, 0, none⟩ (.bool f)).setCell ⟨b + 1 + 1, 1, none⟩ (.slice A k c)).setCell ⟨b + 1 + 1 + 1, 0, none⟩ (.bool g)).setCell ⟨b + 1 + 1 + 1, 1, none⟩ (.slice A' k' c')) (b + 1 + 1 + 1) g A' k' c' ∧
 RM ((((W.setCell ⟨b + 1 + 1, 0, none⟩ (.bool f)).setCell ⟨b + 1 + 1, 1, none⟩ (.slice A k c)).setCell ⟨b + 1 + 1 + 1, 0, none⟩ (.bool g)).setCell ⟨b + 1 + 1 + 1, 1, none⟩ (.slice A' k' c')) A k n ∧
 RM ((((W.setCell ⟨b + 1 + 1, 0, none⟩ (.bool f)).setCell ⟨b + 1 + 1, 1, none⟩ (.slice A k c)).setCell ⟨b + 1 + 1 + 1, 0, none⟩ (.bool g)).setCell ⟨b + 1 + 1 + 1, 1, none⟩ (.slice A' k' c')) A' k' n' ∧
 Below w.heap.size w ((((W.setCell ⟨b + 1 + 1, 0, none⟩ (.bool f)).setCell ⟨b + 1 + 1, 1, none⟩ (.slice A k c)).setCell ⟨b + 1 + 1 + 1, 0, none⟩ (.bool g)).setCell ⟨b + 1 + 1 + 1, 1, none⟩ (.slice A' k' c')) := by
 have p1 := h.o1.put0 f
 have p2 := p1.put1 A k c
 have r1 := (h.o2.other (b' := b + 1 + 1) (by omega) 0 (.bool f)).other (b' := b + 1 + 1) (by omega) 1 (.slice A k c)
 have r2 := r1.put0 g
 have r3 := r2.put1 A' k' c'
 refine ⟨(p2.other (by omega) _ _).other (by omega) _ _, r3, (((hm.bg h.o1 0 _).bg p1 1 _).bg r1 0 _).bg r2 1 _, (((hm'.bg h.o1 0 _).bg p1 1 _).bg r1 0 _).bg r2 1 _, ?_⟩
 subst e
 exact (((hb.setCell (by simp; omega) _).setCell (by simp; omega) _).setCell (by simp; omega) _).setCell (by simp; omega) _
theorem step_end {w W Y : World} {p n5 n9 k5 k9 c5 c9 : Nat} {g6 gz : Bool} {Aq A5 A9 : Option Addr} {k6 cq : Nat} {f1 : Bool} {A1 : Option Addr} {L1 c1 : Nat} {f2 : Bool} {A2 : Option Addr} {L2 c2 : Nat} (HX : Aside0 (F4 W w.heap.size f1 A1 L1 c1 f2 A2 L2 c2)) (HA : Aside0 (Below w.heap.size w W)) (HQ : Aside0 (QR W p (p + 1) g6 Aq k6 cq false A5 k5 c5)) (HM9 : Aside0 (k9 ≤ c9 ∧ RM W A9 k9 n9)) (HM5 : Aside0 (k5 ≤ c5 ∧ RM W A5 k5 n5)) (HPX : Aside0 (w.heap.size + 1 + 1 + 1 < p)) (hY : ((W.setCell ⟨p, 0, none⟩ (.bool gz)).setCell ⟨p, 1, none⟩ (.slice A9 k9 c9)) = Y) :
 Aside0 (F4 Y w.heap.size f1 A1 L1 c1 f2 A2 L2 c2) ∧ Aside0 (Below w.heap.size w Y) ∧ Aside0 (QR Y p (p + 1) gz A9 k9 c9 false A5 k5 c5) ∧ Aside0 (k9 ≤ c9 ∧ gz = gz ∧ RM Y A9 k9 n9) ∧ Aside0 (k5 ≤ c5 ∧ RM Y A5 k5 n5 ∧ RL Y A5 k5 (dg QQ n5)) := by
 subst hY
 have hp := HPX.out
 have hq1 := HQ.out.1.put0 gz
 refine ⟨⟨(HX.out.other (by omega) _ _).other (by omega) _ _⟩, ⟨(HA.out.setCell (by simp; omega) _).setCell (by simp; omega) _⟩, ⟨hq1.put1 _ _ _, (HQ.out.2.other (by omega) _ _).other (by omega) _ _⟩, ⟨HM9.out.1, rfl, (HM9.out.2.bg HQ.out.1 0 _).bg hq1 1 _⟩, ⟨HM5.out.1, (HM5.out.2.bg HQ.out.1 0 _).bg hq1 1 _, (HM5.out.2.bg HQ.out.1 0 _).bg hq1 1 _⟩⟩
theorem over_ret {b : Nat} {Z : World} {T : Array Value} {R : Ending → World → Prop} {g g' : Bool} {A A' : Option Addr} {k c k' c' : Nat} (h4 : T[4]?.getD undef = .pointer (some ⟨b + 1 + 1, 0, none⟩)) (h5 : T[5]?.getD undef = .pointer (some ⟨b + 1 + 1 + 1, 0, none⟩))
 (o1 : BG Z (b + 1 + 1) g A k c) (o2 : BG Z (b + 1 + 1 + 1) g' A' k' c') (hR : R (.returned (.tuple #[.agg #[.bool g, .slice A k c], .agg #[.bool g', .slice A' k' c']])) Z) : bodyPost Tryz.prog Tryz.f92 R Exit.ret { tmps := T, defers := [] } Z := by
 have k0 := o1.cell0
 have k1 := o1.cell1
 have k2 := o2.cell0
 have k3 := o2.cell1
 exact bodyPost_ret (v := .tuple #[.agg #[.bool g, .slice A k c], .agg #[.bool g', .slice A' k' c']]) (by simp [results, Tryz.results92, go_sem, h4, h5, k0, k1, k2, k3]) rfl hR
theorem rOver_plain {w : World} {A1 A2 : Option Addr} {L1 L2 c1 c2 m n : Nat} {f1 f2 : Bool} (h1 : RM w A1 L1 m) (h2 : RM w A2 L2 n) (h0 : 0 < n) (hL1 : L1 ≤ 40000) (hL2 : L2 ≤ 40000) (hc : f1 = false ∨ m % n = 0) :
 Calls Tryz.prog 92 #[.agg #[.bool f1, .slice A1 L1 c1], .agg #[.bool f2, .slice A2 L2 c2]] w fun e w' => ∃ A k c A' k' c', e = .returned (.tuple #[.agg #[.bool ((f1 != f2) && decide (m / n ≠ 0)), .slice A k c], .agg #[.bool false, .slice A' k' c']]) ∧ k ≤ c ∧ k' ≤ c' ∧ RM w' A k (m / n) ∧ RM w' A' k' (m % n) ∧ Below w.heap.size w w' := by
 have HOV : Aside0 (∀ W, Below w.heap.size w W → Calls Tryz.prog 152 #[.slice A1 L1 c1, .slice A2 L2 c2] W fun e w' => ∃ A k c A' k' c', e = .returned (.tuple #[.slice A k c, .slice A' k' c']) ∧ k ≤ c ∧ k' ≤ c' ∧ RM w' A k (m / n) ∧ RM w' A' k' (m % n) ∧ Below W.heap.size W w') := ⟨fun W hb => rover_calls (h1.below hb) (h2.below hb) h0 hL1 hL2⟩
 clear h1 h2
 go_enter Tryz.func92, Tryz.ntmps92
 go_wp2_with fail
 obtain ⟨wr, hwr⟩ : ∃ wr, ((((w.alloc (.cells #[.bool f1, .slice A1 L1 c1] 77)).alloc (.cells #[.bool f2, .slice A2 L2 c2] 77)).alloc (.cells #[.bool false, .slice none 0 0] 77)).alloc (.cells #[.bool false, .slice none 0 0] 77)) = wr := ⟨_, rfl⟩
 have HX : Aside0 (F4 wr w.heap.size f1 A1 L1 c1 f2 A2 L2 c2) := ⟨by subst hwr; exact F4.new _ _ _ _ _ _ _ _ _⟩
 have HA : Aside0 (Below w.heap.size w wr) := ⟨by subst hwr; repeat (first | exact Below.refl _ _ | apply below_alloc)⟩
 have x0 := HX.out.x1.cell0
 have x1 := HX.out.x1.cell1
 have x2 := HX.out.x2.cell0
 have x3 := HX.out.x2.cell1
 rw [hwr]
 clear hwr
 have HCC : Aside0 (f1 = true → m % n = 0) := ⟨fun h => hc.resolve_left (by simp [h])⟩
 clear hc
 cases f1
 ·go_wp2_with (first | (go_at_call 152; (with_reducible refine (HOV.out _ HA.out).mono ?_); rintro e W1 ⟨Aq, kq, cq, Ar, kr, cr, rfl, hq, hr, hmq, hmr, hbx⟩; skip; have HMQ := Aside0.mk (And.intro hq (And.intro hmq hmq.rl)); have HMR := Aside0.mk (And.intro hr hmr); have HX2 := Aside0.mk (HX.out.below hbx); clear HX x0 x1 x2 x3; (try clear y1 y2); have HX := HX2; clear HX2; have HA2 := Aside0.mk (HA.out.trans (hbx.mono HA.out.size)); clear HA; have HA := HA2; clear HA2; have x0 := HX.out.x1.cell0; have x1 := HX.out.x1.cell1; have x2 := HX.out.x2.cell0; have x3 := HX.out.x2.cell1; have y1 := HX.out.x1.lt; have y2 := HX.out.x2.lt; clear hbx hq hr hmq hmr) | (go_at_call 137; (with_reducible refine (rtrim_sign HMQ.out.2.2 HMQ.out.1 (dg_lt QQ1 _) _).mono ?_); rintro e W2 ⟨k6, g6, rfl, hg6, hk6, hm6, hbx⟩; have HM6 := Aside0.mk (And.intro hk6 (And.intro (hg6.trans (by rw [val_dg QQ1])) (hm6.val (val_dg QQ1 _)))); have HMR2 := Aside0.mk (And.intro HMR.out.1 (HMR.out.2.below hbx)); clear HMR; have HMR := HMR2; clear HMR2; have HX2 := Aside0.mk (HX.out.below hbx); clear HX x0 x1 x2 x3; (try clear y1 y2); have HX := HX2; clear HX2; have HA2 := Aside0.mk (HA.out.trans (hbx.mono HA.out.size)); clear HA; have HA := HA2; clear HA2; have x0 := HX.out.x1.cell0; have x1 := HX.out.x1.cell1; have x2 := HX.out.x2.cell0; have x3 := HX.out.x2.cell1; have y1 := HX.out.x1.lt; have y2 := HX.out.x2.lt; clear hbx hg6 hk6 hm6))
  rename_i Q1 K hK
  obtain ⟨Y, hY⟩ : ∃ Y, ((W2.alloc (.cells #[.bool g6, .slice Aq k6 cq] 77)).alloc (.cells #[.bool false, .slice Ar kr cr] 77)) = Y := ⟨_, rfl⟩
  have hyb : Below W2.heap.size W2 Y := by subst hY; repeat (first | exact Below.refl _ _ | apply below_alloc)
  have HQ : Aside0 (QR Y W2.heap.size (W2.heap.size + 1) g6 Aq k6 cq false Ar kr cr) := ⟨by subst hY; exact QR.new _ _ _ _ _ _ _ _ _⟩
  have HX2 := Aside0.mk (HX.out.below hyb)
  have HA2 := Aside0.mk (HA.out.trans (hyb.mono HA.out.size))
  have HM62 := Aside0.mk (And.intro HM6.out.1 (And.intro HM6.out.2.1 (HM6.out.2.2.below hyb)))
  have HMR2 := Aside0.mk (And.intro HMR.out.1 (And.intro (HMR.out.2.below hyb) (HMR.out.2.below hyb).rl))
  have HPX : Aside0 (w.heap.size + 1 + 1 + 1 < W2.heap.size) := ⟨HX.out.o2.lt⟩
  have HP : Aside0 ((W2.heap.size ≠ w.heap.size + 1 + 1 ∧ W2.heap.size + 1 ≠ w.heap.size + 1 + 1) ∧ (W2.heap.size ≠ w.heap.size + 1 + 1 + 1 ∧ W2.heap.size + 1 ≠ w.heap.size + 1 + 1 + 1)) := ⟨by have := HPX.out; omega⟩
  clear HX HA HM6 HMR hyb x0 x1 x2 x3 y1 y2
  have HX := HX2
  have HA := HA2
  have HM6 := HM62
  have HMR := HMR2
  clear HX2 HA2 HM62 HMR2
  rw [hY]
  clear hY
  have z0 := HQ.out.1.cell0
  have z1 := HQ.out.1.cell1
  have z2 := HQ.out.2.cell0
  have z3 := HQ.out.2.cell1
  generalize W2.heap.size = p at *
  refine wp_region_held_drew (S := (fun V => V.cell? ⟨p, 0, none⟩ = some (.bool g6) ∧ V.cell? ⟨p, 1, none⟩ = some (.slice Aq k6 cq) ∧ V.cell? ⟨p + 1, 0, none⟩ = some (.bool false) ∧ V.cell? ⟨p + 1, 1, none⟩ = some (.slice Ar kr cr))) (by kernel_rfl) ?_ (fun hHeld => ?_)
  ·exact ⟨z0, z1, z2, z3⟩
  (obtain ⟨Z, hZ⟩ : ∃ Z, Y.drew = Z := ⟨_, rfl⟩; have hbx : Below Y.heap.size Y Z := (by subst hZ; exact below_drew1 (Below.refl _ _)); have HQ2 := Aside0.mk (And.intro (HQ.out.1.below hbx) (HQ.out.2.below hbx)); clear HQ; have HQ := HQ2; clear HQ2; have HM62 := Aside0.mk (And.intro HM6.out.1 (And.intro HM6.out.2.1 (HM6.out.2.2.below hbx))); clear HM6; have HM6 := HM62; clear HM62; have HX2 := Aside0.mk (HX.out.below hbx); clear HX; have HX := HX2; clear HX2; have HA2 := Aside0.mk (HA.out.trans (hbx.mono HA.out.size)); clear HA; have HA := HA2; clear HA2; have HMR2 := Aside0.mk (And.intro HMR.out.1 (And.intro (HMR.out.2.1.below hbx) (HMR.out.2.1.below hbx).rl)); clear HMR; have HMR := HMR2; clear HMR2; rw [hZ] at hHeld ⊢; clear hZ hbx z0 z1 z2 z3)
  refine tp 0 ?_
  try simp only [PU]
  refine tp 1 ?_
  try simp only [PU]
  refine tc 2 fun K hK => ?_
  go_simp
  (go_at_call 137; (with_reducible refine (rtrim_sign HMR.out.2.2 HMR.out.1 (dg_lt QQ1 _) _).mono ?_); rintro e W5 ⟨k7, g7, rfl, hg7, hk7, hm7, hbx⟩; have HM7 := Aside0.mk (And.intro hk7 (And.intro hg7 (hm7.val (val_dg QQ1 _)))); have HQ2 := Aside0.mk (And.intro (HQ.out.1.below hbx) (HQ.out.2.below hbx)); clear HQ; have HQ := HQ2; clear HQ2; have HM62 := Aside0.mk (And.intro HM6.out.1 (And.intro HM6.out.2.1 (HM6.out.2.2.below hbx))); clear HM6; have HM6 := HM62; clear HM62; have HX2 := Aside0.mk (HX.out.below hbx); clear HX; have HX := HX2; clear HX2; have HA2 := Aside0.mk (HA.out.trans (hbx.mono HA.out.size)); clear HA; have HA := HA2; clear HA2; have q0 := HX.out.o1.cell0; have q1 := HX.out.o1.cell1; have q2 := HX.out.o1.fr 0; have q3 := HX.out.o1.fr 1; have q4 := HX.out.o2.cell0; have q5 := HX.out.o2.cell1; have q6 := HX.out.o2.fr 0; have q7 := HX.out.o2.fr 1; clear hg7 hk7 hm7)
  refine hK.out _ _ ?_ fun hHeld => ?_
  ·(first | exact ⟨keepB2 hbx hHeld.1, keepB2 hbx hHeld.2.1, keepB2 hbx hHeld.2.2.1, keepB2 hbx hHeld.2.2.2⟩ | exact ⟨cell_far2 hHeld.1 HP.out.1.1, cell_far2 hHeld.2.1 HP.out.1.1, cell_far2 hHeld.2.2.1 HP.out.1.2, cell_far2 hHeld.2.2.2 HP.out.1.2⟩ | exact ⟨cell_far2 hHeld.1 HP.out.2.1, cell_far2 hHeld.2.1 HP.out.2.1, cell_far2 hHeld.2.2.1 HP.out.2.2, cell_far2 hHeld.2.2.2 HP.out.2.2⟩)
  clear hK K; try simp only [PU]
  refine tc 3 fun K hK => ?_
  go_simp
  refine hK.out _ _ ?_ fun hHeld => ?_
  ·(first | exact ⟨keepB2 hbx hHeld.1, keepB2 hbx hHeld.2.1, keepB2 hbx hHeld.2.2.1, keepB2 hbx hHeld.2.2.2⟩ | exact ⟨cell_far2 hHeld.1 HP.out.1.1, cell_far2 hHeld.2.1 HP.out.1.1, cell_far2 hHeld.2.2.1 HP.out.1.2, cell_far2 hHeld.2.2.2 HP.out.1.2⟩ | exact ⟨cell_far2 hHeld.1 HP.out.2.1, cell_far2 hHeld.2.1 HP.out.2.1, cell_far2 hHeld.2.2.1 HP.out.2.2, cell_far2 hHeld.2.2.2 HP.out.2.2⟩)
  clear hK K; try simp only [PU]
  refine tc 4 fun K hK => ?_
  go_simp
  refine hK.out _ _ ?_ fun hHeld => ?_
  ·(first | exact ⟨keepB2 hbx hHeld.1, keepB2 hbx hHeld.2.1, keepB2 hbx hHeld.2.2.1, keepB2 hbx hHeld.2.2.2⟩ | exact ⟨cell_far2 hHeld.1 HP.out.1.1, cell_far2 hHeld.2.1 HP.out.1.1, cell_far2 hHeld.2.2.1 HP.out.1.2, cell_far2 hHeld.2.2.2 HP.out.1.2⟩ | exact ⟨cell_far2 hHeld.1 HP.out.2.1, cell_far2 hHeld.2.1 HP.out.2.1, cell_far2 hHeld.2.2.1 HP.out.2.2, cell_far2 hHeld.2.2.2 HP.out.2.2⟩)
  clear hK K; try simp only [PU]
  refine wpAnyH_done (by kernel_rfl) ?_ _
  refine hK _ _ ?_
  go_wp2
  obtain ⟨o1, o2, o3, o4, o5⟩ := out2 HX.out HA.out rfl HM6.out.2.2 HM7.out.2.2 g6 g7 cq cr
  exact over_ret rfl rfl o1 o2 ⟨Aq, k6, cq, Ar, k7, cr, by rw [HM6.out.2.1, HM7.out.2.1]; first | rfl | (simp; done), HM6.out.1, HM7.out.1, o3, o4, o5⟩
 ·go_wp2_with (first | (go_at_call 152; (with_reducible refine (HOV.out _ HA.out).mono ?_); rintro e W1 ⟨Aq, kq, cq, Ar, kr, cr, rfl, hq, hr, hmq, hmr, hbx⟩; (obtain rfl : kr = 0 := hmr.len_zero.2 (HCC.out (by first | rfl | trivial))); have HMQ := Aside0.mk (And.intro hq (And.intro hmq hmq.rl)); have HMR := Aside0.mk (And.intro hr hmr); have HX2 := Aside0.mk (HX.out.below hbx); clear HX x0 x1 x2 x3; (try clear y1 y2); have HX := HX2; clear HX2; have HA2 := Aside0.mk (HA.out.trans (hbx.mono HA.out.size)); clear HA; have HA := HA2; clear HA2; have x0 := HX.out.x1.cell0; have x1 := HX.out.x1.cell1; have x2 := HX.out.x2.cell0; have x3 := HX.out.x2.cell1; have y1 := HX.out.x1.lt; have y2 := HX.out.x2.lt; clear hbx hq hr hmq hmr) | (go_at_call 137; (with_reducible refine (rtrim_sign HMQ.out.2.2 HMQ.out.1 (dg_lt QQ1 _) _).mono ?_); rintro e W2 ⟨k6, g6, rfl, hg6, hk6, hm6, hbx⟩; have HM6 := Aside0.mk (And.intro hk6 (And.intro (hg6.trans (by rw [val_dg QQ1])) (hm6.val (val_dg QQ1 _)))); have HMR2 := Aside0.mk (And.intro HMR.out.1 (HMR.out.2.below hbx)); clear HMR; have HMR := HMR2; clear HMR2; have HX2 := Aside0.mk (HX.out.below hbx); clear HX x0 x1 x2 x3; (try clear y1 y2); have HX := HX2; clear HX2; have HA2 := Aside0.mk (HA.out.trans (hbx.mono HA.out.size)); clear HA; have HA := HA2; clear HA2; have x0 := HX.out.x1.cell0; have x1 := HX.out.x1.cell1; have x2 := HX.out.x2.cell0; have x3 := HX.out.x2.cell1; have y1 := HX.out.x1.lt; have y2 := HX.out.x2.lt; clear hbx hg6 hk6 hm6))
  rename_i Q1 K hK
  obtain ⟨Y, hY⟩ : ∃ Y, ((W2.alloc (.cells #[.bool g6, .slice Aq k6 cq] 77)).alloc (.cells #[.bool false, .slice Ar 0 cr] 77)) = Y := ⟨_, rfl⟩
  have hyb : Below W2.heap.size W2 Y := by subst hY; repeat (first | exact Below.refl _ _ | apply below_alloc)
  have HQ : Aside0 (QR Y W2.heap.size (W2.heap.size + 1) g6 Aq k6 cq false Ar 0 cr) := ⟨by subst hY; exact QR.new _ _ _ _ _ _ _ _ _⟩
  have HX2 := Aside0.mk (HX.out.below hyb)
  have HA2 := Aside0.mk (HA.out.trans (hyb.mono HA.out.size))
  have HM62 := Aside0.mk (And.intro HM6.out.1 (And.intro HM6.out.2.1 (HM6.out.2.2.below hyb)))
  have HMR2 := Aside0.mk (And.intro HMR.out.1 (And.intro (HMR.out.2.below hyb) (HMR.out.2.below hyb).rl))
  have HPX : Aside0 (w.heap.size + 1 + 1 + 1 < W2.heap.size) := ⟨HX.out.o2.lt⟩
  have HP : Aside0 ((W2.heap.size ≠ w.heap.size + 1 + 1 ∧ W2.heap.size + 1 ≠ w.heap.size + 1 + 1) ∧ (W2.heap.size ≠ w.heap.size + 1 + 1 + 1 ∧ W2.heap.size + 1 ≠ w.heap.size + 1 + 1 + 1)) := ⟨by have := HPX.out; omega⟩
  clear HX HA HM6 HMR hyb x0 x1 x2 x3 y1 y2
  have HX := HX2
  have HA := HA2
  have HM6 := HM62
  have HMR := HMR2
  clear HX2 HA2 HM62 HMR2
  rw [hY]
  clear hY
  have z0 := HQ.out.1.cell0
  have z1 := HQ.out.1.cell1
  have z2 := HQ.out.2.cell0
  have z3 := HQ.out.2.cell1
  generalize W2.heap.size = p at *
  refine wp_region_held_drew (S := (fun V => V.cell? ⟨p, 0, none⟩ = some (.bool g6) ∧ V.cell? ⟨p, 1, none⟩ = some (.slice Aq k6 cq) ∧ V.cell? ⟨p + 1, 0, none⟩ = some (.bool false) ∧ V.cell? ⟨p + 1, 1, none⟩ = some (.slice Ar 0 cr))) (by kernel_rfl) ?_ (fun hHeld => ?_)
  ·exact ⟨z0, z1, z2, z3⟩
  (obtain ⟨Z, hZ⟩ : ∃ Z, Y.drew = Z := ⟨_, rfl⟩; have hbx : Below Y.heap.size Y Z := (by subst hZ; exact below_drew1 (Below.refl _ _)); have HQ2 := Aside0.mk (And.intro (HQ.out.1.below hbx) (HQ.out.2.below hbx)); clear HQ; have HQ := HQ2; clear HQ2; have HM62 := Aside0.mk (And.intro HM6.out.1 (And.intro HM6.out.2.1 (HM6.out.2.2.below hbx))); clear HM6; have HM6 := HM62; clear HM62; have HX2 := Aside0.mk (HX.out.below hbx); clear HX; have HX := HX2; clear HX2; have HA2 := Aside0.mk (HA.out.trans (hbx.mono HA.out.size)); clear HA; have HA := HA2; clear HA2; have HMR2 := Aside0.mk (And.intro HMR.out.1 (And.intro (HMR.out.2.1.below hbx) (HMR.out.2.1.below hbx).rl)); clear HMR; have HMR := HMR2; clear HMR2; rw [hZ] at hHeld ⊢; clear hZ hbx z0 z1 z2 z3)
  refine tp 0 ?_
  try simp only [PU]
  refine tp 1 ?_
  try simp only [PU]
  refine tc 2 fun K hK => ?_
  go_simp
  (go_at_call 137; (with_reducible refine (rtrim_sign HMR.out.2.2 HMR.out.1 (dg_lt QQ1 _) _).mono ?_); rintro e W5 ⟨k7, g7, rfl, hg7, hk7, hm7, hbx⟩; have HM7 := Aside0.mk (And.intro hk7 (And.intro hg7 (hm7.val (val_dg QQ1 _)))); have HQ2 := Aside0.mk (And.intro (HQ.out.1.below hbx) (HQ.out.2.below hbx)); clear HQ; have HQ := HQ2; clear HQ2; have HM62 := Aside0.mk (And.intro HM6.out.1 (And.intro HM6.out.2.1 (HM6.out.2.2.below hbx))); clear HM6; have HM6 := HM62; clear HM62; have HX2 := Aside0.mk (HX.out.below hbx); clear HX; have HX := HX2; clear HX2; have HA2 := Aside0.mk (HA.out.trans (hbx.mono HA.out.size)); clear HA; have HA := HA2; clear HA2; have q0 := HX.out.o1.cell0; have q1 := HX.out.o1.cell1; have q2 := HX.out.o1.fr 0; have q3 := HX.out.o1.fr 1; have q4 := HX.out.o2.cell0; have q5 := HX.out.o2.cell1; have q6 := HX.out.o2.fr 0; have q7 := HX.out.o2.fr 1; clear hg7 hk7 hm7)
  refine hK.out _ _ ?_ fun hHeld => ?_
  ·(first | exact ⟨keepB2 hbx hHeld.1, keepB2 hbx hHeld.2.1, keepB2 hbx hHeld.2.2.1, keepB2 hbx hHeld.2.2.2⟩ | exact ⟨cell_far2 hHeld.1 HP.out.1.1, cell_far2 hHeld.2.1 HP.out.1.1, cell_far2 hHeld.2.2.1 HP.out.1.2, cell_far2 hHeld.2.2.2 HP.out.1.2⟩ | exact ⟨cell_far2 hHeld.1 HP.out.2.1, cell_far2 hHeld.2.1 HP.out.2.1, cell_far2 hHeld.2.2.1 HP.out.2.2, cell_far2 hHeld.2.2.2 HP.out.2.2⟩)
  clear hK K; try simp only [PU]
  refine tc 3 fun K hK => ?_
  go_simp
  refine hK.out _ _ ?_ fun hHeld => ?_
  ·(first | exact ⟨keepB2 hbx hHeld.1, keepB2 hbx hHeld.2.1, keepB2 hbx hHeld.2.2.1, keepB2 hbx hHeld.2.2.2⟩ | exact ⟨cell_far2 hHeld.1 HP.out.1.1, cell_far2 hHeld.2.1 HP.out.1.1, cell_far2 hHeld.2.2.1 HP.out.1.2, cell_far2 hHeld.2.2.2 HP.out.1.2⟩ | exact ⟨cell_far2 hHeld.1 HP.out.2.1, cell_far2 hHeld.2.1 HP.out.2.1, cell_far2 hHeld.2.2.1 HP.out.2.2, cell_far2 hHeld.2.2.2 HP.out.2.2⟩)
  clear hK K; try simp only [PU]
  refine tc 4 fun K hK => ?_
  go_simp
  refine hK.out _ _ ?_ fun hHeld => ?_
  ·(first | exact ⟨keepB2 hbx hHeld.1, keepB2 hbx hHeld.2.1, keepB2 hbx hHeld.2.2.1, keepB2 hbx hHeld.2.2.2⟩ | exact ⟨cell_far2 hHeld.1 HP.out.1.1, cell_far2 hHeld.2.1 HP.out.1.1, cell_far2 hHeld.2.2.1 HP.out.1.2, cell_far2 hHeld.2.2.2 HP.out.1.2⟩ | exact ⟨cell_far2 hHeld.1 HP.out.2.1, cell_far2 hHeld.2.1 HP.out.2.1, cell_far2 hHeld.2.2.1 HP.out.2.2, cell_far2 hHeld.2.2.2 HP.out.2.2⟩)
  clear hK K; try simp only [PU]
  refine wpAnyH_done (by kernel_rfl) ?_ _
  refine hK _ _ ?_
  go_wp2
  obtain ⟨o1, o2, o3, o4, o5⟩ := out2 HX.out HA.out rfl HM6.out.2.2 HM7.out.2.2 g6 g7 cq cr
  exact over_ret rfl rfl o1 o2 ⟨Aq, k6, cq, Ar, k7, cr, by rw [HM6.out.2.1, HM7.out.2.1]; first | rfl | (simp; done), HM6.out.1, HM7.out.1, o3, o4, o5⟩
theorem rOver_adj {w : World} {A1 A2 : Option Addr} {L1 L2 c1 c2 m n : Nat} {f2 gz : Bool} {xq z : Int} {zn : Nat} (hgz : gz = decide (z < 0)) (hzn : zn = z.natAbs) (h1 : RM w A1 L1 m) (h2 : RM w A2 L2 n) (h0 : 0 < n) (hL1 : L1 ≤ 40000) (hL2 : L2 ≤ 40000) (hr0 : m % n ≠ 0) (hxn : xq.natAbs = m / n) (hxf : ((!f2) && decide (m / n ≠ 0)) = decide (xq < 0)) (hz : z = if f2 = true then xq + 1 else xq - 1) :
 Calls Tryz.prog 92 #[.agg #[.bool true, .slice A1 L1 c1], .agg #[.bool f2, .slice A2 L2 c2]] w fun e w' => ∃ A k c A' k' c', e = .returned (.tuple #[.agg #[.bool gz, .slice A k c], .agg #[.bool false, .slice A' k' c']]) ∧ k ≤ c ∧ k' ≤ c' ∧ RM w' A k zn ∧ RM w' A' k' (n - m % n) ∧ Below w.heap.size w w' := by
 have HOV : Aside0 (∀ W, Below w.heap.size w W → Calls Tryz.prog 152 #[.slice A1 L1 c1, .slice A2 L2 c2] W fun e w' => ∃ A k c A' k' c', e = .returned (.tuple #[.slice A k c, .slice A' k' c']) ∧ k ≤ c ∧ k' ≤ c' ∧ RM w' A k (m / n) ∧ RM w' A' k' (m % n) ∧ Below W.heap.size W w') := ⟨fun W hb => rover_calls (h1.below hb) (h2.below hb) h0 hL1 hL2⟩
 have H2 := h2.at_below
 have HMN : Aside0 (m % n ≤ n ∧ L2 ≤ 100000 ∧ m < QQ ^ L1) := ⟨Nat.le_of_lt (Nat.mod_lt _ h0), by omega, by have := dg_lt_pow QQ1 m; rwa [h1.len] at this⟩
 have HXF := Aside0.mk (And.intro hxn hxf)
 clear h1 h2 hxn hxf
 go_enter Tryz.func92, Tryz.ntmps92
 go_wp2_with fail
 obtain ⟨wr, hwr⟩ : ∃ wr, ((((w.alloc (.cells #[.bool true, .slice A1 L1 c1] 77)).alloc (.cells #[.bool f2, .slice A2 L2 c2] 77)).alloc (.cells #[.bool false, .slice none 0 0] 77)).alloc (.cells #[.bool false, .slice none 0 0] 77)) = wr := ⟨_, rfl⟩
 have HX : Aside0 (F4 wr w.heap.size true A1 L1 c1 f2 A2 L2 c2) := ⟨by subst hwr; exact F4.new _ _ _ _ _ _ _ _ _⟩
 have HA : Aside0 (Below w.heap.size w wr) := ⟨by subst hwr; repeat (first | exact Below.refl _ _ | apply below_alloc)⟩
 have x0 := HX.out.x1.cell0
 have x1 := HX.out.x1.cell1
 have x2 := HX.out.x2.cell0
 have x3 := HX.out.x2.cell1
 rw [hwr]
 clear hwr
 go_upto_region 4 with (first | (go_at_call 152; (with_reducible refine (HOV.out _ HA.out).mono ?_); rintro e W1 ⟨Aq, kq, cq, Ar, kr, cr, rfl, hq, hr, hmq, hmr, hbx⟩; (have hkp : 0 < kr := Nat.pos_of_ne_zero (fun e => hr0 (hmr.len_zero.1 e)); have hkp2 : (0 : Int) < (kr : Int) := (by omega)); have HMQ := Aside0.mk (And.intro hq (And.intro hmq hmq.rl)); have HMR := Aside0.mk (And.intro hr hmr); have HX2 := Aside0.mk (HX.out.below hbx); clear HX x0 x1 x2 x3; (try clear y1 y2); have HX := HX2; clear HX2; have HA2 := Aside0.mk (HA.out.trans (hbx.mono HA.out.size)); clear HA; have HA := HA2; clear HA2; have x0 := HX.out.x1.cell0; have x1 := HX.out.x1.cell1; have x2 := HX.out.x2.cell0; have x3 := HX.out.x2.cell1; have y1 := HX.out.x1.lt; have y2 := HX.out.x2.lt; clear hbx hq hr hmq hmr) | (go_at_call 137; (with_reducible refine (rtrim_sign HMQ.out.2.2 HMQ.out.1 (dg_lt QQ1 _) _).mono ?_); rintro e W2 ⟨k6, g6, rfl, hg6, hk6, hm6, hbx⟩; have HM6 := Aside0.mk (And.intro hk6 (And.intro (hg6.trans (by rw [val_dg QQ1])) (hm6.val (val_dg QQ1 _)))); have HMR2 := Aside0.mk (And.intro HMR.out.1 (HMR.out.2.below hbx)); clear HMR; have HMR := HMR2; clear HMR2; have HX2 := Aside0.mk (HX.out.below hbx); clear HX x0 x1 x2 x3; (try clear y1 y2); have HX := HX2; clear HX2; have HA2 := Aside0.mk (HA.out.trans (hbx.mono HA.out.size)); clear HA; have HA := HA2; clear HA2; have x0 := HX.out.x1.cell0; have x1 := HX.out.x1.cell1; have x2 := HX.out.x2.cell0; have x3 := HX.out.x2.cell1; have y1 := HX.out.x1.lt; have y2 := HX.out.x2.lt; clear hbx hg6 hk6 hm6))
 rename_i K hK
 obtain ⟨Y, hY⟩ : ∃ Y, ((W2.alloc (.cells #[.bool g6, .slice Aq k6 cq] 77)).alloc (.cells #[.bool false, .slice Ar kr cr] 77)) = Y := ⟨_, rfl⟩
 have hyb : Below W2.heap.size W2 Y := by subst hY; repeat (first | exact Below.refl _ _ | apply below_alloc)
 have HQ : Aside0 (QR Y W2.heap.size (W2.heap.size + 1) g6 Aq k6 cq false Ar kr cr) := ⟨by subst hY; exact QR.new _ _ _ _ _ _ _ _ _⟩
 have HX2 := Aside0.mk (HX.out.below hyb)
 have HA2 := Aside0.mk (HA.out.trans (hyb.mono HA.out.size))
 have HM62 := Aside0.mk (And.intro HM6.out.1 (And.intro HM6.out.2.1 (HM6.out.2.2.below hyb)))
 have HMR2 := Aside0.mk (And.intro HMR.out.1 (And.intro (HMR.out.2.below hyb) (HMR.out.2.below hyb).rl))
 have HPX : Aside0 (w.heap.size + 1 + 1 + 1 < W2.heap.size) := ⟨HX.out.o2.lt⟩
 have HP : Aside0 ((W2.heap.size ≠ w.heap.size + 1 + 1 ∧ W2.heap.size + 1 ≠ w.heap.size + 1 + 1) ∧ (W2.heap.size ≠ w.heap.size + 1 + 1 + 1 ∧ W2.heap.size + 1 ≠ w.heap.size + 1 + 1 + 1)) := ⟨by have := HPX.out; omega⟩
 clear HX HA HM6 HMR hyb x0 x1 x2 x3 y1 y2
 have HX := HX2
 have HA := HA2
 have HM6 := HM62
 have HMR := HMR2
 clear HX2 HA2 HM62 HMR2
 rw [hY]
 clear hY
 have z0 := HQ.out.1.cell0
 have z1 := HQ.out.1.cell1
 have z2 := HQ.out.2.cell0
 have z3 := HQ.out.2.cell1
 generalize W2.heap.size = p at *
 have x2 := HX.out.x2.cell0
 have x3 := HX.out.x2.cell1
 go_upto_region 5 with (first | (go_at_call 148; (with_reducible refine (rminus_calls (H2.out _ HA.out) HMR.out.2.1 HMN.out.1 HMN.out.2.1).mono ?_); rintro e W3 ⟨A5, k5, c5, rfl, hk5, hm5, hbx⟩; have HM5 := Aside0.mk (And.intro hk5 hm5); have HQ2 := Aside0.mk (And.intro (HQ.out.1.below hbx) (HQ.out.2.below hbx)); clear HQ; have HQ := HQ2; clear HQ2; have HM62 := Aside0.mk (And.intro HM6.out.1 (And.intro HM6.out.2.1 (HM6.out.2.2.below hbx))); clear HM6; have HM6 := HM62; clear HM62; have HX2 := Aside0.mk (HX.out.below hbx); clear HX; have HX := HX2; clear HX2; have HA2 := Aside0.mk (HA.out.trans (hbx.mono HA.out.size)); clear HA; have HA := HA2; clear HA2; clear hbx hk5 hm5 z0 z1 z2 z3 x2 x3; have z2 := HQ.out.2.cell0; have z3 := HQ.out.2.cell1; have z4 := HQ.out.2.fr 0; have z5 := HQ.out.2.fr 1))
 have hq1 := HQ.out.2.put0 false
 obtain ⟨Y2, hY2⟩ : ∃ Y2, ((W3.setCell ⟨p + 1, 0, none⟩ (.bool false)).setCell ⟨p + 1, 1, none⟩ (.slice A5 k5 c5)) = Y2 := ⟨_, rfl⟩
 have HQ2 : Aside0 (QR Y2 p (p + 1) g6 Aq k6 cq false A5 k5 c5) := ⟨by subst hY2; exact ⟨(HQ.out.1.other (by omega) _ _).other (by omega) _ _, hq1.put1 _ _ _⟩⟩
 have HX2 : Aside0 (F4 Y2 w.heap.size true A1 L1 c1 f2 A2 L2 c2) := ⟨by subst hY2; exact (HX.out.other (by have := HPX.out; omega) _ _).other (by have := HPX.out; omega) _ _⟩
 have HA2 : Aside0 (Below w.heap.size w Y2) := ⟨by subst hY2; exact (HA.out.setCell (by have := HPX.out; simp; omega) _).setCell (by have := HPX.out; simp; omega) _⟩
 have HM62 := Aside0.mk (And.intro HM6.out.1 (And.intro HM6.out.2.1 (show RM Y2 Aq k6 (m / n) by subst hY2; exact (HM6.out.2.2.bg HQ.out.2 0 _).bg hq1 1 _)))
 have HM52 := Aside0.mk (And.intro HM5.out.1 (show RM Y2 A5 k5 (n - m % n) by subst hY2; exact (HM5.out.2.bg HQ.out.2 0 _).bg hq1 1 _))
 clear HQ HX HA HM6 HM5 HMR z2 z3 z4 z5 hq1
 have HQ := HQ2
 have HX := HX2
 have HA := HA2
 have HM6 := HM62
 have HM5 := HM52
 clear HQ2 HX2 HA2 HM62 HM52
 rw [hY2]
 clear hY2
 have HPL : Aside0 (∀ (W : World) (A8 : Option Addr) (k8 c8 : Nat), RM W Aq k6 (m / n) → k8 ≤ c8 → RM W A8 k8 1 → Calls Tryz.prog (if f2 = true then 82 else 84) #[.agg #[.bool g6, .slice Aq k6 cq], .agg #[.bool false, .slice A8 k8 c8]] W fun e w' => ∃ A k c, e = .returned (.agg #[.bool gz, .slice A k c]) ∧ k ≤ c ∧ RM w' A k zn ∧ Below W.heap.size W w') := ⟨fun W A8 k8 c8 hq hc h8 => by
  subst hgz hzn
  have hk6 : k6 ≤ 100000 := Nat.le_trans (hq.bound (Nat.lt_of_le_of_lt (Nat.div_le_self _ _) HMN.out.2.2)) (by omega)
  have hk8 : k8 ≤ 1 := h8.bound (by decide)
  have hq' : RM W Aq k6 xq.natAbs := hq.val HXF.out.1.symm
  rw [HM6.out.2.1, HXF.out.2, hz]
  cases f2
  ·exact rMinus_calls (x := xq) (y := 1) hq' h8 hc hk6 (by omega)
  ·exact rPlus_calls (x := xq) (y := 1) hq' h8 hk6 (by omega)⟩
 have HSM : Aside0 (∀ W, Calls Tryz.prog 70 #[.int .i64 1] W fun e w' => ∃ A k c, e = .returned (.agg #[.bool false, .slice A k c]) ∧ k ≤ c ∧ RM w' A k 1 ∧ Below W.heap.size W w') := ⟨fun W => rSmall_calls (w := W) (n := 1) (by omega) (by omega)⟩
 clear hz HXF hgz hzn
 have x2 := HX.out.x2.cell0
 cases f2
 ·skip
  have HPL2 : Aside0 (∀ (W : World) (A8 : Option Addr) (k8 c8 : Nat), RM W Aq k6 (m / n) → k8 ≤ c8 → RM W A8 k8 1 → Calls Tryz.prog 84 #[.agg #[.bool g6, .slice Aq k6 cq], .agg #[.bool false, .slice A8 k8 c8]] W fun e w' => ∃ A k c, e = .returned (.agg #[.bool gz, .slice A k c]) ∧ k ≤ c ∧ RM w' A k zn ∧ Below W.heap.size W w') := ⟨HPL.out⟩
  clear HPL
  go_upto_region 7 with fail
  clear x2
  rename_i K hK
  refine wp_region_held_drew (S := (fun _ => True)) (by kernel_rfl) ?_ (fun hHeld => ?_)
  ·trivial
  (obtain ⟨Z, hZ⟩ : ∃ Z, Y2.drew = Z := ⟨_, rfl⟩; have hbx : Below Y2.heap.size Y2 Z := (by subst hZ; exact below_drew1 (Below.refl _ _)); have HQ2 := Aside0.mk (And.intro (HQ.out.1.below hbx) (HQ.out.2.below hbx)); clear HQ; have HQ := HQ2; clear HQ2; have HM62 := Aside0.mk (And.intro HM6.out.1 (And.intro HM6.out.2.1 (HM6.out.2.2.below hbx))); clear HM6; have HM6 := HM62; clear HM62; have HX2 := Aside0.mk (HX.out.below hbx); clear HX; have HX := HX2; clear HX2; have HA2 := Aside0.mk (HA.out.trans (hbx.mono HA.out.size)); clear HA; have HA := HA2; clear HA2; have HM52 := Aside0.mk (And.intro HM5.out.1 (HM5.out.2.below hbx)); clear HM5; have HM5 := HM52; clear HM52; have z0 := HQ.out.1.cell0; have z1 := HQ.out.1.cell1; have z6 := HQ.out.1.fr 0; have z7 := HQ.out.1.fr 1; rw [hZ]; clear hZ hbx)
  refine wpAnyH_ready (rs := [0, 1]) (by kernel_rfl) (by simp) ?_
  refine AllReadyH.cons rfl (fun K hK => ?_) (AllReadyH.cons rfl (fun K hK => ?_) (AllReadyH.nil))
  focus
   go_simp
   refine hK.out _ _ ?_ fun hHeld => ?_
   ·trivial
   clear hK K; try simp only [PU]
   refine tc 1 fun K hK => ?_
   go_simp
   (go_at_call 70; (with_reducible refine (HSM.out _).mono ?_); rintro e W6 ⟨A8, k8, c8, rfl, hk8, hm8, hbx⟩; have HM8 := Aside0.mk (And.intro hk8 hm8); clear z0 z1 z6 z7; have HQ2 := Aside0.mk (And.intro (HQ.out.1.below hbx) (HQ.out.2.below hbx)); clear HQ; have HQ := HQ2; clear HQ2; have HM62 := Aside0.mk (And.intro HM6.out.1 (And.intro HM6.out.2.1 (HM6.out.2.2.below hbx))); clear HM6; have HM6 := HM62; clear HM62; have HX2 := Aside0.mk (HX.out.below hbx); clear HX; have HX := HX2; clear HX2; have HA2 := Aside0.mk (HA.out.trans (hbx.mono HA.out.size)); clear HA; have HA := HA2; clear HA2; have HM52 := Aside0.mk (And.intro HM5.out.1 (HM5.out.2.below hbx)); clear HM5; have HM5 := HM52; clear HM52; have z0 := HQ.out.1.cell0; have z1 := HQ.out.1.cell1; have z6 := HQ.out.1.fr 0; have z7 := HQ.out.1.fr 1; clear hbx hk8 hm8)
   refine hK.out _ _ ?_ fun hHeld => ?_
   ·trivial
   clear hK K; try simp only [PU]
   refine tc 2 fun K hK => ?_
   go_simp
   (go_at_call 84; (with_reducible refine (HPL2.out _ _ _ _ HM6.out.2.2 HM8.out.1 HM8.out.2).mono ?_); rintro e W7 ⟨A9, k9, c9, rfl, hk9, hm9, hbx⟩; have HM9 := Aside0.mk (And.intro hk9 hm9); clear z0 z1 z6 z7; have HQ2 := Aside0.mk (And.intro (HQ.out.1.below hbx) (HQ.out.2.below hbx)); clear HQ; have HQ := HQ2; clear HQ2; have HM62 := Aside0.mk (And.intro HM6.out.1 (And.intro HM6.out.2.1 (HM6.out.2.2.below hbx))); clear HM6; have HM6 := HM62; clear HM62; have HX2 := Aside0.mk (HX.out.below hbx); clear HX; have HX := HX2; clear HX2; have HA2 := Aside0.mk (HA.out.trans (hbx.mono HA.out.size)); clear HA; have HA := HA2; clear HA2; have HM52 := Aside0.mk (And.intro HM5.out.1 (HM5.out.2.below hbx)); clear HM5; have HM5 := HM52; clear HM52; have z0 := HQ.out.1.cell0; have z1 := HQ.out.1.cell1; have z6 := HQ.out.1.fr 0; have z7 := HQ.out.1.fr 1; clear hbx hk9 hm9)
   refine hK.out _ _ ?_ fun hHeld => ?_
   ·trivial
   clear hK K; try simp only [PU]
   refine tc 3 fun K hK => ?_
   go_simp
   refine hK.out _ _ ?_ fun hHeld => ?_
   ·trivial
   clear hK K; try simp only [PU]
   refine wpAnyH_done (by kernel_rfl) ?_ _
   (refine hK _ _ ?_; obtain ⟨Y, hY⟩ : ∃ Y, ((W7.setCell ⟨p, 0, none⟩ (.bool gz)).setCell ⟨p, 1, none⟩ (.slice A9 k9 c9)) = Y := ⟨_, rfl⟩; obtain ⟨HX2, HA2, HQ2, HM62, HMR⟩ := step_end HX HA HQ HM9 HM5 HPX hY; clear HQ HX HA HM6 HM5 HM9 z0 z1 z6 z7; have HQ := HQ2; have HX := HX2; have HA := HA2; have HM6 := HM62; clear HQ2 HX2 HA2 HM62; rw [hY]; clear hY; have HP : Aside0 ((p ≠ w.heap.size + 1 + 1 ∧ p + 1 ≠ w.heap.size + 1 + 1) ∧ (p ≠ w.heap.size + 1 + 1 + 1 ∧ p + 1 ≠ w.heap.size + 1 + 1 + 1)) := ⟨by have := HPX.out; omega⟩; have z0 := HQ.out.1.cell0; have z1 := HQ.out.1.cell1; have z2 := HQ.out.2.cell0; have z3 := HQ.out.2.cell1; go_wp2_with fail)
  rotate_left
  focus
   go_simp
   (go_at_call 70; (with_reducible refine (HSM.out _).mono ?_); rintro e W6 ⟨A8, k8, c8, rfl, hk8, hm8, hbx⟩; have HM8 := Aside0.mk (And.intro hk8 hm8); clear z0 z1 z6 z7; have HQ2 := Aside0.mk (And.intro (HQ.out.1.below hbx) (HQ.out.2.below hbx)); clear HQ; have HQ := HQ2; clear HQ2; have HM62 := Aside0.mk (And.intro HM6.out.1 (And.intro HM6.out.2.1 (HM6.out.2.2.below hbx))); clear HM6; have HM6 := HM62; clear HM62; have HX2 := Aside0.mk (HX.out.below hbx); clear HX; have HX := HX2; clear HX2; have HA2 := Aside0.mk (HA.out.trans (hbx.mono HA.out.size)); clear HA; have HA := HA2; clear HA2; have HM52 := Aside0.mk (And.intro HM5.out.1 (HM5.out.2.below hbx)); clear HM5; have HM5 := HM52; clear HM52; have z0 := HQ.out.1.cell0; have z1 := HQ.out.1.cell1; have z6 := HQ.out.1.fr 0; have z7 := HQ.out.1.fr 1; clear hbx hk8 hm8)
   refine hK.out _ _ ?_ fun hHeld => ?_
   ·trivial
   clear hK K; try simp only [PU]
   refine tc 0 fun K hK => ?_
   go_simp
   refine hK.out _ _ ?_ fun hHeld => ?_
   ·trivial
   clear hK K; try simp only [PU]
   refine tc 2 fun K hK => ?_
   go_simp
   (go_at_call 84; (with_reducible refine (HPL2.out _ _ _ _ HM6.out.2.2 HM8.out.1 HM8.out.2).mono ?_); rintro e W7 ⟨A9, k9, c9, rfl, hk9, hm9, hbx⟩; have HM9 := Aside0.mk (And.intro hk9 hm9); clear z0 z1 z6 z7; have HQ2 := Aside0.mk (And.intro (HQ.out.1.below hbx) (HQ.out.2.below hbx)); clear HQ; have HQ := HQ2; clear HQ2; have HM62 := Aside0.mk (And.intro HM6.out.1 (And.intro HM6.out.2.1 (HM6.out.2.2.below hbx))); clear HM6; have HM6 := HM62; clear HM62; have HX2 := Aside0.mk (HX.out.below hbx); clear HX; have HX := HX2; clear HX2; have HA2 := Aside0.mk (HA.out.trans (hbx.mono HA.out.size)); clear HA; have HA := HA2; clear HA2; have HM52 := Aside0.mk (And.intro HM5.out.1 (HM5.out.2.below hbx)); clear HM5; have HM5 := HM52; clear HM52; have z0 := HQ.out.1.cell0; have z1 := HQ.out.1.cell1; have z6 := HQ.out.1.fr 0; have z7 := HQ.out.1.fr 1; clear hbx hk9 hm9)
   refine hK.out _ _ ?_ fun hHeld => ?_
   ·trivial
   clear hK K; try simp only [PU]
   refine tc 3 fun K hK => ?_
   go_simp
   refine hK.out _ _ ?_ fun hHeld => ?_
   ·trivial
   clear hK K; try simp only [PU]
   refine wpAnyH_done (by kernel_rfl) ?_ _
   (refine hK _ _ ?_; obtain ⟨Y, hY⟩ : ∃ Y, ((W7.setCell ⟨p, 0, none⟩ (.bool gz)).setCell ⟨p, 1, none⟩ (.slice A9 k9 c9)) = Y := ⟨_, rfl⟩; obtain ⟨HX2, HA2, HQ2, HM62, HMR⟩ := step_end HX HA HQ HM9 HM5 HPX hY; clear HQ HX HA HM6 HM5 HM9 z0 z1 z6 z7; have HQ := HQ2; have HX := HX2; have HA := HA2; have HM6 := HM62; clear HQ2 HX2 HA2 HM62; rw [hY]; clear hY; have HP : Aside0 ((p ≠ w.heap.size + 1 + 1 ∧ p + 1 ≠ w.heap.size + 1 + 1) ∧ (p ≠ w.heap.size + 1 + 1 + 1 ∧ p + 1 ≠ w.heap.size + 1 + 1 + 1)) := ⟨by have := HPX.out; omega⟩; have z0 := HQ.out.1.cell0; have z1 := HQ.out.1.cell1; have z2 := HQ.out.2.cell0; have z3 := HQ.out.2.cell1; go_wp2_with fail)
  all_goals
   rename_i K hK
   refine wp_region_held_drew (S := (fun V => V.cell? ⟨p, 0, none⟩ = some (.bool gz) ∧ V.cell? ⟨p, 1, none⟩ = some (.slice A9 k9 c9) ∧ V.cell? ⟨p + 1, 0, none⟩ = some (.bool false) ∧ V.cell? ⟨p + 1, 1, none⟩ = some (.slice A5 k5 c5))) (by kernel_rfl) ?_ (fun hHeld => ?_)
   ·exact ⟨z0, z1, z2, z3⟩
   (obtain ⟨Z, hZ⟩ : ∃ Z, Y.drew = Z := ⟨_, rfl⟩; have hbx : Below Y.heap.size Y Z := (by subst hZ; exact below_drew1 (Below.refl _ _)); have HQ2 := Aside0.mk (And.intro (HQ.out.1.below hbx) (HQ.out.2.below hbx)); clear HQ; have HQ := HQ2; clear HQ2; have HM62 := Aside0.mk (And.intro HM6.out.1 (And.intro HM6.out.2.1 (HM6.out.2.2.below hbx))); clear HM6; have HM6 := HM62; clear HM62; have HX2 := Aside0.mk (HX.out.below hbx); clear HX; have HX := HX2; clear HX2; have HA2 := Aside0.mk (HA.out.trans (hbx.mono HA.out.size)); clear HA; have HA := HA2; clear HA2; have HMR2 := Aside0.mk (And.intro HMR.out.1 (And.intro (HMR.out.2.1.below hbx) (HMR.out.2.1.below hbx).rl)); clear HMR; have HMR := HMR2; clear HMR2; rw [hZ] at hHeld ⊢; clear hZ hbx z0 z1 z2 z3)
   refine tp 0 ?_
   try simp only [PU]
   refine tp 1 ?_
   try simp only [PU]
   refine tc 2 fun K hK => ?_
   go_simp
   (go_at_call 137; (with_reducible refine (rtrim_sign HMR.out.2.2 HMR.out.1 (dg_lt QQ1 _) _).mono ?_); rintro e W5 ⟨k7, g7, rfl, hg7, hk7, hm7, hbx⟩; have HM7 := Aside0.mk (And.intro hk7 (And.intro hg7 (hm7.val (val_dg QQ1 _)))); have HQ2 := Aside0.mk (And.intro (HQ.out.1.below hbx) (HQ.out.2.below hbx)); clear HQ; have HQ := HQ2; clear HQ2; have HM62 := Aside0.mk (And.intro HM6.out.1 (And.intro HM6.out.2.1 (HM6.out.2.2.below hbx))); clear HM6; have HM6 := HM62; clear HM62; have HX2 := Aside0.mk (HX.out.below hbx); clear HX; have HX := HX2; clear HX2; have HA2 := Aside0.mk (HA.out.trans (hbx.mono HA.out.size)); clear HA; have HA := HA2; clear HA2; have q0 := HX.out.o1.cell0; have q1 := HX.out.o1.cell1; have q2 := HX.out.o1.fr 0; have q3 := HX.out.o1.fr 1; have q4 := HX.out.o2.cell0; have q5 := HX.out.o2.cell1; have q6 := HX.out.o2.fr 0; have q7 := HX.out.o2.fr 1; clear hg7 hk7 hm7)
   refine hK.out _ _ ?_ fun hHeld => ?_
   ·(first | exact ⟨keepB2 hbx hHeld.1, keepB2 hbx hHeld.2.1, keepB2 hbx hHeld.2.2.1, keepB2 hbx hHeld.2.2.2⟩ | exact ⟨cell_far2 hHeld.1 HP.out.1.1, cell_far2 hHeld.2.1 HP.out.1.1, cell_far2 hHeld.2.2.1 HP.out.1.2, cell_far2 hHeld.2.2.2 HP.out.1.2⟩ | exact ⟨cell_far2 hHeld.1 HP.out.2.1, cell_far2 hHeld.2.1 HP.out.2.1, cell_far2 hHeld.2.2.1 HP.out.2.2, cell_far2 hHeld.2.2.2 HP.out.2.2⟩)
   clear hK K; try simp only [PU]
   refine tc 3 fun K hK => ?_
   go_simp
   refine hK.out _ _ ?_ fun hHeld => ?_
   ·(first | exact ⟨keepB2 hbx hHeld.1, keepB2 hbx hHeld.2.1, keepB2 hbx hHeld.2.2.1, keepB2 hbx hHeld.2.2.2⟩ | exact ⟨cell_far2 hHeld.1 HP.out.1.1, cell_far2 hHeld.2.1 HP.out.1.1, cell_far2 hHeld.2.2.1 HP.out.1.2, cell_far2 hHeld.2.2.2 HP.out.1.2⟩ | exact ⟨cell_far2 hHeld.1 HP.out.2.1, cell_far2 hHeld.2.1 HP.out.2.1, cell_far2 hHeld.2.2.1 HP.out.2.2, cell_far2 hHeld.2.2.2 HP.out.2.2⟩)
   clear hK K; try simp only [PU]
   refine tc 4 fun K hK => ?_
   go_simp
   refine hK.out _ _ ?_ fun hHeld => ?_
   ·(first | exact ⟨keepB2 hbx hHeld.1, keepB2 hbx hHeld.2.1, keepB2 hbx hHeld.2.2.1, keepB2 hbx hHeld.2.2.2⟩ | exact ⟨cell_far2 hHeld.1 HP.out.1.1, cell_far2 hHeld.2.1 HP.out.1.1, cell_far2 hHeld.2.2.1 HP.out.1.2, cell_far2 hHeld.2.2.2 HP.out.1.2⟩ | exact ⟨cell_far2 hHeld.1 HP.out.2.1, cell_far2 hHeld.2.1 HP.out.2.1, cell_far2 hHeld.2.2.1 HP.out.2.2, cell_far2 hHeld.2.2.2 HP.out.2.2⟩)
   clear hK K; try simp only [PU]
   refine wpAnyH_done (by kernel_rfl) ?_ _
   refine hK _ _ ?_
   go_wp2
   obtain ⟨o1, o2, o3, o4, o5⟩ := out2 HX.out HA.out rfl HM6.out.2.2 HM7.out.2.2 gz g7 c9 c5
   exact over_ret rfl rfl o1 o2 ⟨A9, k9, c9, A5, k7, c5, by rw [HM7.out.2.1]; first | rfl | (simp; done), HM6.out.1, HM7.out.1, o3, o4, o5⟩
 ·skip
  have HPL2 : Aside0 (∀ (W : World) (A8 : Option Addr) (k8 c8 : Nat), RM W Aq k6 (m / n) → k8 ≤ c8 → RM W A8 k8 1 → Calls Tryz.prog 82 #[.agg #[.bool g6, .slice Aq k6 cq], .agg #[.bool false, .slice A8 k8 c8]] W fun e w' => ∃ A k c, e = .returned (.agg #[.bool gz, .slice A k c]) ∧ k ≤ c ∧ RM w' A k zn ∧ Below W.heap.size W w') := ⟨HPL.out⟩
  clear HPL
  go_upto_region 6 with fail
  clear x2
  rename_i K hK
  refine wp_region_held_drew (S := (fun _ => True)) (by kernel_rfl) ?_ (fun hHeld => ?_)
  ·trivial
  (obtain ⟨Z, hZ⟩ : ∃ Z, Y2.drew = Z := ⟨_, rfl⟩; have hbx : Below Y2.heap.size Y2 Z := (by subst hZ; exact below_drew1 (Below.refl _ _)); have HQ2 := Aside0.mk (And.intro (HQ.out.1.below hbx) (HQ.out.2.below hbx)); clear HQ; have HQ := HQ2; clear HQ2; have HM62 := Aside0.mk (And.intro HM6.out.1 (And.intro HM6.out.2.1 (HM6.out.2.2.below hbx))); clear HM6; have HM6 := HM62; clear HM62; have HX2 := Aside0.mk (HX.out.below hbx); clear HX; have HX := HX2; clear HX2; have HA2 := Aside0.mk (HA.out.trans (hbx.mono HA.out.size)); clear HA; have HA := HA2; clear HA2; have HM52 := Aside0.mk (And.intro HM5.out.1 (HM5.out.2.below hbx)); clear HM5; have HM5 := HM52; clear HM52; have z0 := HQ.out.1.cell0; have z1 := HQ.out.1.cell1; have z6 := HQ.out.1.fr 0; have z7 := HQ.out.1.fr 1; rw [hZ]; clear hZ hbx)
  refine wpAnyH_ready (rs := [0, 1]) (by kernel_rfl) (by simp) ?_
  refine AllReadyH.cons rfl (fun K hK => ?_) (AllReadyH.cons rfl (fun K hK => ?_) (AllReadyH.nil))
  focus
   go_simp
   refine hK.out _ _ ?_ fun hHeld => ?_
   ·trivial
   clear hK K; try simp only [PU]
   refine tc 1 fun K hK => ?_
   go_simp
   (go_at_call 70; (with_reducible refine (HSM.out _).mono ?_); rintro e W6 ⟨A8, k8, c8, rfl, hk8, hm8, hbx⟩; have HM8 := Aside0.mk (And.intro hk8 hm8); clear z0 z1 z6 z7; have HQ2 := Aside0.mk (And.intro (HQ.out.1.below hbx) (HQ.out.2.below hbx)); clear HQ; have HQ := HQ2; clear HQ2; have HM62 := Aside0.mk (And.intro HM6.out.1 (And.intro HM6.out.2.1 (HM6.out.2.2.below hbx))); clear HM6; have HM6 := HM62; clear HM62; have HX2 := Aside0.mk (HX.out.below hbx); clear HX; have HX := HX2; clear HX2; have HA2 := Aside0.mk (HA.out.trans (hbx.mono HA.out.size)); clear HA; have HA := HA2; clear HA2; have HM52 := Aside0.mk (And.intro HM5.out.1 (HM5.out.2.below hbx)); clear HM5; have HM5 := HM52; clear HM52; have z0 := HQ.out.1.cell0; have z1 := HQ.out.1.cell1; have z6 := HQ.out.1.fr 0; have z7 := HQ.out.1.fr 1; clear hbx hk8 hm8)
   refine hK.out _ _ ?_ fun hHeld => ?_
   ·trivial
   clear hK K; try simp only [PU]
   refine tc 2 fun K hK => ?_
   go_simp
   (go_at_call 82; (with_reducible refine (HPL2.out _ _ _ _ HM6.out.2.2 HM8.out.1 HM8.out.2).mono ?_); rintro e W7 ⟨A9, k9, c9, rfl, hk9, hm9, hbx⟩; have HM9 := Aside0.mk (And.intro hk9 hm9); clear z0 z1 z6 z7; have HQ2 := Aside0.mk (And.intro (HQ.out.1.below hbx) (HQ.out.2.below hbx)); clear HQ; have HQ := HQ2; clear HQ2; have HM62 := Aside0.mk (And.intro HM6.out.1 (And.intro HM6.out.2.1 (HM6.out.2.2.below hbx))); clear HM6; have HM6 := HM62; clear HM62; have HX2 := Aside0.mk (HX.out.below hbx); clear HX; have HX := HX2; clear HX2; have HA2 := Aside0.mk (HA.out.trans (hbx.mono HA.out.size)); clear HA; have HA := HA2; clear HA2; have HM52 := Aside0.mk (And.intro HM5.out.1 (HM5.out.2.below hbx)); clear HM5; have HM5 := HM52; clear HM52; have z0 := HQ.out.1.cell0; have z1 := HQ.out.1.cell1; have z6 := HQ.out.1.fr 0; have z7 := HQ.out.1.fr 1; clear hbx hk9 hm9)
   refine hK.out _ _ ?_ fun hHeld => ?_
   ·trivial
   clear hK K; try simp only [PU]
   refine tc 3 fun K hK => ?_
   go_simp
   refine hK.out _ _ ?_ fun hHeld => ?_
   ·trivial
   clear hK K; try simp only [PU]
   refine wpAnyH_done (by kernel_rfl) ?_ _
   (refine hK _ _ ?_; obtain ⟨Y, hY⟩ : ∃ Y, ((W7.setCell ⟨p, 0, none⟩ (.bool gz)).setCell ⟨p, 1, none⟩ (.slice A9 k9 c9)) = Y := ⟨_, rfl⟩; obtain ⟨HX2, HA2, HQ2, HM62, HMR⟩ := step_end HX HA HQ HM9 HM5 HPX hY; clear HQ HX HA HM6 HM5 HM9 z0 z1 z6 z7; have HQ := HQ2; have HX := HX2; have HA := HA2; have HM6 := HM62; clear HQ2 HX2 HA2 HM62; rw [hY]; clear hY; have HP : Aside0 ((p ≠ w.heap.size + 1 + 1 ∧ p + 1 ≠ w.heap.size + 1 + 1) ∧ (p ≠ w.heap.size + 1 + 1 + 1 ∧ p + 1 ≠ w.heap.size + 1 + 1 + 1)) := ⟨by have := HPX.out; omega⟩; have z0 := HQ.out.1.cell0; have z1 := HQ.out.1.cell1; have z2 := HQ.out.2.cell0; have z3 := HQ.out.2.cell1; go_wp2_with fail)
  rotate_left
  focus
   go_simp
   (go_at_call 70; (with_reducible refine (HSM.out _).mono ?_); rintro e W6 ⟨A8, k8, c8, rfl, hk8, hm8, hbx⟩; have HM8 := Aside0.mk (And.intro hk8 hm8); clear z0 z1 z6 z7; have HQ2 := Aside0.mk (And.intro (HQ.out.1.below hbx) (HQ.out.2.below hbx)); clear HQ; have HQ := HQ2; clear HQ2; have HM62 := Aside0.mk (And.intro HM6.out.1 (And.intro HM6.out.2.1 (HM6.out.2.2.below hbx))); clear HM6; have HM6 := HM62; clear HM62; have HX2 := Aside0.mk (HX.out.below hbx); clear HX; have HX := HX2; clear HX2; have HA2 := Aside0.mk (HA.out.trans (hbx.mono HA.out.size)); clear HA; have HA := HA2; clear HA2; have HM52 := Aside0.mk (And.intro HM5.out.1 (HM5.out.2.below hbx)); clear HM5; have HM5 := HM52; clear HM52; have z0 := HQ.out.1.cell0; have z1 := HQ.out.1.cell1; have z6 := HQ.out.1.fr 0; have z7 := HQ.out.1.fr 1; clear hbx hk8 hm8)
   refine hK.out _ _ ?_ fun hHeld => ?_
   ·trivial
   clear hK K; try simp only [PU]
   refine tc 0 fun K hK => ?_
   go_simp
   refine hK.out _ _ ?_ fun hHeld => ?_
   ·trivial
   clear hK K; try simp only [PU]
   refine tc 2 fun K hK => ?_
   go_simp
   (go_at_call 82; (with_reducible refine (HPL2.out _ _ _ _ HM6.out.2.2 HM8.out.1 HM8.out.2).mono ?_); rintro e W7 ⟨A9, k9, c9, rfl, hk9, hm9, hbx⟩; have HM9 := Aside0.mk (And.intro hk9 hm9); clear z0 z1 z6 z7; have HQ2 := Aside0.mk (And.intro (HQ.out.1.below hbx) (HQ.out.2.below hbx)); clear HQ; have HQ := HQ2; clear HQ2; have HM62 := Aside0.mk (And.intro HM6.out.1 (And.intro HM6.out.2.1 (HM6.out.2.2.below hbx))); clear HM6; have HM6 := HM62; clear HM62; have HX2 := Aside0.mk (HX.out.below hbx); clear HX; have HX := HX2; clear HX2; have HA2 := Aside0.mk (HA.out.trans (hbx.mono HA.out.size)); clear HA; have HA := HA2; clear HA2; have HM52 := Aside0.mk (And.intro HM5.out.1 (HM5.out.2.below hbx)); clear HM5; have HM5 := HM52; clear HM52; have z0 := HQ.out.1.cell0; have z1 := HQ.out.1.cell1; have z6 := HQ.out.1.fr 0; have z7 := HQ.out.1.fr 1; clear hbx hk9 hm9)
   refine hK.out _ _ ?_ fun hHeld => ?_
   ·trivial
   clear hK K; try simp only [PU]
   refine tc 3 fun K hK => ?_
   go_simp
   refine hK.out _ _ ?_ fun hHeld => ?_
   ·trivial
   clear hK K; try simp only [PU]
   refine wpAnyH_done (by kernel_rfl) ?_ _
   (refine hK _ _ ?_; obtain ⟨Y, hY⟩ : ∃ Y, ((W7.setCell ⟨p, 0, none⟩ (.bool gz)).setCell ⟨p, 1, none⟩ (.slice A9 k9 c9)) = Y := ⟨_, rfl⟩; obtain ⟨HX2, HA2, HQ2, HM62, HMR⟩ := step_end HX HA HQ HM9 HM5 HPX hY; clear HQ HX HA HM6 HM5 HM9 z0 z1 z6 z7; have HQ := HQ2; have HX := HX2; have HA := HA2; have HM6 := HM62; clear HQ2 HX2 HA2 HM62; rw [hY]; clear hY; have HP : Aside0 ((p ≠ w.heap.size + 1 + 1 ∧ p + 1 ≠ w.heap.size + 1 + 1) ∧ (p ≠ w.heap.size + 1 + 1 + 1 ∧ p + 1 ≠ w.heap.size + 1 + 1 + 1)) := ⟨by have := HPX.out; omega⟩; have z0 := HQ.out.1.cell0; have z1 := HQ.out.1.cell1; have z2 := HQ.out.2.cell0; have z3 := HQ.out.2.cell1; go_wp2_with fail)
  all_goals
   rename_i K hK
   refine wp_region_held_drew (S := (fun V => V.cell? ⟨p, 0, none⟩ = some (.bool gz) ∧ V.cell? ⟨p, 1, none⟩ = some (.slice A9 k9 c9) ∧ V.cell? ⟨p + 1, 0, none⟩ = some (.bool false) ∧ V.cell? ⟨p + 1, 1, none⟩ = some (.slice A5 k5 c5))) (by kernel_rfl) ?_ (fun hHeld => ?_)
   ·exact ⟨z0, z1, z2, z3⟩
   (obtain ⟨Z, hZ⟩ : ∃ Z, Y.drew = Z := ⟨_, rfl⟩; have hbx : Below Y.heap.size Y Z := (by subst hZ; exact below_drew1 (Below.refl _ _)); have HQ2 := Aside0.mk (And.intro (HQ.out.1.below hbx) (HQ.out.2.below hbx)); clear HQ; have HQ := HQ2; clear HQ2; have HM62 := Aside0.mk (And.intro HM6.out.1 (And.intro HM6.out.2.1 (HM6.out.2.2.below hbx))); clear HM6; have HM6 := HM62; clear HM62; have HX2 := Aside0.mk (HX.out.below hbx); clear HX; have HX := HX2; clear HX2; have HA2 := Aside0.mk (HA.out.trans (hbx.mono HA.out.size)); clear HA; have HA := HA2; clear HA2; have HMR2 := Aside0.mk (And.intro HMR.out.1 (And.intro (HMR.out.2.1.below hbx) (HMR.out.2.1.below hbx).rl)); clear HMR; have HMR := HMR2; clear HMR2; rw [hZ] at hHeld ⊢; clear hZ hbx z0 z1 z2 z3)
   refine tp 0 ?_
   try simp only [PU]
   refine tp 1 ?_
   try simp only [PU]
   refine tc 2 fun K hK => ?_
   go_simp
   (go_at_call 137; (with_reducible refine (rtrim_sign HMR.out.2.2 HMR.out.1 (dg_lt QQ1 _) _).mono ?_); rintro e W5 ⟨k7, g7, rfl, hg7, hk7, hm7, hbx⟩; have HM7 := Aside0.mk (And.intro hk7 (And.intro hg7 (hm7.val (val_dg QQ1 _)))); have HQ2 := Aside0.mk (And.intro (HQ.out.1.below hbx) (HQ.out.2.below hbx)); clear HQ; have HQ := HQ2; clear HQ2; have HM62 := Aside0.mk (And.intro HM6.out.1 (And.intro HM6.out.2.1 (HM6.out.2.2.below hbx))); clear HM6; have HM6 := HM62; clear HM62; have HX2 := Aside0.mk (HX.out.below hbx); clear HX; have HX := HX2; clear HX2; have HA2 := Aside0.mk (HA.out.trans (hbx.mono HA.out.size)); clear HA; have HA := HA2; clear HA2; have q0 := HX.out.o1.cell0; have q1 := HX.out.o1.cell1; have q2 := HX.out.o1.fr 0; have q3 := HX.out.o1.fr 1; have q4 := HX.out.o2.cell0; have q5 := HX.out.o2.cell1; have q6 := HX.out.o2.fr 0; have q7 := HX.out.o2.fr 1; clear hg7 hk7 hm7)
   refine hK.out _ _ ?_ fun hHeld => ?_
   ·(first | exact ⟨keepB2 hbx hHeld.1, keepB2 hbx hHeld.2.1, keepB2 hbx hHeld.2.2.1, keepB2 hbx hHeld.2.2.2⟩ | exact ⟨cell_far2 hHeld.1 HP.out.1.1, cell_far2 hHeld.2.1 HP.out.1.1, cell_far2 hHeld.2.2.1 HP.out.1.2, cell_far2 hHeld.2.2.2 HP.out.1.2⟩ | exact ⟨cell_far2 hHeld.1 HP.out.2.1, cell_far2 hHeld.2.1 HP.out.2.1, cell_far2 hHeld.2.2.1 HP.out.2.2, cell_far2 hHeld.2.2.2 HP.out.2.2⟩)
   clear hK K; try simp only [PU]
   refine tc 3 fun K hK => ?_
   go_simp
   refine hK.out _ _ ?_ fun hHeld => ?_
   ·(first | exact ⟨keepB2 hbx hHeld.1, keepB2 hbx hHeld.2.1, keepB2 hbx hHeld.2.2.1, keepB2 hbx hHeld.2.2.2⟩ | exact ⟨cell_far2 hHeld.1 HP.out.1.1, cell_far2 hHeld.2.1 HP.out.1.1, cell_far2 hHeld.2.2.1 HP.out.1.2, cell_far2 hHeld.2.2.2 HP.out.1.2⟩ | exact ⟨cell_far2 hHeld.1 HP.out.2.1, cell_far2 hHeld.2.1 HP.out.2.1, cell_far2 hHeld.2.2.1 HP.out.2.2, cell_far2 hHeld.2.2.2 HP.out.2.2⟩)
   clear hK K; try simp only [PU]
   refine tc 4 fun K hK => ?_
   go_simp
   refine hK.out _ _ ?_ fun hHeld => ?_
   ·(first | exact ⟨keepB2 hbx hHeld.1, keepB2 hbx hHeld.2.1, keepB2 hbx hHeld.2.2.1, keepB2 hbx hHeld.2.2.2⟩ | exact ⟨cell_far2 hHeld.1 HP.out.1.1, cell_far2 hHeld.2.1 HP.out.1.1, cell_far2 hHeld.2.2.1 HP.out.1.2, cell_far2 hHeld.2.2.2 HP.out.1.2⟩ | exact ⟨cell_far2 hHeld.1 HP.out.2.1, cell_far2 hHeld.2.1 HP.out.2.1, cell_far2 hHeld.2.2.1 HP.out.2.2, cell_far2 hHeld.2.2.2 HP.out.2.2⟩)
   clear hK K; try simp only [PU]
   refine wpAnyH_done (by kernel_rfl) ?_ _
   refine hK _ _ ?_
   go_wp2
   obtain ⟨o1, o2, o3, o4, o5⟩ := out2 HX.out HA.out rfl HM6.out.2.2 HM7.out.2.2 gz g7 c9 c5
   exact over_ret rfl rfl o1 o2 ⟨A9, k9, c9, A5, k7, c5, by rw [HM7.out.2.1]; first | rfl | (simp; done), HM6.out.1, HM7.out.1, o3, o4, o5⟩
end
section
open Go.Lib (decDigits itoa)
/-- The last l decimal digits of a number, the least first, as bytes. -/
def rdig (m l : Nat) : List UInt8 := (List.range l).map fun j => UInt8.ofNat (48 + m / 10 ^ j % 10)
theorem rdig_len (m l : Nat) : (rdig m l).length = l := by simp [rdig]
theorem rdig_succ (m l : Nat) : rdig m (l + 1) = rdig m l ++ [UInt8.ofNat (48 + m / 10 ^ l % 10)] := by simp [rdig, List.range_succ]
theorem rdig_cons (m l : Nat) : rdig m (l + 1) = UInt8.ofNat (48 + m % 10) :: rdig (m / 10) l := by
 simp only [rdig, List.range_succ_eq_map, List.map_cons, List.map_map, Nat.pow_zero, Nat.div_one]
 congr 1
 apply List.map_congr_left
 intro j _
 simp only [Function.comp, Nat.pow_succ]
 rw [Nat.mul_comm (10 ^ j) 10, Nat.div_div_eq_div_mul]
theorem dec_rev : ∀ m : Nat, (decDigits m).reverse = rdig m (decDigits m).length := by
 intro m
 induction m using Nat.strongRecOn with
 | _ m ih =>
   by_cases h : m < 10
   ·rw [dec_small h]
    show [_] = rdig m (0 + 1)
    rw [rdig_cons, Nat.mod_eq_of_lt h]; rfl
   ·rw [dec_big h, List.reverse_append, List.length_append, List.length_singleton, rdig_cons, ← ih (m / 10) (by omega)]; rfl
theorem dec_take (m : Nat) : decDigits m = (rdig m (decDigits m).length).reverse := by rw [← dec_rev, List.reverse_reverse]
theorem dec_over {m j : Nat} (h : (decDigits m).length ≤ j) : m / 10 ^ j % 10 = 0 := by
 have h1 := dv_lt (decDigits m) (dec_digits m)
 rw [dv_dec] at h1
 rw [Nat.div_eq_of_lt (Nat.lt_of_lt_of_le h1 (Nat.pow_le_pow_right (by omega) h)), Nat.zero_mod]
theorem dec_at {m : Nat} (h0 : 0 < m) : m / 10 ^ ((decDigits m).length - 1) % 10 ≠ 0 := by
 intro e
 have hp := dec_pos m
 obtain ⟨k, hk⟩ : ∃ k, (decDigits m).length = k + 1 := ⟨(decDigits m).length - 1, by omega⟩
 have h1 := dec_rev m
 rw [hk, rdig_succ] at h1
 rw [hk, Nat.add_sub_cancel] at e
 rw [e] at h1
 have h2 : decDigits m = 48 :: (rdig m k).reverse := by
  rw [← List.reverse_reverse (decDigits m), h1, List.reverse_append]; rfl
 have := dec_head m (by rw [h2]; rfl)
 omega
/-- The places at which Write's loop stops: the digits of m, no zero in front. -/
theorem dec_stop {m k : Nat} (h0 : 0 < m) (h1 : (decDigits m).length ≤ k) (h2 : m / 10 ^ (k - 1) % 10 ≠ 0) : k = (decDigits m).length := by
 rcases Nat.eq_or_lt_of_le h1 with h | h
 ·exact h.symm
 ·exact absurd (dec_over (m := m) (j := k - 1) (by omega)) h2
/-- A digit of a limb. -/
theorem limb_digit (m i k : Nat) (hk : k < 4) : m / 10000 ^ i % 10000 / 10 ^ k % 10 = m / 10 ^ (4 * i + k) % 10 := by
 have e : (10000 : Nat) ^ i = 10 ^ (4 * i) := by rw [Nat.pow_mul]
 rw [e, Nat.pow_add, ← Nat.div_div_eq_div_mul]
 generalize m / 10 ^ (4 * i) = M
 match k, hk with
 | 0, _ => simp only [Nat.pow_zero, Nat.div_one]; omega
 | 1, _ => simp only [Nat.pow_one]; omega
 | 2, _ => show M % 10000 / 100 % 10 = M / 100 % 10; omega
 | 3, _ => show M % 10000 / 1000 % 10 = M / 1000 % 10; omega
/-- A piece of a row of digits, one more. -/
theorem dv_piece {l : List UInt8} {i j : Nat} (hj : j < l.length) (hi : i ≤ j) : dv ((l.take (j + 1)).drop i) = 10 * dv ((l.take j).drop i) + (l[j].toNat - 48) := by
 rw [List.take_succ_eq_append_getElem hj, List.drop_append_of_le_length (by rw [List.length_take]; omega), dv_snoc]
theorem dv_cut {l : List UInt8} {i j : Nat} (hi : i ≤ j) (hj : j ≤ l.length) : l.take j = l.take i ++ (l.take j).drop i := by
 have h := List.take_append_drop i (l.take j)
 rw [List.take_take, Nat.min_eq_left hi] at h
 exact h.symm
end
section
open Go.Lib Go.Proofs.YtillgofjlpjbcaaGreatDoorW.PrintLast Go.Proofs.YtillgofjlpjbcaaGreatDoorW.PrintMore Go.Proofs.YtillgofjlpjbcaaGreatDoorW.PrintWords Go.RowKit Go.Shelf
/-- What text of a fraction answers. -/
def ftE (p q : Int) : Int := firstI [wrE p, wrE q]
def ftS (p q : Int) : ByteArray := if ftE p q = 0 then wrS p ++ ⟨#[47]⟩ ++ wrS q else ⟨#[]⟩
theorem wrS_size (x : Int) : (wrS x).size ≤ 130 := by
 unfold wrS lenI
 split
 ·show (#[] : Array UInt8).size ≤ _; simp
 ·rename_i h
  show (Lib.itoa x).toArray.size ≤ _
  rw [itoa_abs]
  simp
  split <;> simp <;> omega
theorem ftext_calls {w : World} {B : Nat} {A1 A2 : Option Addr} {L1 L2 : Nat} {p q : Int} (h1 : Mag w B A1 L1 p.natAbs) (h2 : Mag w B A2 L2 q.natAbs) (hB : B ≤ w.heap.size) (htab : Tens w) :
 Calls Tryz.prog 123 #[fV A1 L1 p A2 L2 q] w fun e w' => e = .returned (.tuple #[.string (ftS p q), .int .i64 (ftE p q)]) ∧ Below w.heap.size w w' := by
 have HW1 : ∀ W, Below w.heap.size w W → Calls Tryz.prog 91 #[iV A1 L1 p] W fun e w' => e = .returned (.tuple #[.string (wrS p), .int .i64 (wrE p)]) ∧ Below W.heap.size W w' := fun W hb => written_calls (h1.keep hB hb) (Nat.le_trans hB hb.size) (htab.below hb)
 have HW2 : ∀ W, Below w.heap.size w W → Calls Tryz.prog 91 #[iV A2 L2 q] W fun e w' => e = .returned (.tuple #[.string (wrS q), .int .i64 (wrE q)]) ∧ Below W.heap.size W w' := fun W hb => written_calls (h2.keep hB hb) (Nat.le_trans hB hb.size) (htab.below hb)
 have hs1 := wrS_size p
 have hs2 := wrS_size q
 unfold ftS
 obtain ⟨E, hE⟩ : ∃ E, ftE p q = E := ⟨_, rfl⟩
 rw [hE]
 unfold ftE at hE
 unfold fV
 unfold iV at *
 generalize wrS p = P at *
 generalize wrE p = E1 at *
 generalize wrS q = Q at *
 generalize wrE q = E2 at *
 generalize decide (p < 0) = f at *
 generalize decide (q < 0) = g at *
 have HF := Aside0.mk hE
 have HW1 := Aside0.mk HW1
 have HW2 := Aside0.mk HW2
 have HB := Aside0.mk (Below.refl w.heap.size w)
 clear h1 h2 htab hE
 by_cases h : E = 0
 ·subst h
  rw [if_pos rfl]
  go_enter Tryz.func123, Tryz.ntmps123
  go_wp2_with (first
   | (go_at_call 91; ((with_reducible refine (HW1.out _ bl).mono ?_); rintro e w1 ⟨rfl, hb1⟩; obtain ⟨hc1, hf1⟩ := bcell hb1; have z1_0 : (w.heap.size) < w1.heap.size := zb hb1; have nB1 : Aside0 (Below w.heap.size w w1) := sb hb1; clear HB; have HB := nB1; clear nB1; clear HW1))
   | (go_at_call 91; ((with_reducible refine (HW2.out _ bl).mono ?_); rintro e w2 ⟨rfl, hb2⟩; obtain ⟨hc2, hf2⟩ := bcell hb2; have z2_0 : (w.heap.size) < w2.heap.size := zb hb2; have nB2 : Aside0 (Below w.heap.size w w2) := sb hb2; clear HB; have HB := nB2; clear nB2))
   | (go_at_call 88; (with_reducible refine (first2_ret _ _ 0 HF.out _ _ (by simp) _).mono ?_); rintro e w' ⟨rfl, rfl⟩))
  go_ret2
  exact ⟨rfl, bl⟩
 ·rw [if_neg h]
  have hbe : (E != 0) = true := by simp [h]
  go_enter Tryz.func123, Tryz.ntmps123
  go_wp2_with (first
   | (go_at_call 91; ((with_reducible refine (HW1.out _ bl).mono ?_); rintro e w1 ⟨rfl, hb1⟩; obtain ⟨hc1, hf1⟩ := bcell hb1; have z1_0 : (w.heap.size) < w1.heap.size := zb hb1; have nB1 : Aside0 (Below w.heap.size w w1) := sb hb1; clear HB; have HB := nB1; clear nB1; clear HW1))
   | (go_at_call 91; ((with_reducible refine (HW2.out _ bl).mono ?_); rintro e w2 ⟨rfl, hb2⟩; obtain ⟨hc2, hf2⟩ := bcell hb2; have z2_0 : (w.heap.size) < w2.heap.size := zb hb2; have nB2 : Aside0 (Below w.heap.size w w2) := sb hb2; clear HB; have HB := nB2; clear nB2))
   | (go_at_call 88; (with_reducible refine (first2_ret _ _ E HF.out _ _ (by simp) _).mono ?_); rintro e w' ⟨rfl, rfl⟩))
  go_ret2
  exact ⟨rfl, bl⟩
/-- What a function of two fractions does. -/
def OpF (F : FuncId) (p q r s y z : Int) : Prop :=
 ∀ (W : World) (A1 A2 A3 A4 : Option Addr) (L1 L2 L3 L4 : Nat), Mag W W.heap.size A1 L1 p.natAbs → Mag W W.heap.size A2 L2 q.natAbs → Mag W W.heap.size A3 L3 r.natAbs → Mag W W.heap.size A4 L4 s.natAbs →
  Calls Tryz.prog F #[fV A1 L1 p A2 L2 q, fV A3 L3 r A4 L4 s] W fun e w' => ∃ A k A' k', e = .returned (fV A k y A' k' z) ∧ Mag w' w'.heap.size A k y.natAbs ∧ Mag w' w'.heap.size A' k' z.natAbs ∧ Below W.heap.size W w'
theorem times_at {w : World} {A1 A2 : Option Addr} {L1 L2 : Nat} {x y : Int} (h1 : Mag w w.heap.size A1 L1 x.natAbs) (h2 : Mag w w.heap.size A2 L2 y.natAbs) (hx : Dig 1000 x) (hy : Dig 1000 y) : ∀ W, Below w.heap.size w W →
 Calls Tryz.prog 85 #[iV A1 L1 x, iV A2 L2 y] W fun e w' => ∃ A k, e = .returned (iV A k (x * y)) ∧ Mag w' w'.heap.size A k (x * y).natAbs ∧ Below W.heap.size W w' :=
 fun W hb => op2_times hx hy W A1 A2 L1 L2 (h1.up hb) (h2.up hb)
theorem opF_mul {p q r s : Int} (hp : Dig 1000 p) (hq : Dig 1000 q) (hr : Dig 1000 r) (hs : Dig 1000 s) : OpF 105 p q r s (p * r) (q * s) := by
 intro w A1 A2 A3 A4 L1 L2 L3 L4 h1 h2 h3 h4
 have T1 := times_at h1 h3 hp hr
 have T2 := times_at h2 h4 hq hs
 unfold fV
 unfold fV iV at *
 generalize decide (p * r < 0) = g1 at *
 generalize (p * r).natAbs = n1 at *
 generalize decide (q * s < 0) = g2 at *
 generalize (q * s).natAbs = n2 at *
 generalize decide (p < 0) = f1 at *
 generalize decide (q < 0) = f2 at *
 generalize decide (r < 0) = f3 at *
 generalize decide (s < 0) = f4 at *
 have T1 := Aside0.mk T1
 have T2 := Aside0.mk T2
 clear h1 h2 h3 h4 hp hq hr hs
 go_enter Tryz.func105, Tryz.ntmps105
 go_wp2_with fail
 obtain ⟨wr, hwr⟩ : ∃ wr, (((w.alloc (.cells #[.slice A1 L1 L1, .bool f1, .slice A2 L2 L2, .bool f2] 116)).alloc (.cells #[.slice A3 L3 L3, .bool f3, .slice A4 L4 L4, .bool f4] 116)).alloc (.cells #[.slice none 0 0, .bool false, .slice none 0 0, .bool false] 116)) = wr := ⟨_, rfl⟩
 have HF : FB wr w.heap.size A1 L1 f1 A2 L2 f2 ∧ FB wr (w.heap.size + 1) A3 L3 f3 A4 L4 f4 ∧ FB wr (w.heap.size + 1 + 1) none 0 false none 0 false := by
  subst hwr
  refine ⟨((FB.new w _ _ _ _ _ _).alloc _).alloc _, FB.alloc ?_ _, ?_⟩
  ·have h := FB.new (w.alloc (.cells #[.slice A1 L1 L1, .bool f1, .slice A2 L2 L2, .bool f2] 116)) A3 L3 f3 A4 L4 f4
   simpa using h
  ·have h := FB.new ((w.alloc (.cells #[.slice A1 L1 L1, .bool f1, .slice A2 L2 L2, .bool f2] 116)).alloc (.cells #[.slice A3 L3 L3, .bool f3, .slice A4 L4 L4, .bool f4] 116)) none 0 false none 0 false
   simpa using h
 have HX : Aside0 (wr.cell? ⟨w.heap.size, 0, none⟩ = some (.slice A1 L1 L1) ∧ wr.cell? ⟨w.heap.size, 1, none⟩ = some (.bool f1) ∧ wr.cell? ⟨w.heap.size, 2, none⟩ = some (.slice A2 L2 L2) ∧ wr.cell? ⟨w.heap.size, 3, none⟩ = some (.bool f2) ∧ wr.cell? ⟨w.heap.size + 1, 0, none⟩ = some (.slice A3 L3 L3) ∧ wr.cell? ⟨w.heap.size + 1, 1, none⟩ = some (.bool f3) ∧ wr.cell? ⟨w.heap.size + 1, 2, none⟩ = some (.slice A4 L4 L4) ∧ wr.cell? ⟨w.heap.size + 1, 3, none⟩ = some (.bool f4)) :=
  ⟨HF.1.cell0, HF.1.cell1, HF.1.cell2, HF.1.cell3, HF.2.1.cell0, HF.2.1.cell1, HF.2.1.cell2, HF.2.1.cell3⟩
 have HO := Aside0.mk HF.2.2
 have HA : Aside0 (Below w.heap.size w wr ∧ w.heap.size + 3 ≤ wr.heap.size) := ⟨by subst hwr; repeat (first | exact Below.refl _ _ | apply below_alloc), by subst hwr; simp⟩
 rw [hwr]
 clear hwr HF
 rename_i Q' K hK
 have KP : Aside0 (∀ V, Below (w.heap.size + 2) wr V → (fun V => V.cell? ⟨w.heap.size, 0, none⟩ = some (.slice A1 L1 L1) ∧ V.cell? ⟨w.heap.size, 1, none⟩ = some (.bool f1) ∧ V.cell? ⟨w.heap.size, 2, none⟩ = some (.slice A2 L2 L2) ∧ V.cell? ⟨w.heap.size, 3, none⟩ = some (.bool f2) ∧ V.cell? ⟨w.heap.size + 1, 0, none⟩ = some (.slice A3 L3 L3) ∧ V.cell? ⟨w.heap.size + 1, 1, none⟩ = some (.bool f3) ∧ V.cell? ⟨w.heap.size + 1, 2, none⟩ = some (.slice A4 L4 L4) ∧ V.cell? ⟨w.heap.size + 1, 3, none⟩ = some (.bool f4) ∧ Below (w.heap.size + 2) wr V) V) := ⟨fun V hBB => ⟨keepB hBB (by omega) HX.out.1, keepB hBB (by omega) HX.out.2.1, keepB hBB (by omega) HX.out.2.2.1, keepB hBB (by omega) HX.out.2.2.2.1, keepB hBB (by omega) HX.out.2.2.2.2.1, keepB hBB (by omega) HX.out.2.2.2.2.2.1, keepB hBB (by omega) HX.out.2.2.2.2.2.2.1, keepB hBB (by omega) HX.out.2.2.2.2.2.2.2, hBB⟩⟩
 refine wq KP fun hHeld => ?_
 refine tp 0 ?_
 try simp only [PU]
 refine tp 1 ?_
 try simp only [PU]
 refine tp 2 ?_
 try simp only [PU]
 refine tp 3 ?_
 try simp only [PU]
 refine tp 5 ?_
 try simp only [PU]
 refine tp 6 ?_
 try simp only [PU]
 refine tp 7 ?_
 try simp only [PU]
 refine tp 8 ?_
 try simp only [PU]
 refine tc 4 fun K hK => ?_
 go_simp
 (go_at_call 85; (with_reducible refine (T1.out _ (HA.out.1.trans (hHeld.2.2.2.2.2.2.2.2.mono (by omega)))).mono ?_); rintro e wm ⟨A5, k5, rfl, hm5, hbq⟩; have HO := Aside0.mk ((HO.out.below (below_drew1 (Below.refl _ _))).below hbq); have hm5 := Aside0.mk hm5)
 refine hK.out _ _ ?_ fun hHeld => ?_
 ·(first | exact KP.out _ (bKeep hbq hHeld.2.2.2.2.2.2.2.2 (by have := HA.out.2; omega)) | (refine KP.out _ ?_; repeat (first | exact hHeld.2.2.2.2.2.2.2.2 | refine Below.setCell ?_ (by first | (simp; done) | (simp; omega)) _)))
 clear hK K; try simp only [PU]
 refine tc 9 fun K hK => ?_
 go_simp
 (go_at_call 85; (with_reducible refine (T2.out _ (HA.out.1.trans (hHeld.2.2.2.2.2.2.2.2.mono (by omega)))).mono ?_); rintro e wm ⟨A6, k6, rfl, hm6, hbq⟩; have HO := Aside0.mk (HO.out.below hbq); have hm6 := Aside0.mk hm6; have hm5 := Aside0.mk (hm5.out.up hbq); have q0 := HO.out.cell0; have q1 := HO.out.cell1; have q2 := HO.out.cell2; have q3 := HO.out.cell3; have q4 := HO.out.fr 0; have q5 := HO.out.fr 1; have q6 := HO.out.fr 2; have q7 := HO.out.fr 3)
 refine hK.out _ _ ?_ fun hHeld => ?_
 ·(first | exact KP.out _ (bKeep hbq hHeld.2.2.2.2.2.2.2.2 (by have := HA.out.2; omega)) | (refine KP.out _ ?_; repeat (first | exact hHeld.2.2.2.2.2.2.2.2 | refine Below.setCell ?_ (by first | (simp; done) | (simp; omega)) _)))
 clear hK K; try simp only [PU]
 refine tp 10 ?_
 try simp only [PU]
 refine tc 11 fun K hK => ?_
 go_simp
 refine hK.out _ _ ?_ fun hHeld => ?_
 ·(first | exact KP.out _ (bKeep hbq hHeld.2.2.2.2.2.2.2.2 (by have := HA.out.2; omega)) | (refine KP.out _ ?_; repeat (first | exact hHeld.2.2.2.2.2.2.2.2 | refine Below.setCell ?_ (by first | (simp; done) | (simp; omega)) _)))
 clear hK K; try simp only [PU]
 refine wpAnyH_done (by kernel_rfl) ?_ _
 refine hK _ _ ?_
 go_wp2
 refine bodyPost_ret (v := .agg #[.slice A5 k5 k5, .bool g1, .slice A6 k6 k6, .bool g2]) (by simp [results, Tryz.results105, go_sem, q0, q1, q2, q3]) rfl ⟨A5, k5, A6, k6, rfl, ?_, ?_, HA.out.1.trans (hHeld.2.2.2.2.2.2.2.2.mono (by omega))⟩
 ·exact (HO.out.mag hm5.out _ _ _ _).more (by simp)
 ·exact (HO.out.mag hm6.out _ _ _ _).more (by simp)
theorem opF_div {p q r s : Int} (hp : Dig 1000 p) (hq : Dig 1000 q) (hr : Dig 1000 r) (hs : Dig 1000 s) : OpF 108 p q r s (p * s) (q * r) := by
 intro w A1 A2 A3 A4 L1 L2 L3 L4 h1 h2 h3 h4
 have T1 := times_at h1 h4 hp hs
 have T2 := times_at h2 h3 hq hr
 unfold fV
 unfold fV iV at *
 generalize decide (p * s < 0) = g1 at *
 generalize (p * s).natAbs = n1 at *
 generalize decide (q * r < 0) = g2 at *
 generalize (q * r).natAbs = n2 at *
 generalize decide (p < 0) = f1 at *
 generalize decide (q < 0) = f2 at *
 generalize decide (r < 0) = f3 at *
 generalize decide (s < 0) = f4 at *
 have T1 := Aside0.mk T1
 have T2 := Aside0.mk T2
 clear h1 h2 h3 h4 hp hq hr hs
 go_enter Tryz.func108, Tryz.ntmps108
 go_wp2_with fail
 obtain ⟨wr, hwr⟩ : ∃ wr, (((w.alloc (.cells #[.slice A1 L1 L1, .bool f1, .slice A2 L2 L2, .bool f2] 116)).alloc (.cells #[.slice A3 L3 L3, .bool f3, .slice A4 L4 L4, .bool f4] 116)).alloc (.cells #[.slice none 0 0, .bool false, .slice none 0 0, .bool false] 116)) = wr := ⟨_, rfl⟩
 have HF : FB wr w.heap.size A1 L1 f1 A2 L2 f2 ∧ FB wr (w.heap.size + 1) A3 L3 f3 A4 L4 f4 ∧ FB wr (w.heap.size + 1 + 1) none 0 false none 0 false := by
  subst hwr
  refine ⟨((FB.new w _ _ _ _ _ _).alloc _).alloc _, FB.alloc ?_ _, ?_⟩
  ·have h := FB.new (w.alloc (.cells #[.slice A1 L1 L1, .bool f1, .slice A2 L2 L2, .bool f2] 116)) A3 L3 f3 A4 L4 f4
   simpa using h
  ·have h := FB.new ((w.alloc (.cells #[.slice A1 L1 L1, .bool f1, .slice A2 L2 L2, .bool f2] 116)).alloc (.cells #[.slice A3 L3 L3, .bool f3, .slice A4 L4 L4, .bool f4] 116)) none 0 false none 0 false
   simpa using h
 have HX : Aside0 (wr.cell? ⟨w.heap.size, 0, none⟩ = some (.slice A1 L1 L1) ∧ wr.cell? ⟨w.heap.size, 1, none⟩ = some (.bool f1) ∧ wr.cell? ⟨w.heap.size, 2, none⟩ = some (.slice A2 L2 L2) ∧ wr.cell? ⟨w.heap.size, 3, none⟩ = some (.bool f2) ∧ wr.cell? ⟨w.heap.size + 1, 0, none⟩ = some (.slice A3 L3 L3) ∧ wr.cell? ⟨w.heap.size + 1, 1, none⟩ = some (.bool f3) ∧ wr.cell? ⟨w.heap.size + 1, 2, none⟩ = some (.slice A4 L4 L4) ∧ wr.cell? ⟨w.heap.size + 1, 3, none⟩ = some (.bool f4)) :=
  ⟨HF.1.cell0, HF.1.cell1, HF.1.cell2, HF.1.cell3, HF.2.1.cell0, HF.2.1.cell1, HF.2.1.cell2, HF.2.1.cell3⟩
 have HO := Aside0.mk HF.2.2
 have HA : Aside0 (Below w.heap.size w wr ∧ w.heap.size + 3 ≤ wr.heap.size) := ⟨by subst hwr; repeat (first | exact Below.refl _ _ | apply below_alloc), by subst hwr; simp⟩
 rw [hwr]
 clear hwr HF
 rename_i Q' K hK
 have KP : Aside0 (∀ V, Below (w.heap.size + 2) wr V → (fun V => V.cell? ⟨w.heap.size, 0, none⟩ = some (.slice A1 L1 L1) ∧ V.cell? ⟨w.heap.size, 1, none⟩ = some (.bool f1) ∧ V.cell? ⟨w.heap.size, 2, none⟩ = some (.slice A2 L2 L2) ∧ V.cell? ⟨w.heap.size, 3, none⟩ = some (.bool f2) ∧ V.cell? ⟨w.heap.size + 1, 0, none⟩ = some (.slice A3 L3 L3) ∧ V.cell? ⟨w.heap.size + 1, 1, none⟩ = some (.bool f3) ∧ V.cell? ⟨w.heap.size + 1, 2, none⟩ = some (.slice A4 L4 L4) ∧ V.cell? ⟨w.heap.size + 1, 3, none⟩ = some (.bool f4) ∧ Below (w.heap.size + 2) wr V) V) := ⟨fun V hBB => ⟨keepB hBB (by omega) HX.out.1, keepB hBB (by omega) HX.out.2.1, keepB hBB (by omega) HX.out.2.2.1, keepB hBB (by omega) HX.out.2.2.2.1, keepB hBB (by omega) HX.out.2.2.2.2.1, keepB hBB (by omega) HX.out.2.2.2.2.2.1, keepB hBB (by omega) HX.out.2.2.2.2.2.2.1, keepB hBB (by omega) HX.out.2.2.2.2.2.2.2, hBB⟩⟩
 refine wq KP fun hHeld => ?_
 refine tp 0 ?_
 try simp only [PU]
 refine tp 1 ?_
 try simp only [PU]
 refine tp 2 ?_
 try simp only [PU]
 refine tp 3 ?_
 try simp only [PU]
 refine tp 5 ?_
 try simp only [PU]
 refine tp 6 ?_
 try simp only [PU]
 refine tp 7 ?_
 try simp only [PU]
 refine tp 8 ?_
 try simp only [PU]
 refine tc 4 fun K hK => ?_
 go_simp
 (go_at_call 85; (with_reducible refine (T1.out _ (HA.out.1.trans (hHeld.2.2.2.2.2.2.2.2.mono (by omega)))).mono ?_); rintro e wm ⟨A5, k5, rfl, hm5, hbq⟩; have HO := Aside0.mk ((HO.out.below (below_drew1 (Below.refl _ _))).below hbq); have hm5 := Aside0.mk hm5)
 refine hK.out _ _ ?_ fun hHeld => ?_
 ·(first | exact KP.out _ (bKeep hbq hHeld.2.2.2.2.2.2.2.2 (by have := HA.out.2; omega)) | (refine KP.out _ ?_; repeat (first | exact hHeld.2.2.2.2.2.2.2.2 | refine Below.setCell ?_ (by first | (simp; done) | (simp; omega)) _)))
 clear hK K; try simp only [PU]
 refine tc 9 fun K hK => ?_
 go_simp
 (go_at_call 85; (with_reducible refine (T2.out _ (HA.out.1.trans (hHeld.2.2.2.2.2.2.2.2.mono (by omega)))).mono ?_); rintro e wm ⟨A6, k6, rfl, hm6, hbq⟩; have HO := Aside0.mk (HO.out.below hbq); have hm6 := Aside0.mk hm6; have hm5 := Aside0.mk (hm5.out.up hbq); have q0 := HO.out.cell0; have q1 := HO.out.cell1; have q2 := HO.out.cell2; have q3 := HO.out.cell3; have q4 := HO.out.fr 0; have q5 := HO.out.fr 1; have q6 := HO.out.fr 2; have q7 := HO.out.fr 3)
 refine hK.out _ _ ?_ fun hHeld => ?_
 ·(first | exact KP.out _ (bKeep hbq hHeld.2.2.2.2.2.2.2.2 (by have := HA.out.2; omega)) | (refine KP.out _ ?_; repeat (first | exact hHeld.2.2.2.2.2.2.2.2 | refine Below.setCell ?_ (by first | (simp; done) | (simp; omega)) _)))
 clear hK K; try simp only [PU]
 refine tp 10 ?_
 try simp only [PU]
 refine tc 11 fun K hK => ?_
 go_simp
 refine hK.out _ _ ?_ fun hHeld => ?_
 ·(first | exact KP.out _ (bKeep hbq hHeld.2.2.2.2.2.2.2.2 (by have := HA.out.2; omega)) | (refine KP.out _ ?_; repeat (first | exact hHeld.2.2.2.2.2.2.2.2 | refine Below.setCell ?_ (by first | (simp; done) | (simp; omega)) _)))
 clear hK K; try simp only [PU]
 refine wpAnyH_done (by kernel_rfl) ?_ _
 refine hK _ _ ?_
 go_wp2
 refine bodyPost_ret (v := .agg #[.slice A5 k5 k5, .bool g1, .slice A6 k6 k6, .bool g2]) (by simp [results, Tryz.results108, go_sem, q0, q1, q2, q3]) rfl ⟨A5, k5, A6, k6, rfl, ?_, ?_, HA.out.1.trans (hHeld.2.2.2.2.2.2.2.2.mono (by omega))⟩
 ·exact (HO.out.mag hm5.out _ _ _ _).more (by simp)
 ·exact (HO.out.mag hm6.out _ _ _ _).more (by simp)
theorem opF_plus {p q r s : Int} (hp : Dig 490 p) (hq : Dig 490 q) (hr : Dig 490 r) (hs : Dig 490 s) : OpF 99 p q r s (p * s + r * q) (q * s) := by
 intro w A1 A2 A3 A4 L1 L2 L3 L4 h1 h2 h3 h4
 have T1 := times_at h1 h4 (hp.more (by omega)) (hs.more (by omega))
 have T2 := times_at h3 h2 (hr.more (by omega)) (hq.more (by omega))
 have T3 := times_at h2 h4 (hq.more (by omega)) (hs.more (by omega))
 have TP : ∀ (W : World) (A B : Option Addr) (k l : Nat), Mag W W.heap.size A k (p * s).natAbs → Mag W W.heap.size B l (r * q).natAbs → Calls Tryz.prog 80 #[iV A k (p * s), iV B l (r * q)] W fun e w' => ∃ A k, e = .returned (iV A k (p * s + r * q)) ∧ Mag w' w'.heap.size A k (p * s + r * q).natAbs ∧ Below W.heap.size W w' := fun W A B k l h5 h6 =>
  op2_plus ((hp.mul hs).more (by omega)) ((hr.mul hq).more (by omega)) W A B k l h5 h6
 unfold fV
 unfold fV iV at *
 generalize decide (p * s + r * q < 0) = g1 at *
 generalize (p * s + r * q).natAbs = n1 at *
 generalize decide (q * s < 0) = g2 at *
 generalize (q * s).natAbs = n2 at *
 generalize decide (p < 0) = f1 at *
 generalize decide (q < 0) = f2 at *
 generalize decide (r < 0) = f3 at *
 generalize decide (s < 0) = f4 at *
 generalize decide (p * s < 0) = g3 at *
 generalize (p * s).natAbs = n3 at *
 generalize decide (r * q < 0) = g4 at *
 generalize (r * q).natAbs = n4 at *
 have T1 := Aside0.mk T1
 have T2 := Aside0.mk T2
 have T3 := Aside0.mk T3
 have TP := Aside0.mk TP
 clear h1 h2 h3 h4 hp hq hr hs
 go_enter Tryz.func99, Tryz.ntmps99
 go_wp2_with fail
 obtain ⟨wr, hwr⟩ : ∃ wr, (((w.alloc (.cells #[.slice A1 L1 L1, .bool f1, .slice A2 L2 L2, .bool f2] 116)).alloc (.cells #[.slice A3 L3 L3, .bool f3, .slice A4 L4 L4, .bool f4] 116)).alloc (.cells #[.slice none 0 0, .bool false, .slice none 0 0, .bool false] 116)) = wr := ⟨_, rfl⟩
 have HF : FB wr w.heap.size A1 L1 f1 A2 L2 f2 ∧ FB wr (w.heap.size + 1) A3 L3 f3 A4 L4 f4 ∧ FB wr (w.heap.size + 1 + 1) none 0 false none 0 false := by
  subst hwr
  refine ⟨((FB.new w _ _ _ _ _ _).alloc _).alloc _, FB.alloc ?_ _, ?_⟩
  ·have h := FB.new (w.alloc (.cells #[.slice A1 L1 L1, .bool f1, .slice A2 L2 L2, .bool f2] 116)) A3 L3 f3 A4 L4 f4
   simpa using h
  ·have h := FB.new ((w.alloc (.cells #[.slice A1 L1 L1, .bool f1, .slice A2 L2 L2, .bool f2] 116)).alloc (.cells #[.slice A3 L3 L3, .bool f3, .slice A4 L4 L4, .bool f4] 116)) none 0 false none 0 false
   simpa using h
 have HX : Aside0 (wr.cell? ⟨w.heap.size, 0, none⟩ = some (.slice A1 L1 L1) ∧ wr.cell? ⟨w.heap.size, 1, none⟩ = some (.bool f1) ∧ wr.cell? ⟨w.heap.size, 2, none⟩ = some (.slice A2 L2 L2) ∧ wr.cell? ⟨w.heap.size, 3, none⟩ = some (.bool f2) ∧ wr.cell? ⟨w.heap.size + 1, 0, none⟩ = some (.slice A3 L3 L3) ∧ wr.cell? ⟨w.heap.size + 1, 1, none⟩ = some (.bool f3) ∧ wr.cell? ⟨w.heap.size + 1, 2, none⟩ = some (.slice A4 L4 L4) ∧ wr.cell? ⟨w.heap.size + 1, 3, none⟩ = some (.bool f4)) :=
  ⟨HF.1.cell0, HF.1.cell1, HF.1.cell2, HF.1.cell3, HF.2.1.cell0, HF.2.1.cell1, HF.2.1.cell2, HF.2.1.cell3⟩
 have HO := Aside0.mk HF.2.2
 have HA : Aside0 (Below w.heap.size w wr ∧ w.heap.size + 3 ≤ wr.heap.size) := ⟨by subst hwr; repeat (first | exact Below.refl _ _ | apply below_alloc), by subst hwr; simp⟩
 rw [hwr]
 clear hwr HF
 rename_i Q' K hK
 have KP : Aside0 (∀ V, Below (w.heap.size + 2) wr V → (fun V => V.cell? ⟨w.heap.size, 0, none⟩ = some (.slice A1 L1 L1) ∧ V.cell? ⟨w.heap.size, 1, none⟩ = some (.bool f1) ∧ V.cell? ⟨w.heap.size, 2, none⟩ = some (.slice A2 L2 L2) ∧ V.cell? ⟨w.heap.size, 3, none⟩ = some (.bool f2) ∧ V.cell? ⟨w.heap.size + 1, 0, none⟩ = some (.slice A3 L3 L3) ∧ V.cell? ⟨w.heap.size + 1, 1, none⟩ = some (.bool f3) ∧ V.cell? ⟨w.heap.size + 1, 2, none⟩ = some (.slice A4 L4 L4) ∧ V.cell? ⟨w.heap.size + 1, 3, none⟩ = some (.bool f4) ∧ Below (w.heap.size + 2) wr V) V) := ⟨fun V hBB => ⟨keepB hBB (by omega) HX.out.1, keepB hBB (by omega) HX.out.2.1, keepB hBB (by omega) HX.out.2.2.1, keepB hBB (by omega) HX.out.2.2.2.1, keepB hBB (by omega) HX.out.2.2.2.2.1, keepB hBB (by omega) HX.out.2.2.2.2.2.1, keepB hBB (by omega) HX.out.2.2.2.2.2.2.1, keepB hBB (by omega) HX.out.2.2.2.2.2.2.2, hBB⟩⟩
 refine wq KP fun hHeld => ?_
 refine tp 0 ?_
 try simp only [PU]
 refine tp 1 ?_
 try simp only [PU]
 refine tp 2 ?_
 try simp only [PU]
 refine tp 3 ?_
 try simp only [PU]
 refine tp 5 ?_
 try simp only [PU]
 refine tp 6 ?_
 try simp only [PU]
 refine tp 7 ?_
 try simp only [PU]
 refine tp 8 ?_
 try simp only [PU]
 refine tp 11 ?_
 try simp only [PU]
 refine tp 12 ?_
 try simp only [PU]
 refine tp 13 ?_
 try simp only [PU]
 refine tp 14 ?_
 try simp only [PU]
 refine tc 4 fun K hK => ?_
 go_simp
 (go_at_call 85; (with_reducible refine (T1.out _ (HA.out.1.trans (hHeld.2.2.2.2.2.2.2.2.mono (by omega)))).mono ?_); rintro e wm ⟨A5, k5, rfl, hm5, hbq⟩; have HO := Aside0.mk ((HO.out.below (below_drew1 (Below.refl _ _))).below hbq); have hm5 := Aside0.mk hm5)
 refine hK.out _ _ ?_ fun hHeld => ?_
 ·(first | exact KP.out _ (bKeep hbq hHeld.2.2.2.2.2.2.2.2 (by have := HA.out.2; omega)) | (refine KP.out _ ?_; repeat (first | exact hHeld.2.2.2.2.2.2.2.2 | refine Below.setCell ?_ (by first | (simp; done) | (simp; omega)) _)))
 clear hK K; try simp only [PU]
 refine tc 9 fun K hK => ?_
 go_simp
 (go_at_call 85; (with_reducible refine (T2.out _ (HA.out.1.trans (hHeld.2.2.2.2.2.2.2.2.mono (by omega)))).mono ?_); rintro e wm ⟨A6, k6, rfl, hm6, hbq⟩; have HO := Aside0.mk (HO.out.below hbq); have hm6 := Aside0.mk hm6; have hm5 := Aside0.mk (hm5.out.up hbq); have q0 := HO.out.cell0; have q1 := HO.out.cell1; have q2 := HO.out.cell2; have q3 := HO.out.cell3; have q4 := HO.out.fr 0; have q5 := HO.out.fr 1; have q6 := HO.out.fr 2; have q7 := HO.out.fr 3)
 refine hK.out _ _ ?_ fun hHeld => ?_
 ·(first | exact KP.out _ (bKeep hbq hHeld.2.2.2.2.2.2.2.2 (by have := HA.out.2; omega)) | (refine KP.out _ ?_; repeat (first | exact hHeld.2.2.2.2.2.2.2.2 | refine Below.setCell ?_ (by first | (simp; done) | (simp; omega)) _)))
 clear hK K; try simp only [PU]
 refine tc 10 fun K hK => ?_
 go_simp
 (go_at_call 80; (with_reducible refine (TP.out _ _ _ _ _ hm5.out hm6.out).mono ?_); rintro e wm ⟨A7, k7, rfl, hm7, hbq⟩; have HO := Aside0.mk (HO.out.below hbq); have hm7 := Aside0.mk hm7; clear hm5 hm6)
 refine hK.out _ _ ?_ fun hHeld => ?_
 ·(first | exact KP.out _ (bKeep hbq hHeld.2.2.2.2.2.2.2.2 (by have := HA.out.2; omega)) | (refine KP.out _ ?_; repeat (first | exact hHeld.2.2.2.2.2.2.2.2 | refine Below.setCell ?_ (by first | (simp; done) | (simp; omega)) _)))
 clear hK K; try simp only [PU]
 refine tc 15 fun K hK => ?_
 go_simp
 (go_at_call 85; (with_reducible refine (T3.out _ (HA.out.1.trans (hHeld.2.2.2.2.2.2.2.2.mono (by omega)))).mono ?_); rintro e wm ⟨A8, k8, rfl, hm8, hbq⟩; have HO := Aside0.mk (HO.out.below hbq); have hm8 := Aside0.mk hm8; have hm7 := Aside0.mk (hm7.out.up hbq); have q0 := HO.out.cell0; have q1 := HO.out.cell1; have q2 := HO.out.cell2; have q3 := HO.out.cell3; have q4 := HO.out.fr 0; have q5 := HO.out.fr 1; have q6 := HO.out.fr 2; have q7 := HO.out.fr 3)
 refine hK.out _ _ ?_ fun hHeld => ?_
 ·(first | exact KP.out _ (bKeep hbq hHeld.2.2.2.2.2.2.2.2 (by have := HA.out.2; omega)) | (refine KP.out _ ?_; repeat (first | exact hHeld.2.2.2.2.2.2.2.2 | refine Below.setCell ?_ (by first | (simp; done) | (simp; omega)) _)))
 clear hK K; try simp only [PU]
 refine tp 16 ?_
 try simp only [PU]
 refine tc 17 fun K hK => ?_
 go_simp
 refine hK.out _ _ ?_ fun hHeld => ?_
 ·(first | exact KP.out _ (bKeep hbq hHeld.2.2.2.2.2.2.2.2 (by have := HA.out.2; omega)) | (refine KP.out _ ?_; repeat (first | exact hHeld.2.2.2.2.2.2.2.2 | refine Below.setCell ?_ (by first | (simp; done) | (simp; omega)) _)))
 clear hK K; try simp only [PU]
 refine wpAnyH_done (by kernel_rfl) ?_ _
 refine hK _ _ ?_
 go_wp2
 refine bodyPost_ret (v := .agg #[.slice A7 k7 k7, .bool g1, .slice A8 k8 k8, .bool g2]) (by simp [results, Tryz.results99, go_sem, q0, q1, q2, q3]) rfl ⟨A7, k7, A8, k8, rfl, ?_, ?_, HA.out.1.trans (hHeld.2.2.2.2.2.2.2.2.mono (by omega))⟩
 ·exact (HO.out.mag hm7.out _ _ _ _).more (by simp)
 ·exact (HO.out.mag hm8.out _ _ _ _).more (by simp)
theorem opF_minus {p q r s : Int} (hp : Dig 490 p) (hq : Dig 490 q) (hr : Dig 490 r) (hs : Dig 490 s) : OpF 103 p q r s (p * s - r * q) (q * s) := by
 intro w A1 A2 A3 A4 L1 L2 L3 L4 h1 h2 h3 h4
 have TN : ∀ W, Below w.heap.size w W → Calls Tryz.prog 75 #[iV A3 L3 r] W fun e w' => e = .returned (iV A3 L3 (-r)) ∧ Below W.heap.size W w' := fun W hb => (negative_calls (h3.up hb) (Nat.le_refl _)).mono fun e w' h => ⟨h.1, h.2.2⟩
 have TP : ∀ W, Below w.heap.size w W → Calls Tryz.prog 99 #[fV A1 L1 p A2 L2 q, fV A3 L3 (-r) A4 L4 s] W fun e w' => ∃ A k A' k', e = .returned (fV A k (p * s - r * q) A' k' (q * s)) ∧ Mag w' w'.heap.size A k (p * s - r * q).natAbs ∧ Mag w' w'.heap.size A' k' (q * s).natAbs ∧ Below W.heap.size W w' := fun W hb => by
  have h := opF_plus hp hq hr.neg hs W A1 A2 A3 A4 L1 L2 L3 L4 (h1.up hb) (h2.up hb) (by rw [Int.natAbs_neg]; exact h3.up hb) (h4.up hb)
  rwa [Int.neg_mul, ← Int.sub_eq_add_neg] at h
 unfold fV
 unfold fV iV at *
 generalize decide (p * s - r * q < 0) = g1 at *
 generalize (p * s - r * q).natAbs = n1 at *
 generalize decide (q * s < 0) = g2 at *
 generalize (q * s).natAbs = n2 at *
 generalize decide (p < 0) = f1 at *
 generalize decide (q < 0) = f2 at *
 generalize decide (r < 0) = f3 at *
 generalize decide (s < 0) = f4 at *
 generalize decide (-r < 0) = f5 at *
 have TN := Aside0.mk TN
 have TP := Aside0.mk TP
 clear h1 h2 h3 h4 hp hq hr hs
 go_enter Tryz.func103, Tryz.ntmps103
 go_wp2_with fail
 obtain ⟨wr, hwr⟩ : ∃ wr, (((w.alloc (.cells #[.slice A1 L1 L1, .bool f1, .slice A2 L2 L2, .bool f2] 116)).alloc (.cells #[.slice A3 L3 L3, .bool f3, .slice A4 L4 L4, .bool f4] 116)).alloc (.cells #[.slice none 0 0, .bool false, .slice none 0 0, .bool false] 116)) = wr := ⟨_, rfl⟩
 have HF : FB wr w.heap.size A1 L1 f1 A2 L2 f2 ∧ FB wr (w.heap.size + 1) A3 L3 f3 A4 L4 f4 ∧ FB wr (w.heap.size + 1 + 1) none 0 false none 0 false := by
  subst hwr
  refine ⟨((FB.new w _ _ _ _ _ _).alloc _).alloc _, FB.alloc ?_ _, ?_⟩
  ·have h := FB.new (w.alloc (.cells #[.slice A1 L1 L1, .bool f1, .slice A2 L2 L2, .bool f2] 116)) A3 L3 f3 A4 L4 f4
   simpa using h
  ·have h := FB.new ((w.alloc (.cells #[.slice A1 L1 L1, .bool f1, .slice A2 L2 L2, .bool f2] 116)).alloc (.cells #[.slice A3 L3 L3, .bool f3, .slice A4 L4 L4, .bool f4] 116)) none 0 false none 0 false
   simpa using h
 have HX : Aside0 (wr.cell? ⟨w.heap.size, 0, none⟩ = some (.slice A1 L1 L1) ∧ wr.cell? ⟨w.heap.size, 1, none⟩ = some (.bool f1) ∧ wr.cell? ⟨w.heap.size, 2, none⟩ = some (.slice A2 L2 L2) ∧ wr.cell? ⟨w.heap.size, 3, none⟩ = some (.bool f2) ∧ wr.cell? ⟨w.heap.size + 1, 0, none⟩ = some (.slice A3 L3 L3) ∧ wr.cell? ⟨w.heap.size + 1, 1, none⟩ = some (.bool f3) ∧ wr.cell? ⟨w.heap.size + 1, 2, none⟩ = some (.slice A4 L4 L4) ∧ wr.cell? ⟨w.heap.size + 1, 3, none⟩ = some (.bool f4)) :=
  ⟨HF.1.cell0, HF.1.cell1, HF.1.cell2, HF.1.cell3, HF.2.1.cell0, HF.2.1.cell1, HF.2.1.cell2, HF.2.1.cell3⟩
 have HO := Aside0.mk HF.2.2
 have HA : Aside0 (Below w.heap.size w wr ∧ w.heap.size + 3 ≤ wr.heap.size) := ⟨by subst hwr; repeat (first | exact Below.refl _ _ | apply below_alloc), by subst hwr; simp⟩
 rw [hwr]
 clear hwr HF
 rename_i Q' K hK
 have KP : Aside0 (∀ V, Below (w.heap.size + 2) wr V → (fun V => V.cell? ⟨w.heap.size, 0, none⟩ = some (.slice A1 L1 L1) ∧ V.cell? ⟨w.heap.size, 1, none⟩ = some (.bool f1) ∧ V.cell? ⟨w.heap.size, 2, none⟩ = some (.slice A2 L2 L2) ∧ V.cell? ⟨w.heap.size, 3, none⟩ = some (.bool f2) ∧ V.cell? ⟨w.heap.size + 1, 0, none⟩ = some (.slice A3 L3 L3) ∧ V.cell? ⟨w.heap.size + 1, 1, none⟩ = some (.bool f3) ∧ V.cell? ⟨w.heap.size + 1, 2, none⟩ = some (.slice A4 L4 L4) ∧ V.cell? ⟨w.heap.size + 1, 3, none⟩ = some (.bool f4) ∧ Below (w.heap.size + 2) wr V) V) := ⟨fun V hBB => ⟨keepB hBB (by omega) HX.out.1, keepB hBB (by omega) HX.out.2.1, keepB hBB (by omega) HX.out.2.2.1, keepB hBB (by omega) HX.out.2.2.2.1, keepB hBB (by omega) HX.out.2.2.2.2.1, keepB hBB (by omega) HX.out.2.2.2.2.2.1, keepB hBB (by omega) HX.out.2.2.2.2.2.2.1, keepB hBB (by omega) HX.out.2.2.2.2.2.2.2, hBB⟩⟩
 refine wq KP fun hHeld => ?_
 refine tp 0 ?_
 try simp only [PU]
 refine tp 1 ?_
 try simp only [PU]
 refine tp 2 ?_
 try simp only [PU]
 refine tp 4 ?_
 try simp only [PU]
 refine tp 5 ?_
 try simp only [PU]
 refine tc 3 fun K hK => ?_
 go_simp
 (go_at_call 75; (with_reducible refine (TN.out _ (HA.out.1.trans (hHeld.2.2.2.2.2.2.2.2.mono (by omega)))).mono ?_); rintro e wm ⟨rfl, hbq⟩; have HO := Aside0.mk ((HO.out.below (below_drew1 (Below.refl _ _))).below hbq))
 refine hK.out _ _ ?_ fun hHeld => ?_
 ·(first | exact KP.out _ (bKeep hbq hHeld.2.2.2.2.2.2.2.2 (by have := HA.out.2; omega)) | (refine KP.out _ ?_; repeat (first | exact hHeld.2.2.2.2.2.2.2.2 | refine Below.setCell ?_ (by first | (simp; done) | (simp; omega)) _)))
 clear hK K; try simp only [PU]
 refine tp 6 ?_
 try simp only [PU]
 refine tc 7 fun K hK => ?_
 go_simp
 (go_at_call 99; (with_reducible refine (TP.out _ (HA.out.1.trans (hHeld.2.2.2.2.2.2.2.2.mono (by omega)))).mono ?_); rintro e wm ⟨A5, k5, A6, k6, rfl, hm5, hm6, hbq⟩; have HO := Aside0.mk (HO.out.below hbq); have hm5 := Aside0.mk hm5; have hm6 := Aside0.mk hm6; have q0 := HO.out.cell0; have q1 := HO.out.cell1; have q2 := HO.out.cell2; have q3 := HO.out.cell3; have q4 := HO.out.fr 0; have q5 := HO.out.fr 1; have q6 := HO.out.fr 2; have q7 := HO.out.fr 3)
 refine hK.out _ _ ?_ fun hHeld => ?_
 ·(first | exact KP.out _ (bKeep hbq hHeld.2.2.2.2.2.2.2.2 (by have := HA.out.2; omega)) | (refine KP.out _ ?_; repeat (first | exact hHeld.2.2.2.2.2.2.2.2 | refine Below.setCell ?_ (by first | (simp; done) | (simp; omega)) _)))
 clear hK K; try simp only [PU]
 refine tc 8 fun K hK => ?_
 go_simp
 refine hK.out _ _ ?_ fun hHeld => ?_
 ·(first | exact KP.out _ (bKeep hbq hHeld.2.2.2.2.2.2.2.2 (by have := HA.out.2; omega)) | (refine KP.out _ ?_; repeat (first | exact hHeld.2.2.2.2.2.2.2.2 | refine Below.setCell ?_ (by first | (simp; done) | (simp; omega)) _)))
 clear hK K; try simp only [PU]
 refine wpAnyH_done (by kernel_rfl) ?_ _
 refine hK _ _ ?_
 go_wp2
 refine bodyPost_ret (v := .agg #[.slice A5 k5 k5, .bool g1, .slice A6 k6 k6, .bool g2]) (by simp [results, Tryz.results103, go_sem, q0, q1, q2, q3]) rfl ⟨A5, k5, A6, k6, rfl, ?_, ?_, HA.out.1.trans (hHeld.2.2.2.2.2.2.2.2.mono (by omega))⟩
 ·exact (HO.out.mag hm5.out _ _ _ _).more (by simp)
 ·exact (HO.out.mag hm6.out _ _ _ _).more (by simp)
end
end Go.Proofs.YtillgofjlpjbcaaGreatDoor.Nm
