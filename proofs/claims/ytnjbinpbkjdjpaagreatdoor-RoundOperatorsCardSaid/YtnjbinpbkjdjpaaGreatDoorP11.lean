import Derived.Test.YtnjbinpbkjdjpaaGreatDoorP10
import Derived.Test.YtnjbinpbkjdjpaaGreatDoorP8
import Derived.Maps.AppendAt
/- Own text: contracts and laws on which the card rests (GaB GaE GaF GaG GaH GaI GaJ GaK GaL GaM GaN GaO). -/
set_option linter.unusedVariables false
set_option linter.unusedSimpArgs false
set_option maxRecDepth 1000000
set_option maxHeartbeats 16000000
namespace Go.Proofs.YtnjbinpbkjdjpaaGreatDoor.Nm
section
open Go.Proofs.YtnjbinpbkjdjpaaGreatDoor.Rf Go.Proofs.YtnjbinpbkjdjpaaGreatDoorW.PrintLast Go.Proofs.YtnjbinpbkjdjpaaGreatDoorW.PrintMore Go.Proofs.YtnjbinpbkjdjpaaGreatDoorW.PrintWords Go.RowKit Go.Shelf Ieee
theorem fd_frc {s : ByteArray} (h : fdR s = 0) : ∃ P Q, Frc (fdS s) P Q := by
 unfold fdR at h
 unfold fdS
 by_cases h0 : fdE s = 0
 ·rw [if_pos h0] at h ⊢
  obtain ⟨P, Q, hf, _⟩ := rs_frc (by have : (0 : Int) < 10 ^ (cutB 46 s).size := Int.pow_pos (by decide); omega) h
  exact ⟨P, Q, hf⟩
 ·rw [if_neg h0] at h; exact absurd h h0
theorem near_ok {s : Bool} {p q : Nat} (hq : 0 < q) (h : nrE s p q = 0) : nrW s p q < 4294967296 ∧ fin32 (nrW s p q) = true := by
 unfold nrE at h
 unfold nrW
 cases hn : near s p q with
 | none => rw [hn] at h; exact absurd h (by decide)
 | some b =>
   have := near_lt hq hn
   exact ⟨this.2, decide_eq_true this.1⟩
/-- The fraction of a literal. -/
def liT (s : ByteArray) : ByteArray := fdS (bodyB s)
def liN (s : ByteArray) : Bool := if minusB s then !(minusB (liT s)) else minusB (liT s)
def liP (s : ByteArray) : Nat := (numR (liT s)).natAbs
def liQ (s : ByteArray) : Nat := (denR (liT s)).natAbs
/-- What Literal answers. -/
def liE (s : ByteArray) : Int := if fdR (bodyB s) = 0 then nrE (liN s) (liP s) (liQ s) else fdR (bodyB s)
def liW (s : ByteArray) : Nat := if liE s = 0 then nrW (liN s) (liP s) (liQ s) else 0
def liX (s : ByteArray) : Bool := if liE s = 0 then decide (plN (liN s) (liP s * fvQ (liW s)) (!(fvS (liW s))) (fvP (liW s) * liQ s) = 0) else false
theorem literal_bad {s : ByteArray} (hs : s.size ≤ 10000) (h : fdR (bodyB s) ≠ 0) (w : World) (hE : EN w) :
 Calls Tryz.prog 27 #[.string s] w fun e w' => e = .returned (.tuple #[.float .f32 0, .bool false, .int .i64 (fdR (bodyB s))]) ∧ Below w.heap.size w w' := by
 have zb := bodyB_size s
 have HCUT := Aside0.mk (cut_calls s)
 have HFD := Aside0.mk (fromDecimal_calls (bodyB s) (by omega) w hE)
 have hne : (fdR (bodyB s) != 0) = true := by simp [h]
 clear h hs zb hE
 generalize fdS (bodyB s) = t at *
 generalize fdR (bodyB s) = k at *
 generalize bodyB s = u at *
 generalize minusB s = m at *
 go_enter Tryz.func27, Tryz.ntmps27
 go_wp2_with (first | (go_at_call 90; (with_reducible refine (HCUT.out _).mono ?_); rintro e W1 ⟨rfl, hww⟩; rw [hww]; clear hww) | (go_at_call 91; (with_reducible refine HFD.out.mono ?_); rintro e W1 ⟨rfl, hb1⟩; have HB := Aside0.mk hb1; clear hb1))
 go_ret3
 exact ⟨rfl, HB.out⟩
theorem literal_range {s : ByteArray} (hs : s.size ≤ 10000) (h : fdR (bodyB s) = 0) (h3 : nrE (liN s) (liP s) (liQ s) ≠ 0) (w : World) (hE : EN w) :
 Calls Tryz.prog 27 #[.string s] w fun e w' => e = .returned (.tuple #[.float .f32 0, .bool false, .int .i64 (nrE (liN s) (liP s) (liQ s))]) ∧ Below w.heap.size w w' := by
 have zb := bodyB_size s
 have HCUT := Aside0.mk (cut_calls s)
 have HFD := Aside0.mk (fromDecimal_calls (bodyB s) (by omega) w hE)
 rw [h] at HFD
 obtain ⟨P, Q, hf⟩ := fd_frc h
 obtain ⟨c1, c2, c3⟩ := hf.check
 have hz := hf.size2
 obtain ⟨y1, y2, y3⟩ := frac_sz2 c1
 have HP : Aside0 (∀ W, Below w.heap.size w W → Calls Tryz.prog 79 #[.string (fdS (bodyB s))] W fun e w' => QX W (minusB (fdS (bodyB s))) (numR (fdS (bodyB s))).natAbs (denR (fdS (bodyB s))).natAbs e w') := ⟨fun W hb => parse_calls2 _ (by omega) c1 W (hE.below hb)⟩
 have hne : (nrE (liN s) (liP s) (liQ s) != 0) = true := by simp [h3]
 have HNR : Aside0 (∀ W A1 L1 c1 A2 L2 c2, N2 W A1 L1 c1 (liP s) A2 L2 c2 (liQ s) → Calls Tryz.prog 65 #[qV (liN s) A1 L1 c1 A2 L2 c2] W fun e w' => NrO W (liN s) (liP s) (liQ s) e w') := ⟨fun W A1 L1 c1 A2 L2 c2 hn => nearest_calls hn (y1.more (by omega)) (y2.more (by omega)) y3⟩
 have HOP : Aside0 (∀ W s' A1 L1 c1 A2 L2, ∀ {c2}, N2 W A1 L1 c1 (liP s) A2 L2 c2 (liQ s) → Calls Tryz.prog 92 #[qV s' A1 L1 c1 A2 L2 c2] W fun e w' => QX W (!s') (liP s) (liQ s) e w') := ⟨fun W s' A1 L1 c1 A2 L2 c2 hn => qOpposite_calls hn⟩
 clear h h3 hs zb hE y1 y2 y3 c1 c2 c3 hf hz
 change Aside0 (∀ W, Below w.heap.size w W → Calls Tryz.prog 79 #[.string (liT s)] W fun e w' => QX W (minusB (liT s)) (liP s) (liQ s) e w') at HP
 change Aside0 (Calls Tryz.prog 91 #[.string (bodyB s)] w fun e w' => e = .returned (.tuple #[.string (liT s), .int .i64 0]) ∧ Below w.heap.size w w') at HFD
 unfold NrO QX qV at *
 cases hm : minusB s
 ·have hN : liN s = minusB (liT s) := by unfold liN; rw [hm]; rfl
  rw [hm] at HCUT
  rw [hN] at hne HNR ⊢
  clear hm hN HOP
  generalize nrW (minusB (liT s)) (liP s) (liQ s) = R at *
  generalize nrE (minusB (liT s)) (liP s) (liQ s) = T at *
  generalize liP s = p at *
  generalize liQ s = q at *
  generalize minusB (liT s) = z at *
  generalize liT s = t at *
  generalize bodyB s = u at *
  go_enter Tryz.func27, Tryz.ntmps27
  go_upto_region 6 with (first | (go_at_call 90; (with_reducible refine (HCUT.out _).mono ?_); rintro e W1 ⟨rfl, hww⟩; rw [hww]; clear hww) | (go_at_call 91; (with_reducible refine HFD.out.mono ?_); rintro e W1 ⟨rfl, hb1⟩; have HB := Aside0.mk hb1; clear hb1) | (go_at_call 79; (with_reducible refine (HP.out _ HB.out).mono ?_); rintro e W2 ⟨A1, k1, c1, A2, k2, c2, rfl, hn, hb2⟩; have HN := Aside0.mk hn; have HB2 := Aside0.mk (HB.out.trans (hb2.mono HB.out.size)); clear hn hb2))
  obtain ⟨X, hX⟩ : ∃ X, W2.alloc (.cells #[.bool z, .slice A1 k1 c1, .slice A2 k2 c2] 102) = X := ⟨_, rfl⟩
  obtain ⟨b, hb⟩ : ∃ b, W2.heap.size = b := ⟨_, rfl⟩
  have HQ : Aside0 (QF X b z A1 k1 c1 A2 k2 c2 ∧ N2 X A1 k1 c1 p A2 k2 c2 q ∧ Below w.heap.size w X) := ⟨by
   subst hX
   have h1 := below_alloc (Below.refl W2.heap.size W2) (.cells #[.bool z, .slice A1 k1 c1, .slice A2 k2 c2] 102)
   exact ⟨QF.new _ _ hb _ _ _ _ _ _ _, HN.out.below h1, HB2.out.trans (h1.mono HB2.out.size)⟩⟩
  have HBB : Aside0 (w.heap.size ≤ b) := ⟨by rw [← hb]; exact HB2.out.size⟩
  rw [hX, hb]
  clear hX hb
  have q0 := HQ.out.1.cell0
  have q1 := HQ.out.1.cell1
  have q2 := HQ.out.1.cell2
  go_wp2_with (go_at_call 65; (with_reducible refine (HNR.out _ _ _ _ _ _ _ HQ.out.2.1).mono ?_); rintro e W6 ⟨rfl, hb6⟩; have HB6 := Aside0.mk hb6; clear hb6)
  go_ret3
  exact ⟨rfl, HQ.out.2.2.trans (HB6.out.mono HQ.out.2.2.size)⟩
 ·have hN : liN s = !(minusB (liT s)) := by unfold liN; rw [hm]; rfl
  rw [hm] at HCUT
  rw [hN] at hne HNR ⊢
  clear hm hN
  generalize nrW (!(minusB (liT s))) (liP s) (liQ s) = R at *
  generalize nrE (!(minusB (liT s))) (liP s) (liQ s) = T at *
  generalize liP s = p at *
  generalize liQ s = q at *
  generalize minusB (liT s) = z at *
  generalize liT s = t at *
  generalize bodyB s = u at *
  go_enter Tryz.func27, Tryz.ntmps27
  go_upto_region 6 with (first | (go_at_call 90; (with_reducible refine (HCUT.out _).mono ?_); rintro e W1 ⟨rfl, hww⟩; rw [hww]; clear hww) | (go_at_call 91; (with_reducible refine HFD.out.mono ?_); rintro e W1 ⟨rfl, hb1⟩; have HB := Aside0.mk hb1; clear hb1) | (go_at_call 79; (with_reducible refine (HP.out _ HB.out).mono ?_); rintro e W2 ⟨A1, k1, c1, A2, k2, c2, rfl, hn, hb2⟩; have HN := Aside0.mk hn; have HB2 := Aside0.mk (HB.out.trans (hb2.mono HB.out.size)); clear hn hb2))
  obtain ⟨X, hX⟩ : ∃ X, W2.alloc (.cells #[.bool z, .slice A1 k1 c1, .slice A2 k2 c2] 102) = X := ⟨_, rfl⟩
  obtain ⟨b, hb⟩ : ∃ b, W2.heap.size = b := ⟨_, rfl⟩
  have HQ : Aside0 (QF X b z A1 k1 c1 A2 k2 c2 ∧ N2 X A1 k1 c1 p A2 k2 c2 q ∧ Below w.heap.size w X) := ⟨by
   subst hX
   have h1 := below_alloc (Below.refl W2.heap.size W2) (.cells #[.bool z, .slice A1 k1 c1, .slice A2 k2 c2] 102)
   exact ⟨QF.new _ _ hb _ _ _ _ _ _ _, HN.out.below h1, HB2.out.trans (h1.mono HB2.out.size)⟩⟩
  have HBB : Aside0 (w.heap.size ≤ b) := ⟨by rw [← hb]; exact HB2.out.size⟩
  rw [hX, hb]
  clear hX hb
  have q0 := HQ.out.1.cell0
  have q1 := HQ.out.1.cell1
  have q2 := HQ.out.1.cell2
  go_upto_region 8 with (go_at_call 92; (with_reducible refine (HOP.out _ _ _ _ _ _ _ HQ.out.2.1).mono ?_); rintro e W4 ⟨A3, k3, c3, A4, k4, c4, rfl, hn, hb4⟩; have HN4 := Aside0.mk hn; have HB4 := Aside0.mk hb4; have r0 := (HQ.out.1.below hb4).cell0; have r1 := (HQ.out.1.below hb4).cell1; have r2 := (HQ.out.1.below hb4).cell2; have r3 := (HQ.out.1.below hb4).fr 0; have r4 := (HQ.out.1.below hb4).fr 1; have r5 := (HQ.out.1.below hb4).fr 2; clear hn hb4)
  obtain ⟨Y, hY⟩ : ∃ Y, put3 W4 b (!z) A3 k3 c3 A4 k4 c4 = Y := ⟨_, rfl⟩
  have HQ5 : Aside0 (QF Y b (!z) A3 k3 c3 A4 k4 c4 ∧ N2 Y A3 k3 c3 p A4 k4 c4 q ∧ Below w.heap.size w Y) := ⟨by
   subst hY
   have h1 := HQ.out.1.below HB4.out
   exact ⟨h1.put3, N2.put3 h1 HN4.out, below_put3 (HQ.out.2.2.trans (HB4.out.mono HQ.out.2.2.size)) HBB.out⟩⟩
  rw [show ((W4.setCell ⟨b, 0, none⟩ (.bool (!z))).setCell ⟨b, 1, none⟩ (.slice A3 k3 c3)).setCell ⟨b, 2, none⟩ (.slice A4 k4 c4) = Y from hY]
  clear hY q0 q1 q2 r0 r1 r2 r3 r4 r5
  clear HQ
  have HQ := HQ5
  clear HQ5
  have q0 := HQ.out.1.cell0
  have q1 := HQ.out.1.cell1
  have q2 := HQ.out.1.cell2
  go_wp2_with (go_at_call 65; (with_reducible refine (HNR.out _ _ _ _ _ _ _ HQ.out.2.1).mono ?_); rintro e W6 ⟨rfl, hb6⟩; have HB6 := Aside0.mk hb6; clear hb6)
  go_ret3
  exact ⟨rfl, HQ.out.2.2.trans (HB6.out.mono HQ.out.2.2.size)⟩
theorem literal_good {s : ByteArray} (hs : s.size ≤ 10000) (h : fdR (bodyB s) = 0) (h3 : nrE (liN s) (liP s) (liQ s) = 0) (w : World) (hE : EN w) :
 Calls Tryz.prog 27 #[.string s] w fun e w' => e = .returned (.tuple #[.float .f32 (nrW (liN s) (liP s) (liQ s)), .bool (decide (plN (liN s) (liP s * fvQ (nrW (liN s) (liP s) (liQ s))) (!(fvS (nrW (liN s) (liP s) (liQ s)))) (fvP (nrW (liN s) (liP s) (liQ s)) * liQ s) = 0)), .int .i64 0]) ∧ Below w.heap.size w w' := by
 have zb := bodyB_size s
 have HCUT := Aside0.mk (cut_calls s)
 have HFD := Aside0.mk (fromDecimal_calls (bodyB s) (by omega) w hE)
 rw [h] at HFD
 obtain ⟨P, Q, hf⟩ := fd_frc h
 obtain ⟨c1, c2, c3⟩ := hf.check
 have hz := hf.size2
 obtain ⟨y1, y2, y3⟩ := frac_sz2 c1
 have HP : Aside0 (∀ W, Below w.heap.size w W → Calls Tryz.prog 79 #[.string (fdS (bodyB s))] W fun e w' => QX W (minusB (fdS (bodyB s))) (numR (fdS (bodyB s))).natAbs (denR (fdS (bodyB s))).natAbs e w') := ⟨fun W hb => parse_calls2 _ (by omega) c1 W (hE.below hb)⟩
 obtain ⟨n1, n2⟩ := near_ok (show 0 < liQ s from y3) h3
 have HNR : Aside0 (∀ W A1 L1 c1 A2 L2 c2, N2 W A1 L1 c1 (liP s) A2 L2 c2 (liQ s) → Calls Tryz.prog 65 #[qV (liN s) A1 L1 c1 A2 L2 c2] W fun e w' => NrO W (liN s) (liP s) (liQ s) e w') := ⟨fun W A1 L1 c1 A2 L2 c2 hn => nearest_calls hn (y1.more (by omega)) (y2.more (by omega)) y3⟩
 unfold NrO at HNR
 rw [h3] at HNR
 have HOP : Aside0 (∀ W s' A1 L1 c1 A2 L2, ∀ {c2}, N2 W A1 L1 c1 (liP s) A2 L2 c2 (liQ s) → Calls Tryz.prog 92 #[qV s' A1 L1 c1 A2 L2 c2] W fun e w' => QX W (!s') (liP s) (liQ s) e w') := ⟨fun W s' A1 L1 c1 A2 L2 c2 hn => qOpposite_calls hn⟩
 obtain ⟨Zw, hZw⟩ : ∃ Zw, nrW (liN s) (liP s) (liQ s) = Zw := ⟨_, rfl⟩
 rw [hZw] at n1 n2 HNR ⊢
 have hcv := conv_good (neg32 Zw) (r := Zw % 2147483648) (of_decide_eq_true n2)
 rw [← split32 n1] at hcv
 have HEX := Aside0.mk (exactly32 n1 n2)
 obtain ⟨z1, z2, z3⟩ := fv_sz n2
 have HMI : Aside0 (∀ W A1 L1 c1 A2 L2 c2 A3 L3 c3 A4 L4 c4, N2 W A1 L1 c1 (liP s) A2 L2 c2 (liQ s) → N2 W A3 L3 c3 (fvP Zw) A4 L4 c4 (fvQ Zw) → Calls Tryz.prog 80 #[qV (liN s) A1 L1 c1 A2 L2 c2, qV (fvS Zw) A3 L3 c3 A4 L4 c4] W fun e w' => QX W (plS (liN s) (liP s * fvQ Zw) (!(fvS Zw)) (fvP Zw * liQ s)) (plN (liN s) (liP s * fvQ Zw) (!(fvS Zw)) (fvP Zw * liQ s)) (liQ s * fvQ Zw) e w') :=
  ⟨fun W A1 L1 c1 A2 L2 c2 A3 L3 c3 A4 L4 c4 h1 h2 => qMinus_calls h1 h2 (Sz.more (k := 100000) y1 (by omega)) (Sz.more (k := 100000) y2 (by omega)) (z1.more (by omega)) (z2.more (by omega))⟩
 have HZE : Aside0 (∀ W s' A1 L1 c1 A2 L2, ∀ {c2 p q}, N2 W A1 L1 c1 p A2 L2 c2 q → Calls Tryz.prog 93 #[qV s' A1 L1 c1 A2 L2 c2] W fun e w' => e = .returned (.bool (decide (p = 0))) ∧ Below W.heap.size W w') := ⟨fun W s' A1 L1 c1 A2 L2 c2 p q hn => qIsZero_calls hn⟩
 clear h h3 hs zb hE y1 y2 y3 c1 c2 c3 hf hz n1 n2 z1 z2 z3 hZw
 change Aside0 (∀ W, Below w.heap.size w W → Calls Tryz.prog 79 #[.string (liT s)] W fun e w' => QX W (minusB (liT s)) (liP s) (liQ s) e w') at HP
 change Aside0 (Calls Tryz.prog 91 #[.string (bodyB s)] w fun e w' => e = .returned (.tuple #[.string (liT s), .int .i64 0]) ∧ Below w.heap.size w w') at HFD
 unfold QX qV at *
 generalize S64 (neg32 Zw) + w32 (Zw % 2147483648) = yz at *
 cases hm : minusB s
 ·have hN : liN s = minusB (liT s) := by unfold liN; rw [hm]; rfl
  rw [hm] at HCUT
  rw [hN] at HNR HMI ⊢
  clear hm hN HOP
  generalize plN (minusB (liT s)) (liP s * fvQ Zw) (!(fvS Zw)) (fvP Zw * liQ s) = dn at *
  generalize plS (minusB (liT s)) (liP s * fvQ Zw) (!(fvS Zw)) (fvP Zw * liQ s) = ds at *
  generalize liQ s * fvQ Zw = dd at *
  generalize fvP Zw = fP at *
  generalize fvQ Zw = fQ at *
  generalize fvS Zw = fS at *
  generalize liP s = p at *
  generalize liQ s = q at *
  generalize minusB (liT s) = z at *
  generalize liT s = t at *
  generalize bodyB s = u at *
  go_enter Tryz.func27, Tryz.ntmps27
  go_upto_region 6 with (first | (go_at_call 90; (with_reducible refine (HCUT.out _).mono ?_); rintro e W1 ⟨rfl, hww⟩; rw [hww]; clear hww) | (go_at_call 91; (with_reducible refine HFD.out.mono ?_); rintro e W1 ⟨rfl, hb1⟩; have HB := Aside0.mk hb1; clear hb1) | (go_at_call 79; (with_reducible refine (HP.out _ HB.out).mono ?_); rintro e W2 ⟨A1, k1, c1, A2, k2, c2, rfl, hn, hb2⟩; have HN := Aside0.mk hn; have HB2 := Aside0.mk (HB.out.trans (hb2.mono HB.out.size)); clear hn hb2))
  obtain ⟨X, hX⟩ : ∃ X, W2.alloc (.cells #[.bool z, .slice A1 k1 c1, .slice A2 k2 c2] 102) = X := ⟨_, rfl⟩
  obtain ⟨b, hb⟩ : ∃ b, W2.heap.size = b := ⟨_, rfl⟩
  have HQ : Aside0 (QF X b z A1 k1 c1 A2 k2 c2 ∧ N2 X A1 k1 c1 p A2 k2 c2 q ∧ Below w.heap.size w X) := ⟨by
   subst hX
   have h1 := below_alloc (Below.refl W2.heap.size W2) (.cells #[.bool z, .slice A1 k1 c1, .slice A2 k2 c2] 102)
   exact ⟨QF.new _ _ hb _ _ _ _ _ _ _, HN.out.below h1, HB2.out.trans (h1.mono HB2.out.size)⟩⟩
  have HBB : Aside0 (w.heap.size ≤ b) := ⟨by rw [← hb]; exact HB2.out.size⟩
  rw [hX, hb]
  clear hX hb
  have q0 := HQ.out.1.cell0
  have q1 := HQ.out.1.cell1
  have q2 := HQ.out.1.cell2
  go_upto_region 11 with (go_at_call 65; (with_reducible refine (HNR.out _ _ _ _ _ _ _ HQ.out.2.1).mono ?_); rintro e W6 ⟨rfl, hb6⟩; have HB6 := Aside0.mk hb6; clear hb6)
  have HX := Aside0.mk (And.intro (HQ.out.1.below HB6.out).cell0 (And.intro (HQ.out.1.below HB6.out).cell1 (HQ.out.1.below HB6.out).cell2))
  have HA : Aside0 (Below w.heap.size w W6 ∧ W6.heap.size ≤ W6.heap.size) := ⟨HQ.out.2.2.trans (HB6.out.mono HQ.out.2.2.size), Nat.le_refl _⟩
  have HN6 := Aside0.mk (HQ.out.2.1.below HB6.out)
  have hbl := (HQ.out.1.below HB6.out).lt
  clear q0 q1 q2
  rename_i Q' K hK
  have KP : Aside0 (∀ V, Below (W6.heap.size) W6 V → (fun V => V.cell? ⟨b, 0, none⟩ = some (.bool z) ∧ V.cell? ⟨b, 1, none⟩ = some (.slice A1 k1 c1) ∧ V.cell? ⟨b, 2, none⟩ = some (.slice A2 k2 c2) ∧ Below (W6.heap.size) W6 V) V) := ⟨fun V hBB => ⟨keepB hBB (by omega) HX.out.1, keepB hBB (by omega) HX.out.2.1, keepB hBB (by omega) HX.out.2.2, hBB⟩⟩
  refine wq KP fun hHeld => ?_
  refine tp 0 ?_
  try simp only [PU]
  refine tp 1 ?_
  try simp only [PU]
  refine tp 2 ?_
  try simp only [PU]
  refine tp 3 ?_
  try simp only [PU]
  refine tc 4 fun K hK => ?_
  go_simp
  (go_at_call 64; (with_reducible refine (HEX.out _).mono ?_); rintro e wm ⟨A7, k7, c7, A8, k8, c8, rfl, hn, hbq⟩; have HN7 := Aside0.mk hn; have HN8 := Aside0.mk (HN6.out.below (hHeld.2.2.2.trans (hbq.mono hHeld.2.2.2.size))); clear hn)
  refine hK.out _ _ ?_ fun hHeld => ?_
  ·(first | exact KP.out _ (bKeep hbq hHeld.2.2.2 (by have := HA.out.2; omega)) | (refine KP.out _ ?_; repeat (first | exact hHeld.2.2.2 | refine Below.setCell ?_ (by first | (simp; done) | (simp; omega)) _)))
  clear hK K; try simp only [PU]
  refine tc 5 fun K hK => ?_
  go_simp
  (go_at_call 80; (with_reducible refine (HMI.out _ _ _ _ _ _ _ _ _ _ _ _ _ HN8.out HN7.out).mono ?_); rintro e wn ⟨A9, k9, c9, A10, k10, c10, rfl, hn, hbq⟩; have HN9 := Aside0.mk hn; clear hn)
  refine hK.out _ _ ?_ fun hHeld => ?_
  ·(first | exact KP.out _ (bKeep hbq hHeld.2.2.2 (by have := HA.out.2; omega)) | (refine KP.out _ ?_; repeat (first | exact hHeld.2.2.2 | refine Below.setCell ?_ (by first | (simp; done) | (simp; omega)) _)))
  clear hK K; try simp only [PU]
  refine tc 6 fun K hK => ?_
  go_simp
  (go_at_call 93; (with_reducible refine (HZE.out _ _ _ _ _ _ _ HN9.out).mono ?_); rintro e wo ⟨rfl, hbq⟩)
  refine hK.out _ _ ?_ fun hHeld => ?_
  ·(first | exact KP.out _ (bKeep hbq hHeld.2.2.2 (by have := HA.out.2; omega)) | (refine KP.out _ ?_; repeat (first | exact hHeld.2.2.2 | refine Below.setCell ?_ (by first | (simp; done) | (simp; omega)) _)))
  clear hK K; try simp only [PU]
  refine tp 7 ?_
  try simp only [PU]
  refine tp 8 ?_
  try simp only [PU]
  refine tp 9 ?_
  try simp only [PU]
  refine wpAnyH_done (by kernel_rfl) ?_ _
  refine hK _ _ ?_
  clear hK
  go_wp2
  go_ret3
  exact ⟨rfl, HA.out.1.trans (hHeld.2.2.2.mono HA.out.1.size)⟩
 ·have hN : liN s = !(minusB (liT s)) := by unfold liN; rw [hm]; rfl
  rw [hm] at HCUT
  rw [hN] at HNR HMI ⊢
  clear hm hN
  generalize plN (!(minusB (liT s))) (liP s * fvQ Zw) (!(fvS Zw)) (fvP Zw * liQ s) = dn at *
  generalize plS (!(minusB (liT s))) (liP s * fvQ Zw) (!(fvS Zw)) (fvP Zw * liQ s) = ds at *
  generalize liQ s * fvQ Zw = dd at *
  generalize fvP Zw = fP at *
  generalize fvQ Zw = fQ at *
  generalize fvS Zw = fS at *
  generalize liP s = p at *
  generalize liQ s = q at *
  generalize minusB (liT s) = z at *
  generalize liT s = t at *
  generalize bodyB s = u at *
  go_enter Tryz.func27, Tryz.ntmps27
  go_upto_region 6 with (first | (go_at_call 90; (with_reducible refine (HCUT.out _).mono ?_); rintro e W1 ⟨rfl, hww⟩; rw [hww]; clear hww) | (go_at_call 91; (with_reducible refine HFD.out.mono ?_); rintro e W1 ⟨rfl, hb1⟩; have HB := Aside0.mk hb1; clear hb1) | (go_at_call 79; (with_reducible refine (HP.out _ HB.out).mono ?_); rintro e W2 ⟨A1, k1, c1, A2, k2, c2, rfl, hn, hb2⟩; have HN := Aside0.mk hn; have HB2 := Aside0.mk (HB.out.trans (hb2.mono HB.out.size)); clear hn hb2))
  obtain ⟨X, hX⟩ : ∃ X, W2.alloc (.cells #[.bool z, .slice A1 k1 c1, .slice A2 k2 c2] 102) = X := ⟨_, rfl⟩
  obtain ⟨b, hb⟩ : ∃ b, W2.heap.size = b := ⟨_, rfl⟩
  have HQ : Aside0 (QF X b z A1 k1 c1 A2 k2 c2 ∧ N2 X A1 k1 c1 p A2 k2 c2 q ∧ Below w.heap.size w X) := ⟨by
   subst hX
   have h1 := below_alloc (Below.refl W2.heap.size W2) (.cells #[.bool z, .slice A1 k1 c1, .slice A2 k2 c2] 102)
   exact ⟨QF.new _ _ hb _ _ _ _ _ _ _, HN.out.below h1, HB2.out.trans (h1.mono HB2.out.size)⟩⟩
  have HBB : Aside0 (w.heap.size ≤ b) := ⟨by rw [← hb]; exact HB2.out.size⟩
  rw [hX, hb]
  clear hX hb
  have q0 := HQ.out.1.cell0
  have q1 := HQ.out.1.cell1
  have q2 := HQ.out.1.cell2
  go_upto_region 8 with (go_at_call 92; (with_reducible refine (HOP.out _ _ _ _ _ _ _ HQ.out.2.1).mono ?_); rintro e W4 ⟨A3, k3, c3, A4, k4, c4, rfl, hn, hb4⟩; have HN4 := Aside0.mk hn; have HB4 := Aside0.mk hb4; have r0 := (HQ.out.1.below hb4).cell0; have r1 := (HQ.out.1.below hb4).cell1; have r2 := (HQ.out.1.below hb4).cell2; have r3 := (HQ.out.1.below hb4).fr 0; have r4 := (HQ.out.1.below hb4).fr 1; have r5 := (HQ.out.1.below hb4).fr 2; clear hn hb4)
  obtain ⟨Y, hY⟩ : ∃ Y, put3 W4 b (!z) A3 k3 c3 A4 k4 c4 = Y := ⟨_, rfl⟩
  have HQ5 : Aside0 (QF Y b (!z) A3 k3 c3 A4 k4 c4 ∧ N2 Y A3 k3 c3 p A4 k4 c4 q ∧ Below w.heap.size w Y) := ⟨by
   subst hY
   have h1 := HQ.out.1.below HB4.out
   exact ⟨h1.put3, N2.put3 h1 HN4.out, below_put3 (HQ.out.2.2.trans (HB4.out.mono HQ.out.2.2.size)) HBB.out⟩⟩
  rw [show ((W4.setCell ⟨b, 0, none⟩ (.bool (!z))).setCell ⟨b, 1, none⟩ (.slice A3 k3 c3)).setCell ⟨b, 2, none⟩ (.slice A4 k4 c4) = Y from hY]
  clear hY q0 q1 q2 r0 r1 r2 r3 r4 r5
  clear HQ
  have HQ := HQ5
  clear HQ5
  have q0 := HQ.out.1.cell0
  have q1 := HQ.out.1.cell1
  have q2 := HQ.out.1.cell2
  go_upto_region 11 with (go_at_call 65; (with_reducible refine (HNR.out _ _ _ _ _ _ _ HQ.out.2.1).mono ?_); rintro e W6 ⟨rfl, hb6⟩; have HB6 := Aside0.mk hb6; clear hb6)
  have HX := Aside0.mk (And.intro (HQ.out.1.below HB6.out).cell0 (And.intro (HQ.out.1.below HB6.out).cell1 (HQ.out.1.below HB6.out).cell2))
  have HA : Aside0 (Below w.heap.size w W6 ∧ W6.heap.size ≤ W6.heap.size) := ⟨HQ.out.2.2.trans (HB6.out.mono HQ.out.2.2.size), Nat.le_refl _⟩
  have HN6 := Aside0.mk (HQ.out.2.1.below HB6.out)
  have hbl := (HQ.out.1.below HB6.out).lt
  clear q0 q1 q2
  rename_i Q' K hK
  have KP : Aside0 (∀ V, Below (W6.heap.size) W6 V → (fun V => V.cell? ⟨b, 0, none⟩ = some (.bool (!z)) ∧ V.cell? ⟨b, 1, none⟩ = some (.slice A3 k3 c3) ∧ V.cell? ⟨b, 2, none⟩ = some (.slice A4 k4 c4) ∧ Below (W6.heap.size) W6 V) V) := ⟨fun V hBB => ⟨keepB hBB (by omega) HX.out.1, keepB hBB (by omega) HX.out.2.1, keepB hBB (by omega) HX.out.2.2, hBB⟩⟩
  refine wq KP fun hHeld => ?_
  refine tp 0 ?_
  try simp only [PU]
  refine tp 1 ?_
  try simp only [PU]
  refine tp 2 ?_
  try simp only [PU]
  refine tp 3 ?_
  try simp only [PU]
  refine tc 4 fun K hK => ?_
  go_simp
  (go_at_call 64; (with_reducible refine (HEX.out _).mono ?_); rintro e wm ⟨A7, k7, c7, A8, k8, c8, rfl, hn, hbq⟩; have HN7 := Aside0.mk hn; have HN8 := Aside0.mk (HN6.out.below (hHeld.2.2.2.trans (hbq.mono hHeld.2.2.2.size))); clear hn)
  refine hK.out _ _ ?_ fun hHeld => ?_
  ·(first | exact KP.out _ (bKeep hbq hHeld.2.2.2 (by have := HA.out.2; omega)) | (refine KP.out _ ?_; repeat (first | exact hHeld.2.2.2 | refine Below.setCell ?_ (by first | (simp; done) | (simp; omega)) _)))
  clear hK K; try simp only [PU]
  refine tc 5 fun K hK => ?_
  go_simp
  (go_at_call 80; (with_reducible refine (HMI.out _ _ _ _ _ _ _ _ _ _ _ _ _ HN8.out HN7.out).mono ?_); rintro e wn ⟨A9, k9, c9, A10, k10, c10, rfl, hn, hbq⟩; have HN9 := Aside0.mk hn; clear hn)
  refine hK.out _ _ ?_ fun hHeld => ?_
  ·(first | exact KP.out _ (bKeep hbq hHeld.2.2.2 (by have := HA.out.2; omega)) | (refine KP.out _ ?_; repeat (first | exact hHeld.2.2.2 | refine Below.setCell ?_ (by first | (simp; done) | (simp; omega)) _)))
  clear hK K; try simp only [PU]
  refine tc 6 fun K hK => ?_
  go_simp
  (go_at_call 93; (with_reducible refine (HZE.out _ _ _ _ _ _ _ HN9.out).mono ?_); rintro e wo ⟨rfl, hbq⟩)
  refine hK.out _ _ ?_ fun hHeld => ?_
  ·(first | exact KP.out _ (bKeep hbq hHeld.2.2.2 (by have := HA.out.2; omega)) | (refine KP.out _ ?_; repeat (first | exact hHeld.2.2.2 | refine Below.setCell ?_ (by first | (simp; done) | (simp; omega)) _)))
  clear hK K; try simp only [PU]
  refine tp 7 ?_
  try simp only [PU]
  refine tp 8 ?_
  try simp only [PU]
  refine tp 9 ?_
  try simp only [PU]
  refine wpAnyH_done (by kernel_rfl) ?_ _
  refine hK _ _ ?_
  clear hK
  go_wp2
  go_ret3
  exact ⟨rfl, HA.out.1.trans (hHeld.2.2.2.mono HA.out.1.size)⟩
theorem literal_calls (s : ByteArray) (hs : s.size ≤ 10000) (w : World) (hE : EN w) :
 Calls Tryz.prog 27 #[.string s] w fun e w' => e = .returned (.tuple #[.float .f32 (liW s), .bool (liX s), .int .i64 (liE s)]) ∧ Below w.heap.size w w' := by
 by_cases h : fdR (bodyB s) = 0
 ·by_cases h3 : nrE (liN s) (liP s) (liQ s) = 0
  ·have e : liE s = 0 := by unfold liE; rw [if_pos h]; exact h3
   have ew : liW s = nrW (liN s) (liP s) (liQ s) := by unfold liW; rw [if_pos e]
   unfold liX
   rw [if_pos e, ew, e]
   exact literal_good hs h h3 w hE
  ·have e : liE s = nrE (liN s) (liP s) (liQ s) := by unfold liE; rw [if_pos h]
   unfold liW liX
   rw [e, if_neg h3, if_neg h3]
   exact literal_range hs h h3 w hE
 ·have e : liE s = fdR (bodyB s) := by unfold liE; rw [if_neg h]
  unfold liW liX
  rw [e, if_neg h, if_neg h]
  exact literal_bad hs h w hE
theorem qfirst_calls {w : World} {g n : Nat} (es : List Int) (hn : es.length = n) (hl : n ≤ 1000) (hc : ∀ j, j < n → w.cell? ⟨g, j, none⟩ = some (.int .i64 (es.getD j 0))) (c : Nat) :
 Calls Tryz.prog 108 #[.slice (some ⟨g, 0, none⟩) n c] w fun e w' => e = .returned (.int .i64 (firstI es)) ∧ w' = w := by
 have HC := Aside0.mk hc
 clear hc
 go_enter Tryz.func108, Tryz.ntmps108
 go_wp2_with fail
 go_loopw [7] (fun v7 W => ∃ i : Nat, v7 = .int .i64 (i : Int) ∧ i ≤ n ∧ W = w ∧ Aside0 (∀ e ∈ es.take i, e = 0)) (fun v7 _ => n - (intOf v7).toNat)
 case atStart => exact ⟨0, rfl, Nat.zero_le _, rfl, ⟨by simp⟩⟩
 case round =>
  obtain ⟨i, rfl, hi, rfl, hz⟩ := hrel
  by_cases hlt : i < n
  ·have hci := HC.out i hlt
   have hli : i < es.length := by omega
   obtain ⟨d, hd⟩ : ∃ d, es.getD i 0 = d := ⟨_, rfl⟩
   rw [hd] at hci
   have hdi : es[i] = d := by rw [← hd]; simp [List.getD_eq_getElem?_getD, hli]
   have hlt' : (i : Int) < (n : Int) := by omega
   have e1 : IntKind.i64.wrap ((i : Int) + 1) = ((i + 1 : Nat) : Int) := by rw [IntWalk.i64_in _ (by omega)]; omega
   have HD := Aside0.mk hdi
   clear hd hdi
   by_cases h0 : d = 0
   ·subst h0
    go_wp2
    go_roundw
    case rel =>
     refine ⟨i + 1, by first | rfl | go_num, hlt, by first | rfl | trivial, ⟨fun e he => ?_⟩⟩
     rw [List.take_succ_eq_append_getElem hli] at he
     rcases List.mem_append.1 he with he | he
     ·exact hz.out e he
     ·rw [List.mem_singleton.1 he]; exact HD.out
    case measure => simp [intOf]; omega
   ·have hb : (d != 0) = true := by simp [h0]
    go_wp2
    go_ret
    refine ⟨?_, rfl⟩
    rw [firstI_skip es i hz.out, List.drop_eq_getElem_cons hli, firstI, HD.out, if_neg h0]
    rfl
  ·obtain rfl : i = n := by omega
   go_wp2
   go_ret
   refine ⟨?_, rfl⟩
   rw [firstI_skip es i hz.out, List.drop_of_length_le (by omega)]
   rfl
theorem qfirst2_ret (x y z : Int) (hz : firstI [x, y] = z) (w : World) (b : Nat) (hb : b = w.heap.size) (t : TypeId) : Calls Tryz.prog 108 #[.slice (some ⟨b, 0, none⟩) 2 2] (w.alloc (.cells #[.int .i64 x, .int .i64 y] t)) fun e w' => e = .returned (.int .i64 z) ∧ w' = w.alloc (.cells #[.int .i64 x, .int .i64 y] t) := by
 subst hz hb
 refine qfirst_calls (n := 2) [x, y] rfl (by omega) (fun j hj => ?_) 2
 match j, hj with
 | 0, _ => simp
 | 1, _ => simp
theorem qText_rs {w : World} {s : Bool} {A1 A2 : Option Addr} {L1 c1 L2 c2 p q : Nat} (h : N2 w A1 L1 c1 p A2 L2 c2 q) (hp : Sz 40000 p) (hq : Sz 40000 q) (h0 : 0 < q) (hE : EN w) :
 Calls Tryz.prog 81 #[qV s A1 L1 c1 A2 L2 c2] w fun e w' => e = .returned (.tuple #[.string (rsS (sgI s p) q), .int .i64 (rsE (sgI s p) q)]) ∧ Below w.heap.size w w' := by
 have := qText_calls (s := s) h hp hq h0 hE
 rw [(fq_rs h0).1, (fq_rs h0).2] at this
 exact this
/-- A complex number by its two fractions. -/
structure CN where
 s1 : Bool
 p1 : Nat
 q1 : Nat
 s2 : Bool
 p2 : Nat
 q2 : Nat
structure CN.ok (k : Nat) (z : CN) : Prop where
 a1 : Sz k z.p1
 a2 : Sz k z.q1
 a3 : 0 < z.q1
 b1 : Sz k z.p2
 b2 : Sz k z.q2
 b3 : 0 < z.q2
theorem CN.ok.more {j k : Nat} {z : CN} (h : z.ok j) (hk : j ≤ k) : z.ok k := ⟨h.a1.more hk, h.a2.more hk, h.a3, h.b1.more hk, h.b2.more hk, h.b3⟩
/-- Where a complex number lies. -/
structure AD where
 A1 : Option Addr
 L1 : Nat
 c1 : Nat
 A2 : Option Addr
 L2 : Nat
 c2 : Nat
 A3 : Option Addr
 L3 : Nat
 c3 : Nat
 A4 : Option Addr
 L4 : Nat
 c4 : Nat
abbrev aV (z : CN) (a : AD) : Value := .agg #[.bool z.s1, .slice a.A1 a.L1 a.c1, .slice a.A2 a.L2 a.c2, .bool z.s2, .slice a.A3 a.L3 a.c3, .slice a.A4 a.L4 a.c4]
structure P2 (W : World) (a : AD) (z : CN) : Prop where
 n1 : N2 W a.A1 a.L1 a.c1 z.p1 a.A2 a.L2 a.c2 z.q1
 n2 : N2 W a.A3 a.L3 a.c3 z.p2 a.A4 a.L4 a.c4 z.q2
theorem P2.below {W X : World} {a : AD} {z : CN} (h : P2 W a z) (hb : Below W.heap.size W X) : P2 X a z := ⟨h.n1.below hb, h.n2.below hb⟩
def PX (w : World) (z : CN) (e : Ending) (w' : World) : Prop := ∃ a, e = .returned (aV z a) ∧ P2 w' a z ∧ Below w.heap.size w w'
/-- A variable that holds a complex number. -/
def PF (W : World) (b : Nat) (z : CN) (a : AD) : Prop := W.heap[b]? = some (.cells #[.bool z.s1, .slice a.A1 a.L1 a.c1, .slice a.A2 a.L2 a.c2, .bool z.s2, .slice a.A3 a.L3 a.c3, .slice a.A4 a.L4 a.c4] 148 (0, 0))
section
variable {W X : World} {b : Nat} {z : CN} {a : AD}
theorem PF.lt (h : PF W b z a) : b < W.heap.size := (Array.getElem?_eq_some_iff.1 h).1
theorem PF.below (h : PF W b z a) (hb : Below W.heap.size W X) : PF X b z a := (hb.block b h.lt).trans h
theorem PF.cells (h : PF W b z a) : W.cell? ⟨b, 0, none⟩ = some (.bool z.s1) ∧ W.cell? ⟨b, 1, none⟩ = some (.slice a.A1 a.L1 a.c1) ∧ W.cell? ⟨b, 2, none⟩ = some (.slice a.A2 a.L2 a.c2) ∧ W.cell? ⟨b, 3, none⟩ = some (.bool z.s2) ∧ W.cell? ⟨b, 4, none⟩ = some (.slice a.A3 a.L3 a.c3) ∧ W.cell? ⟨b, 5, none⟩ = some (.slice a.A4 a.L4 a.c4) :=
 ⟨by rw [Lib.cell_of_heap h]; rfl, by rw [Lib.cell_of_heap h]; rfl, by rw [Lib.cell_of_heap h]; rfl, by rw [Lib.cell_of_heap h]; rfl, by rw [Lib.cell_of_heap h]; rfl, by rw [Lib.cell_of_heap h]; rfl⟩
theorem PF.fr (h : PF W b z a) (o : Nat) : W.frozen? ⟨b, o, none⟩ = false := Lib.frozen_of_heap h o
end
/-- A variable of type Exact. -/
def EF (W : World) (b : Nat) (x y : ByteArray) : Prop := W.heap[b]? = some (.cells #[.string x, .string y] 57 (0, 0))
section
variable {W X : World} {b : Nat} {x y : ByteArray}
theorem EF.lt (h : EF W b x y) : b < W.heap.size := (Array.getElem?_eq_some_iff.1 h).1
theorem EF.below (h : EF W b x y) (hb : Below W.heap.size W X) : EF X b x y := (hb.block b h.lt).trans h
theorem EF.cell0 (h : EF W b x y) : W.cell? ⟨b, 0, none⟩ = some (.string x) := by rw [Lib.cell_of_heap h]; rfl
theorem EF.cell1 (h : EF W b x y) : W.cell? ⟨b, 1, none⟩ = some (.string y) := by rw [Lib.cell_of_heap h]; rfl
theorem EF.fr (h : EF W b x y) (o : Nat) : W.frozen? ⟨b, o, none⟩ = false := Lib.frozen_of_heap h o
theorem EF.s0 (h : EF W b x y) (u : ByteArray) : EF (W.setCell ⟨b, 0, none⟩ (.string u)) b u y := by
 unfold EF at *; simp [World.setCell, Array.getElem?_modify, h]
theorem EF.s1 (h : EF W b x y) (u : ByteArray) : EF (W.setCell ⟨b, 1, none⟩ (.string u)) b x u := by
 unfold EF at *; simp [World.setCell, Array.getElem?_modify, h]
theorem EF.put (h : EF W b x y) (u v : ByteArray) : EF ((W.setCell ⟨b, 0, none⟩ (.string u)).setCell ⟨b, 1, none⟩ (.string v)) b u v := (h.s0 u).s1 v
end
/-- A result of two values whose first lies in a variable of type Exact. -/
theorem e_ret2 {fn : Func} {i j b : Nat} {Z : World} {T : Array Value} {R : Ending → World → Prop} {x y : ByteArray} {n : Int} (hres : fn.results = #[.cell i 57, .tmp j]) (hT : T[i]?.getD undef = .pointer (some ⟨b, 0, none⟩)) (hj : T[j]?.getD undef = .int .i64 n)
 (o : EF Z b x y) (hR : R (.returned (.tuple #[.agg #[.string x, .string y], .int .i64 n])) Z) : bodyPost Tryz.prog fn R Exit.ret { tmps := T, defers := [] } Z := by
 have k0 := o.cell0
 have k1 := o.cell1
 exact bodyPost_ret (v := .tuple #[.agg #[.string x, .string y], .int .i64 n]) (by simp [results, hres, go_sem, hT, hj, k0, k1]) rfl hR
/-- What exact answers. -/
def exR (z : CN) : Int := firstI [rsE (sgI z.s1 z.p1) z.q1, rsE (sgI z.s2 z.p2) z.q2]
def exA (z : CN) : ByteArray := if exR z = 0 then rsS (sgI z.s1 z.p1) z.q1 else ⟨#[]⟩
def exB (z : CN) : ByteArray := if exR z = 0 then rsS (sgI z.s2 z.p2) z.q2 else ⟨#[]⟩
abbrev EO (w : World) (z : CN) (e : Ending) (w' : World) : Prop := e = .returned (.tuple #[.agg #[.string (exA z), .string (exB z)], .int .i64 (exR z)]) ∧ Below w.heap.size w w'
/-- exact's own variables. -/
structure EV (w : World) (z : CN) (a : AD) (W : World) : Prop where
 box : PF W w.heap.size z a
 res : EF W (w.heap.size + 1) ⟨#[]⟩ ⟨#[]⟩
 n : P2 W a z
 bl : Below w.heap.size w W
theorem EV.step {w W X : World} {z : CN} {a : AD} (h : EV w z a W) (hb : Below W.heap.size W X) : EV w z a X := ⟨h.box.below hb, h.res.below hb, h.n.below hb, h.bl.trans (hb.mono h.bl.size)⟩
theorem ev_start {w : World} {z : CN} {a : AD} (h : P2 w a z) : EV w z a ((w.alloc (.cells #[.bool z.s1, .slice a.A1 a.L1 a.c1, .slice a.A2 a.L2 a.c2, .bool z.s2, .slice a.A3 a.L3 a.c3, .slice a.A4 a.L4 a.c4] 148)).alloc (.cells #[.string ⟨#[]⟩, .string ⟨#[]⟩] 57)) := by
 have b1 := below_alloc (Below.refl w.heap.size w) (.cells #[.bool z.s1, .slice a.A1 a.L1 a.c1, .slice a.A2 a.L2 a.c2, .bool z.s2, .slice a.A3 a.L3 a.c3, .slice a.A4 a.L4 a.c4] 148)
 have b2 := below_alloc (Below.refl _ (w.alloc (.cells #[.bool z.s1, .slice a.A1 a.L1 a.c1, .slice a.A2 a.L2 a.c2, .bool z.s2, .slice a.A3 a.L3 a.c3, .slice a.A4 a.L4 a.c4] 148))) (.cells #[.string ⟨#[]⟩, .string ⟨#[]⟩] 57)
 have h1 : PF (w.alloc (.cells #[.bool z.s1, .slice a.A1 a.L1 a.c1, .slice a.A2 a.L2 a.c2, .bool z.s2, .slice a.A3 a.L3 a.c3, .slice a.A4 a.L4 a.c4] 148)) w.heap.size z a := heap_alloc_new w _
 refine ⟨h1.below b2, ?_, (h.below b1).below b2, b1.trans (b2.mono (by simp))⟩
 have := heap_alloc_new (w.alloc (.cells #[.bool z.s1, .slice a.A1 a.L1 a.c1, .slice a.A2 a.L2 a.c2, .bool z.s2, .slice a.A3 a.L3 a.c3, .slice a.A4 a.L4 a.c4] 148)) (.cells #[.string ⟨#[]⟩, .string ⟨#[]⟩] 57)
 unfold EF
 simpa using this
theorem ev_end {w W : World} {z : CN} {a : AD} (h : EV w z a W) (x y : ByteArray) : EF ((W.setCell ⟨w.heap.size + 1, 0, none⟩ (.string x)).setCell ⟨w.heap.size + 1, 1, none⟩ (.string y)) (w.heap.size + 1) x y ∧ Below w.heap.size w ((W.setCell ⟨w.heap.size + 1, 0, none⟩ (.string x)).setCell ⟨w.heap.size + 1, 1, none⟩ (.string y)) :=
 ⟨h.res.put x y, (h.bl.setCell (p := ⟨w.heap.size + 1, 0, none⟩) (Nat.le_succ _) _).setCell (p := ⟨w.heap.size + 1, 1, none⟩) (Nat.le_succ _) _⟩
theorem exact_calls {w : World} {z : CN} {a : AD} (h : P2 w a z) (hz : z.ok 40000) (hE : EN w) : Calls Tryz.prog 105 #[aV z a] w fun e w' => EO w z e w' := by
 have HT1 : Aside0 (∀ W, Below w.heap.size w W → N2 W a.A1 a.L1 a.c1 z.p1 a.A2 a.L2 a.c2 z.q1 → Calls Tryz.prog 81 #[.agg #[.bool z.s1, .slice a.A1 a.L1 a.c1, .slice a.A2 a.L2 a.c2]] W fun e w' => e = .returned (.tuple #[.string (rsS (sgI z.s1 z.p1) z.q1), .int .i64 (rsE (sgI z.s1 z.p1) z.q1)]) ∧ Below W.heap.size W w') := ⟨fun W hb hn => qText_rs hn hz.a1 hz.a2 hz.a3 (hE.below hb)⟩
 have HT2 : Aside0 (∀ W, Below w.heap.size w W → N2 W a.A3 a.L3 a.c3 z.p2 a.A4 a.L4 a.c4 z.q2 → Calls Tryz.prog 81 #[.agg #[.bool z.s2, .slice a.A3 a.L3 a.c3, .slice a.A4 a.L4 a.c4]] W fun e w' => e = .returned (.tuple #[.string (rsS (sgI z.s2 z.p2) z.q2), .int .i64 (rsE (sgI z.s2 z.p2) z.q2)]) ∧ Below W.heap.size W w') := ⟨fun W hb hn => qText_rs hn hz.b1 hz.b2 hz.b3 (hE.below hb)⟩
 have hF : firstI [rsE (sgI z.s1 z.p1) z.q1, rsE (sgI z.s2 z.p2) z.q2] = exR z := rfl
 clear hz hE
 unfold EO exA exB
 generalize rsS (sgI z.s1 z.p1) z.q1 = t1 at *
 generalize rsS (sgI z.s2 z.p2) z.q2 = t2 at *
 generalize rsE (sgI z.s1 z.p1) z.q1 = e1 at *
 generalize rsE (sgI z.s2 z.p2) z.q2 = e2 at *
 by_cases hx : exR z = 0
 ·rw [if_pos hx, if_pos hx, hx]
  rw [hx] at hF
  have HF := Aside0.mk hF
  clear hF hx
  go_enter Tryz.func105, Tryz.ntmps105
  go_upto_region 1 with fail
  obtain ⟨W0, hW0⟩ : ∃ W0, ((w.alloc (.cells #[.bool z.s1, .slice a.A1 a.L1 a.c1, .slice a.A2 a.L2 a.c2, .bool z.s2, .slice a.A3 a.L3 a.c3, .slice a.A4 a.L4 a.c4] 148)).alloc (.cells #[.string ⟨#[]⟩, .string ⟨#[]⟩] 57)) = W0 := ⟨_, rfl⟩
  have HO := Aside0.mk (ev_start h)
  rw [hW0] at HO ⊢
  clear hW0 h
  obtain ⟨q0, q1, q2, q3, q4, q5⟩ := HO.out.box.cells
  go_upto_region 4 with (first | (go_at_call 81; (with_reducible refine (HT1.out _ HO.out.bl HO.out.n.n1).mono ?_); rintro e W1 ⟨rfl, hbx⟩; have HO2 := Aside0.mk (HO.out.step hbx); clear HO HT1; have HO := HO2; clear HO2 hbx; obtain ⟨q0, q1, q2, q3, q4, q5⟩ := HO.out.box.cells) | (go_at_call 81; (with_reducible refine (HT2.out _ HO.out.bl HO.out.n.n2).mono ?_); rintro e W2 ⟨rfl, hbx⟩; have HO2 := Aside0.mk (HO.out.step hbx); clear HO; have HO := HO2; clear HO2 hbx) | (go_at_call 108; (with_reducible refine (qfirst2_ret _ _ _ HF.out _ _ (by simp) _).mono ?_); rintro e wx ⟨rfl, hwx⟩; rw [hwx]; clear hwx wx))
  have HO3 := Aside0.mk (HO.out.step (below_alloc (Below.refl _ _) (.cells #[.int .i64 e1, .int .i64 e2] 26)))
  obtain ⟨W3, hW3⟩ : ∃ W3, W2.alloc (.cells #[.int .i64 e1, .int .i64 e2] 26) = W3 := ⟨_, rfl⟩
  rw [hW3] at HO3 ⊢
  clear hW3 HO
  have r0 := HO3.out.res.cell0
  have r1 := HO3.out.res.cell1
  have r2 := HO3.out.res.fr 0
  have r3 := HO3.out.res.fr 1
  go_wp2
  exact e_ret2 Tryz.results105 rfl rfl (ev_end HO3.out _ _).1 ⟨rfl, (ev_end HO3.out _ _).2⟩
 ·rw [if_neg hx, if_neg hx]
  have hne : (exR z != 0) = true := by simp [hx]
  generalize exR z = k at *
  have HF := Aside0.mk hF
  clear hF hx
  go_enter Tryz.func105, Tryz.ntmps105
  go_upto_region 1 with fail
  obtain ⟨W0, hW0⟩ : ∃ W0, ((w.alloc (.cells #[.bool z.s1, .slice a.A1 a.L1 a.c1, .slice a.A2 a.L2 a.c2, .bool z.s2, .slice a.A3 a.L3 a.c3, .slice a.A4 a.L4 a.c4] 148)).alloc (.cells #[.string ⟨#[]⟩, .string ⟨#[]⟩] 57)) = W0 := ⟨_, rfl⟩
  have HO := Aside0.mk (ev_start h)
  rw [hW0] at HO ⊢
  clear hW0 h
  obtain ⟨q0, q1, q2, q3, q4, q5⟩ := HO.out.box.cells
  go_upto_region 4 with (first | (go_at_call 81; (with_reducible refine (HT1.out _ HO.out.bl HO.out.n.n1).mono ?_); rintro e W1 ⟨rfl, hbx⟩; have HO2 := Aside0.mk (HO.out.step hbx); clear HO HT1; have HO := HO2; clear HO2 hbx; obtain ⟨q0, q1, q2, q3, q4, q5⟩ := HO.out.box.cells) | (go_at_call 81; (with_reducible refine (HT2.out _ HO.out.bl HO.out.n.n2).mono ?_); rintro e W2 ⟨rfl, hbx⟩; have HO2 := Aside0.mk (HO.out.step hbx); clear HO; have HO := HO2; clear HO2 hbx) | (go_at_call 108; (with_reducible refine (qfirst2_ret _ _ _ HF.out _ _ (by simp) _).mono ?_); rintro e wx ⟨rfl, hwx⟩; rw [hwx]; clear hwx wx))
  have HO3 := Aside0.mk (HO.out.step (below_alloc (Below.refl _ _) (.cells #[.int .i64 e1, .int .i64 e2] 26)))
  obtain ⟨W3, hW3⟩ : ∃ W3, W2.alloc (.cells #[.int .i64 e1, .int .i64 e2] 26) = W3 := ⟨_, rfl⟩
  rw [hW3] at HO3 ⊢
  clear hW3 HO
  have r0 := HO3.out.res.cell0
  have r1 := HO3.out.res.cell1
  have r2 := HO3.out.res.fr 0
  have r3 := HO3.out.res.fr 1
  go_wp2
  exact e_ret2 Tryz.results105 rfl rfl (ev_end HO3.out _ _).1 ⟨rfl, (ev_end HO3.out _ _).2⟩
theorem cell_set {V : World} {b c i o : Nat} {v : Value} (hne : b ≠ c) : (V.setCell ⟨c, o, none⟩ v).cell? ⟨b, i, none⟩ = V.cell? ⟨b, i, none⟩ :=
 World.cell?_setCell_other _ _ _ _ (by intro e; injection e with e _ _; exact hne (by first | exact e | exact e.symm))
/-- The squared absolute value. -/
def nmS (z : CN) : Bool := plS (!(z.s1 == z.s1)) (z.p1 * z.p1 * (z.q2 * z.q2)) (!(z.s2 == z.s2)) (z.p2 * z.p2 * (z.q1 * z.q1))
def nmP (z : CN) : Nat := plN (!(z.s1 == z.s1)) (z.p1 * z.p1 * (z.q2 * z.q2)) (!(z.s2 == z.s2)) (z.p2 * z.p2 * (z.q1 * z.q1))
def nmQ (z : CN) : Nat := z.q1 * z.q1 * (z.q2 * z.q2)
theorem nm_sz {z : CN} {k : Nat} (h : z.ok k) (j : Nat) (hj : 4 * k + 1 ≤ j) : Sz j (nmP z) ∧ Sz j (nmQ z) ∧ 0 < nmQ z := by
 have m1 : Sz (2 * k) (z.p1 * z.p1) := h.a1.mul h.a1
 have m2 : Sz (2 * k) (z.q1 * z.q1) := h.a2.mul h.a2
 have m3 : Sz (2 * k) (z.p2 * z.p2) := h.b1.mul h.b1
 have m4 : Sz (2 * k) (z.q2 * z.q2) := h.b2.mul h.b2
 have u1 : Sz (4 * k) (z.p1 * z.p1 * (z.q2 * z.q2)) := m1.mul m4
 have u2 : Sz (4 * k) (z.p2 * z.p2 * (z.q1 * z.q1)) := m3.mul m2
 have u3 : Sz (4 * k) (z.q1 * z.q1 * (z.q2 * z.q2)) := m2.mul m4
 exact ⟨(plN_sz u1 u2).more hj, u3.more (by omega), Nat.mul_pos (Nat.mul_pos h.a3 h.a3) (Nat.mul_pos h.b3 h.b3)⟩
/-- Own variables of norm. -/
structure NV (w : World) (z : CN) (a : AD) (W : World) : Prop where
 box : PF W w.heap.size z a
 res : QF W (w.heap.size + 1) false none 0 0 none 0 0
 bl : Below w.heap.size w W
theorem nv_start {w : World} {z : CN} {a : AD} : NV w z a ((w.alloc (.cells #[.bool z.s1, .slice a.A1 a.L1 a.c1, .slice a.A2 a.L2 a.c2, .bool z.s2, .slice a.A3 a.L3 a.c3, .slice a.A4 a.L4 a.c4] 148)).alloc (.cells #[.bool false, .slice none 0 0, .slice none 0 0] 102)) := by
 have b1 := below_alloc (Below.refl w.heap.size w) (.cells #[.bool z.s1, .slice a.A1 a.L1 a.c1, .slice a.A2 a.L2 a.c2, .bool z.s2, .slice a.A3 a.L3 a.c3, .slice a.A4 a.L4 a.c4] 148)
 have b2 := below_alloc (Below.refl _ (w.alloc (.cells #[.bool z.s1, .slice a.A1 a.L1 a.c1, .slice a.A2 a.L2 a.c2, .bool z.s2, .slice a.A3 a.L3 a.c3, .slice a.A4 a.L4 a.c4] 148))) (.cells #[.bool false, .slice none 0 0, .slice none 0 0] 102)
 have h1 : PF (w.alloc (.cells #[.bool z.s1, .slice a.A1 a.L1 a.c1, .slice a.A2 a.L2 a.c2, .bool z.s2, .slice a.A3 a.L3 a.c3, .slice a.A4 a.L4 a.c4] 148)) w.heap.size z a := heap_alloc_new w _
 exact ⟨h1.below b2, QF.new _ _ (by simp) _ _ _ _ _ _ _, b1.trans (b2.mono (by simp))⟩
theorem norm_calls {w : World} {z : CN} {a : AD} (h : P2 w a z) (hz : z.ok 20000) : Calls Tryz.prog 114 #[aV z a] w fun e w' => QX w (nmS z) (nmP z) (nmQ z) e w' := by
 have HP := Aside0.mk h
 have g1 := hz.more (show 20000 ≤ 100000 by omega)
 have HT1 : Aside0 (∀ W, Below w.heap.size w W → Calls Tryz.prog 129 #[.agg #[.bool z.s1, .slice a.A1 a.L1 a.c1, .slice a.A2 a.L2 a.c2], .agg #[.bool z.s1, .slice a.A1 a.L1 a.c1, .slice a.A2 a.L2 a.c2]] W fun e w' => QX W (!(z.s1 == z.s1)) (z.p1 * z.p1) (z.q1 * z.q1) e w') := ⟨fun W hb => qTimes_calls (h.below hb).n1 (h.below hb).n1 g1.a1 g1.a2 g1.a1 g1.a2⟩
 have HT2 : Aside0 (∀ W, Below w.heap.size w W → Calls Tryz.prog 129 #[.agg #[.bool z.s2, .slice a.A3 a.L3 a.c3, .slice a.A4 a.L4 a.c4], .agg #[.bool z.s2, .slice a.A3 a.L3 a.c3, .slice a.A4 a.L4 a.c4]] W fun e w' => QX W (!(z.s2 == z.s2)) (z.p2 * z.p2) (z.q2 * z.q2) e w') := ⟨fun W hb => qTimes_calls (h.below hb).n2 (h.below hb).n2 g1.b1 g1.b2 g1.b1 g1.b2⟩
 have m1 : Sz 40000 (z.p1 * z.p1) := hz.a1.mul hz.a1
 have m2 : Sz 40000 (z.q1 * z.q1) := hz.a2.mul hz.a2
 have m3 : Sz 40000 (z.p2 * z.p2) := hz.b1.mul hz.b1
 have m4 : Sz 40000 (z.q2 * z.q2) := hz.b2.mul hz.b2
 have HPL : Aside0 (∀ W A1 L1 c1 A2 L2 c2 A3 L3 c3 A4 L4 c4, N2 W A1 L1 c1 (z.p1 * z.p1) A2 L2 c2 (z.q1 * z.q1) → N2 W A3 L3 c3 (z.p2 * z.p2) A4 L4 c4 (z.q2 * z.q2) → Calls Tryz.prog 118 #[qV (!(z.s1 == z.s1)) A1 L1 c1 A2 L2 c2, qV (!(z.s2 == z.s2)) A3 L3 c3 A4 L4 c4] W fun e w' => QX W (nmS z) (nmP z) (nmQ z) e w') :=
  ⟨fun W A1 L1 c1 A2 L2 c2 A3 L3 c3 A4 L4 c4 h1 h2 => qPlus_calls h1 h2 (m1.more (by omega)) (m2.more (by omega)) (m3.more (by omega)) (m4.more (by omega))⟩
 have HNE : Aside0 (w.heap.size ≠ w.heap.size + 1) := ⟨by omega⟩
 clear g1 m1 m2 m3 m4 hz h
 unfold QX qV at *
 generalize nmS z = rs at *
 generalize nmP z = rp at *
 generalize nmQ z = rq at *
 generalize z.p1 * z.p1 = t1 at *
 generalize z.q1 * z.q1 = t2 at *
 generalize z.p2 * z.p2 = t3 at *
 generalize z.q2 * z.q2 = t4 at *
 generalize (!(z.s1 == z.s1)) = ts1 at *
 generalize (!(z.s2 == z.s2)) = ts2 at *
 go_enter Tryz.func114, Tryz.ntmps114
 go_upto_region 1 with fail
 obtain ⟨W0, hW0⟩ : ∃ W0, ((w.alloc (.cells #[.bool z.s1, .slice a.A1 a.L1 a.c1, .slice a.A2 a.L2 a.c2, .bool z.s2, .slice a.A3 a.L3 a.c3, .slice a.A4 a.L4 a.c4] 148)).alloc (.cells #[.bool false, .slice none 0 0, .slice none 0 0] 102)) = W0 := ⟨_, rfl⟩
 have HO := Aside0.mk (nv_start (w := w) (z := z) (a := a))
 rw [hW0] at HO ⊢
 clear hW0
 have KP : Aside0 (∀ V, Below W0.heap.size W0 V → (fun V => V.cell? ⟨w.heap.size, 0, none⟩ = some (.bool z.s1) ∧ V.cell? ⟨w.heap.size, 1, none⟩ = some (.slice a.A1 a.L1 a.c1) ∧ V.cell? ⟨w.heap.size, 2, none⟩ = some (.slice a.A2 a.L2 a.c2) ∧ V.cell? ⟨w.heap.size, 3, none⟩ = some (.bool z.s2) ∧ V.cell? ⟨w.heap.size, 4, none⟩ = some (.slice a.A3 a.L3 a.c3) ∧ V.cell? ⟨w.heap.size, 5, none⟩ = some (.slice a.A4 a.L4 a.c4)) V) := ⟨fun V hb => (HO.out.box.below hb).cells⟩
 rename_i Q' K hK
 refine wq KP fun hHeld => ?_
 refine tp 0 ?_
 try simp only [PU]
 refine tp 1 ?_
 try simp only [PU]
 refine tp 2 ?_
 try simp only [PU]
 refine tp 3 ?_
 try simp only [PU]
 refine tp 5 ?_
 try simp only [PU]
 refine tp 6 ?_
 try simp only [PU]
 refine tp 7 ?_
 try simp only [PU]
 refine tp 8 ?_
 try simp only [PU]
 refine tc 4 fun K hK => ?_
 go_simp
 (go_at_call 129; (with_reducible refine (HT1.out _ HO.out.bl.drew).mono ?_); rintro e V1 ⟨A5, k5, c5, A6, k6, c6, rfl, hn, hbq⟩; have H1 := Aside0.mk hn; clear hn; have HBN : Aside0 (Below W0.heap.size W0 V1) := ⟨by first | exact HBC.out.trans (hbq.mono HBC.out.size) | exact (below_drew1 (Below.refl _ _)).trans hbq⟩; (try clear HBC); have HBC := HBN; clear HBN)
 refine hK.out _ _ ?_ fun hHeld => ?_
 ·(first | exact KP.out _ HBC.out | (simp only [cell_set HNE.out]; exact hHeld))
 clear hK K; try simp only [PU]
 refine tc 9 fun K hK => ?_
 go_simp
 (go_at_call 129; (with_reducible refine (HT2.out _ (HO.out.bl.trans (HBC.out.mono HO.out.bl.size))).mono ?_); rintro e V2 ⟨A7, k7, c7, A8, k8, c8, rfl, hn, hbq⟩; have H2 := Aside0.mk hn; have H3 := Aside0.mk (H1.out.below hbq); clear hn; have HBN : Aside0 (Below W0.heap.size W0 V2) := ⟨by first | exact HBC.out.trans (hbq.mono HBC.out.size) | exact (below_drew1 (Below.refl _ _)).trans hbq⟩; (try clear HBC); have HBC := HBN; clear HBN)
 refine hK.out _ _ ?_ fun hHeld => ?_
 ·(first | exact KP.out _ HBC.out | (simp only [cell_set HNE.out]; exact hHeld))
 clear hK K; try simp only [PU]
 refine tc 10 fun K hK => ?_
 go_simp
 (go_at_call 118; (with_reducible refine (HPL.out _ _ _ _ _ _ _ _ _ _ _ _ _ H3.out H2.out).mono ?_); rintro e V3 ⟨A9, k9, c9, B1, d1, e1, rfl, hn, hbq⟩; have H4 := Aside0.mk hn; clear hn; have HBN : Aside0 (Below W0.heap.size W0 V3) := ⟨by first | exact HBC.out.trans (hbq.mono HBC.out.size) | exact (below_drew1 (Below.refl _ _)).trans hbq⟩; (try clear HBC); have HBC := HBN; clear HBN; have hr := HO.out.res.below HBC.out; have r0 := hr.cell0; have r1 := hr.cell1; have r2 := hr.cell2; have r3 := hr.fr 0; have r4 := hr.fr 1; have r5 := hr.fr 2; clear hr)
 refine hK.out _ _ ?_ fun hHeld => ?_
 ·(first | exact KP.out _ HBC.out | (simp only [cell_set HNE.out]; exact hHeld))
 clear hK K; try simp only [PU]
 refine tc 11 fun K hK => ?_
 go_simp
 refine hK.out _ _ ?_ fun hHeld => ?_
 ·(first | exact KP.out _ HBC.out | (simp only [cell_set HNE.out]; exact hHeld))
 clear hK K; try simp only [PU]
 refine wpAnyH_done (by kernel_rfl) ?_ _
 refine hK _ _ ?_
 clear hK
 go_wp2
 have hr := HO.out.res.below HBC.out
 exact q_ret Tryz.results114 rfl hr.put3 ⟨_, _, _, _, _, _, rfl, N2.put3 hr H4.out, below_put3 (B := w.heap.size) (HO.out.bl.trans (HBC.out.mono HO.out.bl.size)) (Nat.le_succ _)⟩
def zC : CN := ⟨false, 0, 0, false, 0, 0⟩
def zA : AD := ⟨none, 0, 0, none, 0, 0, none, 0, 0, none, 0, 0⟩
section
variable {W : World} {b : Nat} {z y : CN} {a c : AD}
theorem PF.s0 (h : PF W b z a) (g : Bool) : PF (W.setCell ⟨b, 0, none⟩ (.bool g)) b { z with s1 := g } a := by
 unfold PF at *; simp [World.setCell, Array.getElem?_modify, h]
theorem PF.s1 (h : PF W b z a) (A : Option Addr) (L k : Nat) : PF (W.setCell ⟨b, 1, none⟩ (.slice A L k)) b z { a with A1 := A, L1 := L, c1 := k } := by
 unfold PF at *; simp [World.setCell, Array.getElem?_modify, h]
theorem PF.s2 (h : PF W b z a) (A : Option Addr) (L k : Nat) : PF (W.setCell ⟨b, 2, none⟩ (.slice A L k)) b z { a with A2 := A, L2 := L, c2 := k } := by
 unfold PF at *; simp [World.setCell, Array.getElem?_modify, h]
theorem PF.s3 (h : PF W b z a) (g : Bool) : PF (W.setCell ⟨b, 3, none⟩ (.bool g)) b { z with s2 := g } a := by
 unfold PF at *; simp [World.setCell, Array.getElem?_modify, h]
theorem PF.s4 (h : PF W b z a) (A : Option Addr) (L k : Nat) : PF (W.setCell ⟨b, 4, none⟩ (.slice A L k)) b z { a with A3 := A, L3 := L, c3 := k } := by
 unfold PF at *; simp [World.setCell, Array.getElem?_modify, h]
theorem PF.s5 (h : PF W b z a) (A : Option Addr) (L k : Nat) : PF (W.setCell ⟨b, 5, none⟩ (.slice A L k)) b z { a with A4 := A, L4 := L, c4 := k } := by
 unfold PF at *; simp [World.setCell, Array.getElem?_modify, h]
theorem PF.nn (h : PF W b z a) {A : Option Addr} {L k n : Nat} (hm : NN W A L k n) (o : Nat) (u : Value) : NN (W.setCell ⟨b, o, none⟩ u) A L k n :=
 hm.setRow (fun b' hA h0 e => by
  obtain ⟨b2, hA2, _, hc⟩ := hm.addr h0
  rw [hA] at hA2
  injection hA2 with e2
  injection e2 with e2
  subst e2
  have := hc 0 h0
  rw [e, h.cells.1] at this
  cases this) o u
/-- Six stores into a variable of type pair. -/
abbrev put6 (W : World) (b : Nat) (g : Bool) (B1 : Option Addr) (K1 d1 : Nat) (B2 : Option Addr) (K2 d2 : Nat) (g2 : Bool) (B3 : Option Addr) (K3 d3 : Nat) (B4 : Option Addr) (K4 d4 : Nat) : World := (((((W.setCell ⟨b, 0, none⟩ (.bool g)).setCell ⟨b, 1, none⟩ (.slice B1 K1 d1)).setCell ⟨b, 2, none⟩ (.slice B2 K2 d2)).setCell ⟨b, 3, none⟩ (.bool g2)).setCell ⟨b, 4, none⟩ (.slice B3 K3 d3)).setCell ⟨b, 5, none⟩ (.slice B4 K4 d4)
variable {g : Bool} {B1 : Option Addr} {K1 d1 : Nat} {B2 : Option Addr} {K2 d2 : Nat} {g2 : Bool} {B3 : Option Addr} {K3 d3 : Nat} {B4 : Option Addr} {K4 d4 : Nat}
theorem PF.put6 (h : PF W b z a) (p q p2 q2 : Nat) : PF (put6 W b g B1 K1 d1 B2 K2 d2 g2 B3 K3 d3 B4 K4 d4) b ⟨g, p, q, g2, p2, q2⟩ ⟨B1, K1, d1, B2, K2, d2, B3, K3, d3, B4, K4, d4⟩ := (((((h.s0 g).s1 B1 K1 d1).s2 B2 K2 d2).s3 g2).s4 B3 K3 d3).s5 B4 K4 d4
theorem PF.nn6 (h : PF W b z a) {A : Option Addr} {L k n : Nat} (hm : NN W A L k n) : NN (Nm.put6 W b g B1 K1 d1 B2 K2 d2 g2 B3 K3 d3 B4 K4 d4) A L k n :=
 (((((h.s0 g).s1 B1 K1 d1).s2 B2 K2 d2).s3 g2).s4 B3 K3 d3).nn (((((h.s0 g).s1 B1 K1 d1).s2 B2 K2 d2).s3 g2).nn ((((h.s0 g).s1 B1 K1 d1).s2 B2 K2 d2).nn (((h.s0 g).s1 B1 K1 d1).nn ((h.s0 g).nn (h.nn hm 0 _) 1 _) 2 _) 3 _) 4 _) 5 _
theorem PF.p6 (h : PF W b z a) (hm : P2 W c y) : P2 (Nm.put6 W b g B1 K1 d1 B2 K2 d2 g2 B3 K3 d3 B4 K4 d4) c y := ⟨⟨h.nn6 hm.n1.m1, h.nn6 hm.n1.m2⟩, ⟨h.nn6 hm.n2.m1, h.nn6 hm.n2.m2⟩⟩
theorem below_put6 {w : World} {B : Nat} (h : Below B w W) (hb : B ≤ b) : Below B w (Nm.put6 W b g B1 K1 d1 B2 K2 d2 g2 B3 K3 d3 B4 K4 d4) :=
 (((((h.setCell (p := ⟨b, 0, none⟩) hb _).setCell (p := ⟨b, 1, none⟩) hb _).setCell (p := ⟨b, 2, none⟩) hb _).setCell (p := ⟨b, 3, none⟩) hb _).setCell (p := ⟨b, 4, none⟩) hb _).setCell (p := ⟨b, 5, none⟩) hb _
end
theorem p_ret1 {fn : Func} {i b : Nat} {Z : World} {T : Array Value} {R : Ending → World → Prop} {z : CN} {a : AD} (hres : fn.results = #[.cell i 148]) (hT : T[i]?.getD undef = .pointer (some ⟨b, 0, none⟩))
 (o : PF Z b z a) (hR : R (.returned (aV z a)) Z) : bodyPost Tryz.prog fn R Exit.ret { tmps := T, defers := [] } Z := by
 obtain ⟨k0, k1, k2, k3, k4, k5⟩ := o.cells
 exact bodyPost_ret (v := aV z a) (by simp [results, hres, go_sem, hT, k0, k1, k2, k3, k4, k5]) rfl hR
theorem p_ret2 {fn : Func} {i j b : Nat} {Z : World} {T : Array Value} {R : Ending → World → Prop} {z : CN} {a : AD} {n : Int} (hres : fn.results = #[.cell i 148, .tmp j]) (hT : T[i]?.getD undef = .pointer (some ⟨b, 0, none⟩)) (hj : T[j]?.getD undef = .int .i64 n)
 (o : PF Z b z a) (hR : R (.returned (.tuple #[aV z a, .int .i64 n])) Z) : bodyPost Tryz.prog fn R Exit.ret { tmps := T, defers := [] } Z := by
 obtain ⟨k0, k1, k2, k3, k4, k5⟩ := o.cells
 exact bodyPost_ret (v := .tuple #[aV z a, .int .i64 n]) (by simp [results, hres, go_sem, hT, hj, k0, k1, k2, k3, k4, k5]) rfl hR
/-- The product. -/
def mulC (z y : CN) : CN := {
 s1 := plS (!(z.s1 == y.s1)) (z.p1 * y.p1 * (z.q2 * y.q2)) (!(!(z.s2 == y.s2))) (z.p2 * y.p2 * (z.q1 * y.q1))
 p1 := plN (!(z.s1 == y.s1)) (z.p1 * y.p1 * (z.q2 * y.q2)) (!(!(z.s2 == y.s2))) (z.p2 * y.p2 * (z.q1 * y.q1))
 q1 := z.q1 * y.q1 * (z.q2 * y.q2)
 s2 := plS (!(z.s1 == y.s2)) (z.p1 * y.p2 * (z.q2 * y.q1)) (!(z.s2 == y.s1)) (z.p2 * y.p1 * (z.q1 * y.q2))
 p2 := plN (!(z.s1 == y.s2)) (z.p1 * y.p2 * (z.q2 * y.q1)) (!(z.s2 == y.s1)) (z.p2 * y.p1 * (z.q1 * y.q2))
 q2 := z.q1 * y.q2 * (z.q2 * y.q1) }
theorem mulC_ok {z y : CN} {k : Nat} (h : z.ok k) (g : y.ok k) (j : Nat) (hj : 4 * k + 1 ≤ j) : (mulC z y).ok j := by
 have m : ∀ {a b : Nat}, Sz k a → Sz k b → Sz (2 * k) (a * b) := fun h1 h2 => h1.mul h2
 have u : ∀ {a b : Nat}, Sz (2 * k) a → Sz (2 * k) b → Sz (4 * k) (a * b) := fun h1 h2 => h1.mul h2
 exact ⟨(plN_sz (u (m h.a1 g.a1) (m h.b2 g.b2)) (u (m h.b1 g.b1) (m h.a2 g.a2))).more hj, (u (m h.a2 g.a2) (m h.b2 g.b2)).more (by omega), Nat.mul_pos (Nat.mul_pos h.a3 g.a3) (Nat.mul_pos h.b3 g.b3),
  (plN_sz (u (m h.a1 g.b1) (m h.b2 g.a2)) (u (m h.b1 g.a1) (m h.a2 g.b2))).more hj, (u (m h.a2 g.b2) (m h.b2 g.a2)).more (by omega), Nat.mul_pos (Nat.mul_pos h.a3 g.b3) (Nat.mul_pos h.b3 g.a3)⟩
/-- Own variables of times. -/
structure TV (w : World) (z : CN) (a : AD) (y : CN) (c : AD) (W : World) : Prop where
 b1 : PF W w.heap.size z a
 b2 : PF W (w.heap.size + 1) y c
 res : PF W (w.heap.size + 2) zC zA
 bl : Below w.heap.size w W
abbrev tvW (w : World) (z : CN) (a : AD) (y : CN) (c : AD) : World := ((w.alloc (.cells #[.bool z.s1, .slice a.A1 a.L1 a.c1, .slice a.A2 a.L2 a.c2, .bool z.s2, .slice a.A3 a.L3 a.c3, .slice a.A4 a.L4 a.c4] 148)).alloc (.cells #[.bool y.s1, .slice c.A1 c.L1 c.c1, .slice c.A2 c.L2 c.c2, .bool y.s2, .slice c.A3 c.L3 c.c3, .slice c.A4 c.L4 c.c4] 148)).alloc (.cells #[.bool false, .slice none 0 0, .slice none 0 0, .bool false, .slice none 0 0, .slice none 0 0] 148)
theorem tv_start {w : World} {z y : CN} {a c : AD} : TV w z a y c (tvW w z a y c) := by
 have b1 := below_alloc (Below.refl w.heap.size w) (.cells #[.bool z.s1, .slice a.A1 a.L1 a.c1, .slice a.A2 a.L2 a.c2, .bool z.s2, .slice a.A3 a.L3 a.c3, .slice a.A4 a.L4 a.c4] 148)
 have h1 : PF (w.alloc (.cells #[.bool z.s1, .slice a.A1 a.L1 a.c1, .slice a.A2 a.L2 a.c2, .bool z.s2, .slice a.A3 a.L3 a.c3, .slice a.A4 a.L4 a.c4] 148)) w.heap.size z a := heap_alloc_new w _
 obtain ⟨X, hX⟩ : ∃ X, w.alloc (.cells #[.bool z.s1, .slice a.A1 a.L1 a.c1, .slice a.A2 a.L2 a.c2, .bool z.s2, .slice a.A3 a.L3 a.c3, .slice a.A4 a.L4 a.c4] 148) = X := ⟨_, rfl⟩
 have hs : X.heap.size = w.heap.size + 1 := by subst hX; simp
 unfold tvW
 rw [hX] at b1 h1 ⊢
 have b2 := below_alloc (Below.refl X.heap.size X) (.cells #[.bool y.s1, .slice c.A1 c.L1 c.c1, .slice c.A2 c.L2 c.c2, .bool y.s2, .slice c.A3 c.L3 c.c3, .slice c.A4 c.L4 c.c4] 148)
 have h2 : PF (X.alloc (.cells #[.bool y.s1, .slice c.A1 c.L1 c.c1, .slice c.A2 c.L2 c.c2, .bool y.s2, .slice c.A3 c.L3 c.c3, .slice c.A4 c.L4 c.c4] 148)) X.heap.size y c := heap_alloc_new X _
 have hs2 : (X.alloc (.cells #[.bool y.s1, .slice c.A1 c.L1 c.c1, .slice c.A2 c.L2 c.c2, .bool y.s2, .slice c.A3 c.L3 c.c3, .slice c.A4 c.L4 c.c4] 148)).heap.size = w.heap.size + 2 := by simp [hs]
 generalize X.alloc (.cells #[.bool y.s1, .slice c.A1 c.L1 c.c1, .slice c.A2 c.L2 c.c2, .bool y.s2, .slice c.A3 c.L3 c.c3, .slice c.A4 c.L4 c.c4] 148) = Y at *
 have b3 := below_alloc (Below.refl Y.heap.size Y) (.cells #[.bool false, .slice none 0 0, .slice none 0 0, .bool false, .slice none 0 0, .slice none 0 0] 148)
 have h3 : PF (Y.alloc (.cells #[.bool false, .slice none 0 0, .slice none 0 0, .bool false, .slice none 0 0, .slice none 0 0] 148)) Y.heap.size zC zA := heap_alloc_new Y _
 rw [hs2] at h3
 rw [hs] at h2
 exact ⟨(h1.below b2).below b3, h2.below b3, h3, (b1.trans (b2.mono (by omega))).trans (b3.mono (by omega))⟩
theorem pTimes_calls {w : World} {z y : CN} {a c : AD} (h : P2 w a z) (k : P2 w c y) (hz : z.ok 20000) (hy : y.ok 20000) : Calls Tryz.prog 109 #[aV z a, aV y c] w fun e w' => PX w (mulC z y) e w' := by
 have g1 := hz.more (show 20000 ≤ 100000 by omega)
 have g2 := hy.more (show 20000 ≤ 100000 by omega)
 have HT1 : Aside0 (∀ W, Below w.heap.size w W → Calls Tryz.prog 129 #[.agg #[.bool z.s1, .slice a.A1 a.L1 a.c1, .slice a.A2 a.L2 a.c2], .agg #[.bool y.s1, .slice c.A1 c.L1 c.c1, .slice c.A2 c.L2 c.c2]] W fun e w' => QX W (!(z.s1 == y.s1)) (z.p1 * y.p1) (z.q1 * y.q1) e w') := ⟨fun W hb => qTimes_calls (h.below hb).n1 (k.below hb).n1 g1.a1 g1.a2 g2.a1 g2.a2⟩
 have HT2 : Aside0 (∀ W, Below w.heap.size w W → Calls Tryz.prog 129 #[.agg #[.bool z.s2, .slice a.A3 a.L3 a.c3, .slice a.A4 a.L4 a.c4], .agg #[.bool y.s2, .slice c.A3 c.L3 c.c3, .slice c.A4 c.L4 c.c4]] W fun e w' => QX W (!(z.s2 == y.s2)) (z.p2 * y.p2) (z.q2 * y.q2) e w') := ⟨fun W hb => qTimes_calls (h.below hb).n2 (k.below hb).n2 g1.b1 g1.b2 g2.b1 g2.b2⟩
 have HT3 : Aside0 (∀ W, Below w.heap.size w W → Calls Tryz.prog 129 #[.agg #[.bool z.s1, .slice a.A1 a.L1 a.c1, .slice a.A2 a.L2 a.c2], .agg #[.bool y.s2, .slice c.A3 c.L3 c.c3, .slice c.A4 c.L4 c.c4]] W fun e w' => QX W (!(z.s1 == y.s2)) (z.p1 * y.p2) (z.q1 * y.q2) e w') := ⟨fun W hb => qTimes_calls (h.below hb).n1 (k.below hb).n2 g1.a1 g1.a2 g2.b1 g2.b2⟩
 have HT4 : Aside0 (∀ W, Below w.heap.size w W → Calls Tryz.prog 129 #[.agg #[.bool z.s2, .slice a.A3 a.L3 a.c3, .slice a.A4 a.L4 a.c4], .agg #[.bool y.s1, .slice c.A1 c.L1 c.c1, .slice c.A2 c.L2 c.c2]] W fun e w' => QX W (!(z.s2 == y.s1)) (z.p2 * y.p1) (z.q2 * y.q1) e w') := ⟨fun W hb => qTimes_calls (h.below hb).n2 (k.below hb).n1 g1.b1 g1.b2 g2.a1 g2.a2⟩
 have m1 : Sz 40000 (z.p1 * y.p1) := hz.a1.mul hy.a1
 have m2 : Sz 40000 (z.q1 * y.q1) := hz.a2.mul hy.a2
 have m3 : Sz 40000 (z.p2 * y.p2) := hz.b1.mul hy.b1
 have m4 : Sz 40000 (z.q2 * y.q2) := hz.b2.mul hy.b2
 have m5 : Sz 40000 (z.p1 * y.p2) := hz.a1.mul hy.b1
 have m6 : Sz 40000 (z.q1 * y.q2) := hz.a2.mul hy.b2
 have m7 : Sz 40000 (z.p2 * y.p1) := hz.b1.mul hy.a1
 have m8 : Sz 40000 (z.q2 * y.q1) := hz.b2.mul hy.a2
 have HMI : Aside0 (∀ W A1 L1 c1 A2 L2 c2 A3 L3 c3 A4 L4 c4, N2 W A1 L1 c1 (z.p1 * y.p1) A2 L2 c2 (z.q1 * y.q1) → N2 W A3 L3 c3 (z.p2 * y.p2) A4 L4 c4 (z.q2 * y.q2) → Calls Tryz.prog 80 #[qV (!(z.s1 == y.s1)) A1 L1 c1 A2 L2 c2, qV (!(z.s2 == y.s2)) A3 L3 c3 A4 L4 c4] W fun e w' => QX W (mulC z y).s1 (mulC z y).p1 (mulC z y).q1 e w') :=
  ⟨fun W A1 L1 c1 A2 L2 c2 A3 L3 c3 A4 L4 c4 h1 h2 => qMinus_calls h1 h2 (m1.more (by omega)) (m2.more (by omega)) (m3.more (by omega)) (m4.more (by omega))⟩
 have HPL : Aside0 (∀ W A1 L1 c1 A2 L2 c2 A3 L3 c3 A4 L4 c4, N2 W A1 L1 c1 (z.p1 * y.p2) A2 L2 c2 (z.q1 * y.q2) → N2 W A3 L3 c3 (z.p2 * y.p1) A4 L4 c4 (z.q2 * y.q1) → Calls Tryz.prog 118 #[qV (!(z.s1 == y.s2)) A1 L1 c1 A2 L2 c2, qV (!(z.s2 == y.s1)) A3 L3 c3 A4 L4 c4] W fun e w' => QX W (mulC z y).s2 (mulC z y).p2 (mulC z y).q2 e w') :=
  ⟨fun W A1 L1 c1 A2 L2 c2 A3 L3 c3 A4 L4 c4 h1 h2 => qPlus_calls h1 h2 (m5.more (by omega)) (m6.more (by omega)) (m7.more (by omega)) (m8.more (by omega))⟩
 have HNE : Aside0 (w.heap.size ≠ w.heap.size + 2 ∧ w.heap.size + 1 ≠ w.heap.size + 2) := ⟨by omega, by omega⟩
 clear g1 g2 m1 m2 m3 m4 m5 m6 m7 m8 hz hy h k
 unfold PX QX qV at *
 obtain ⟨r, hr0⟩ : ∃ r, mulC z y = r := ⟨_, rfl⟩
 rw [hr0] at HMI HPL ⊢
 clear hr0
 generalize z.p1 * y.p1 = t1 at *
 generalize z.q1 * y.q1 = t2 at *
 generalize z.p2 * y.p2 = t3 at *
 generalize z.q2 * y.q2 = t4 at *
 generalize z.p1 * y.p2 = t5 at *
 generalize z.q1 * y.q2 = t6 at *
 generalize z.p2 * y.p1 = t7 at *
 generalize z.q2 * y.q1 = t8 at *
 generalize (!(z.s1 == y.s1)) = ts1 at *
 generalize (!(z.s2 == y.s2)) = ts2 at *
 generalize (!(z.s1 == y.s2)) = ts3 at *
 generalize (!(z.s2 == y.s1)) = ts4 at *
 go_enter Tryz.func109, Tryz.ntmps109
 go_upto_region 1 with fail
 obtain ⟨W0, hW0⟩ : ∃ W0, tvW w z a y c = W0 := ⟨_, rfl⟩
 have HO := Aside0.mk (tv_start (w := w) (z := z) (a := a) (y := y) (c := c))
 unfold tvW at hW0 HO
 rw [hW0] at HO ⊢
 clear hW0
 have KP : Aside0 (∀ V, Below W0.heap.size W0 V → (fun V => (V.cell? ⟨w.heap.size, 0, none⟩ = some (.bool z.s1) ∧ V.cell? ⟨w.heap.size, 1, none⟩ = some (.slice a.A1 a.L1 a.c1) ∧ V.cell? ⟨w.heap.size, 2, none⟩ = some (.slice a.A2 a.L2 a.c2) ∧ V.cell? ⟨w.heap.size, 3, none⟩ = some (.bool z.s2) ∧ V.cell? ⟨w.heap.size, 4, none⟩ = some (.slice a.A3 a.L3 a.c3) ∧ V.cell? ⟨w.heap.size, 5, none⟩ = some (.slice a.A4 a.L4 a.c4)) ∧ V.cell? ⟨w.heap.size + 1, 0, none⟩ = some (.bool y.s1) ∧ V.cell? ⟨w.heap.size + 1, 1, none⟩ = some (.slice c.A1 c.L1 c.c1) ∧ V.cell? ⟨w.heap.size + 1, 2, none⟩ = some (.slice c.A2 c.L2 c.c2) ∧ V.cell? ⟨w.heap.size + 1, 3, none⟩ = some (.bool y.s2) ∧ V.cell? ⟨w.heap.size + 1, 4, none⟩ = some (.slice c.A3 c.L3 c.c3) ∧ V.cell? ⟨w.heap.size + 1, 5, none⟩ = some (.slice c.A4 c.L4 c.c4)) V) := ⟨fun V hb => ⟨(HO.out.b1.below hb).cells, (HO.out.b2.below hb).cells⟩⟩
 rename_i Q' K hK
 refine wq KP fun hHeld => ?_
 refine tp 0 ?_
 try simp only [PU]
 refine tp 1 ?_
 try simp only [PU]
 refine tp 2 ?_
 try simp only [PU]
 refine tp 3 ?_
 try simp only [PU]
 refine tp 5 ?_
 try simp only [PU]
 refine tp 6 ?_
 try simp only [PU]
 refine tp 7 ?_
 try simp only [PU]
 refine tp 8 ?_
 try simp only [PU]
 refine tp 11 ?_
 try simp only [PU]
 refine tp 12 ?_
 try simp only [PU]
 refine tp 13 ?_
 try simp only [PU]
 refine tp 14 ?_
 try simp only [PU]
 refine tp 16 ?_
 try simp only [PU]
 refine tp 17 ?_
 try simp only [PU]
 refine tp 18 ?_
 try simp only [PU]
 refine tp 19 ?_
 try simp only [PU]
 refine tc 4 fun K hK => ?_
 go_simp
 (go_at_call 129; (with_reducible refine (HT1.out _ HO.out.bl.drew).mono ?_); rintro e V1 ⟨A5, k5, c5, A6, k6, c6, rfl, hn, hbq⟩; have R1 := Aside0.mk hn; clear hn; have HBN : Aside0 (Below W0.heap.size W0 V1) := ⟨by first | exact HBC.out.trans (hbq.mono HBC.out.size) | exact (below_drew1 (Below.refl _ _)).trans hbq⟩; (try clear HBC); have HBC := HBN; clear HBN)
 refine hK.out _ _ ?_ fun hHeld => ?_
 ·(first | exact KP.out _ HBC.out | (simp only [cell_set HNE.out.1, cell_set HNE.out.2]; exact hHeld))
 clear hK K; try simp only [PU]
 refine tc 9 fun K hK => ?_
 go_simp
 (go_at_call 129; (with_reducible refine (HT2.out _ (HO.out.bl.trans (HBC.out.mono HO.out.bl.size))).mono ?_); rintro e V2 ⟨A7, k7, c7, A8, k8, c8, rfl, hn, hbq⟩; have R2 := Aside0.mk hn; clear hn; have R1b := Aside0.mk (R1.out.below hbq); clear R1; have R1 := R1b; clear R1b; have HBN : Aside0 (Below W0.heap.size W0 V2) := ⟨by first | exact HBC.out.trans (hbq.mono HBC.out.size) | exact (below_drew1 (Below.refl _ _)).trans hbq⟩; (try clear HBC); have HBC := HBN; clear HBN)
 refine hK.out _ _ ?_ fun hHeld => ?_
 ·(first | exact KP.out _ HBC.out | (simp only [cell_set HNE.out.1, cell_set HNE.out.2]; exact hHeld))
 clear hK K; try simp only [PU]
 refine tc 10 fun K hK => ?_
 go_simp
 (go_at_call 80; (with_reducible refine (HMI.out _ _ _ _ _ _ _ _ _ _ _ _ _ R1.out R2.out).mono ?_); rintro e V3 ⟨A9, k9, c9, B1, d1, e1, rfl, hn, hbq⟩; have R3 := Aside0.mk hn; clear hn; have HBN : Aside0 (Below W0.heap.size W0 V3) := ⟨by first | exact HBC.out.trans (hbq.mono HBC.out.size) | exact (below_drew1 (Below.refl _ _)).trans hbq⟩; (try clear HBC); have HBC := HBN; clear HBN)
 refine hK.out _ _ ?_ fun hHeld => ?_
 ·(first | exact KP.out _ HBC.out | (simp only [cell_set HNE.out.1, cell_set HNE.out.2]; exact hHeld))
 clear hK K; try simp only [PU]
 refine tc 15 fun K hK => ?_
 go_simp
 (go_at_call 129; (with_reducible refine (HT3.out _ (HO.out.bl.trans (HBC.out.mono HO.out.bl.size))).mono ?_); rintro e V4 ⟨B2, d2, e2, B3, d3, e3, rfl, hn, hbq⟩; have R4 := Aside0.mk hn; clear hn; have R3b := Aside0.mk (R3.out.below hbq); clear R3; have R3 := R3b; clear R3b; have HBN : Aside0 (Below W0.heap.size W0 V4) := ⟨by first | exact HBC.out.trans (hbq.mono HBC.out.size) | exact (below_drew1 (Below.refl _ _)).trans hbq⟩; (try clear HBC); have HBC := HBN; clear HBN)
 refine hK.out _ _ ?_ fun hHeld => ?_
 ·(first | exact KP.out _ HBC.out | (simp only [cell_set HNE.out.1, cell_set HNE.out.2]; exact hHeld))
 clear hK K; try simp only [PU]
 refine tc 20 fun K hK => ?_
 go_simp
 (go_at_call 129; (with_reducible refine (HT4.out _ (HO.out.bl.trans (HBC.out.mono HO.out.bl.size))).mono ?_); rintro e V5 ⟨B4, d4, e4, B5, d5, e5, rfl, hn, hbq⟩; have R5 := Aside0.mk hn; clear hn; have R3b := Aside0.mk (R3.out.below hbq); clear R3; have R3 := R3b; clear R3b; have R4b := Aside0.mk (R4.out.below hbq); clear R4; have R4 := R4b; clear R4b; have HBN : Aside0 (Below W0.heap.size W0 V5) := ⟨by first | exact HBC.out.trans (hbq.mono HBC.out.size) | exact (below_drew1 (Below.refl _ _)).trans hbq⟩; (try clear HBC); have HBC := HBN; clear HBN)
 refine hK.out _ _ ?_ fun hHeld => ?_
 ·(first | exact KP.out _ HBC.out | (simp only [cell_set HNE.out.1, cell_set HNE.out.2]; exact hHeld))
 clear hK K; try simp only [PU]
 refine tc 21 fun K hK => ?_
 go_simp
 (go_at_call 118; (with_reducible refine (HPL.out _ _ _ _ _ _ _ _ _ _ _ _ _ R4.out R5.out).mono ?_); rintro e V6 ⟨B6, d6, e6, B7, d7, e7, rfl, hn, hbq⟩; have R6 := Aside0.mk hn; clear hn; have R3b := Aside0.mk (R3.out.below hbq); clear R3; have R3 := R3b; clear R3b; have HBN : Aside0 (Below W0.heap.size W0 V6) := ⟨by first | exact HBC.out.trans (hbq.mono HBC.out.size) | exact (below_drew1 (Below.refl _ _)).trans hbq⟩; (try clear HBC); have HBC := HBN; clear HBN; have hr := HO.out.res.below HBC.out; obtain ⟨r0, r1, r2, r3, r4, r5⟩ := hr.cells; have f0 := hr.fr 0; have f1 := hr.fr 1; have f2 := hr.fr 2; have f3 := hr.fr 3; have f4 := hr.fr 4; have f5 := hr.fr 5; clear hr)
 refine hK.out _ _ ?_ fun hHeld => ?_
 ·(first | exact KP.out _ HBC.out | (simp only [cell_set HNE.out.1, cell_set HNE.out.2]; exact hHeld))
 clear hK K; try simp only [PU]
 refine tp 22 ?_
 try simp only [PU]
 refine tc 23 fun K hK => ?_
 go_simp
 refine hK.out _ _ ?_ fun hHeld => ?_
 ·(first | exact KP.out _ HBC.out | (simp only [cell_set HNE.out.1, cell_set HNE.out.2]; exact hHeld))
 clear hK K; try simp only [PU]
 refine wpAnyH_done (by kernel_rfl) ?_ _
 refine hK _ _ ?_
 clear hK
 go_wp2
 have hr := HO.out.res.below HBC.out
 refine p_ret1 (z := r) (a := ⟨A9, k9, c9, B1, d1, e1, B6, d6, e6, B7, d7, e7⟩) Tryz.results109 rfl (hr.put6 r.p1 r.q1 r.p2 r.q2) ⟨_, rfl, hr.p6 ⟨R3.out, R6.out⟩, below_put6 (B := w.heap.size) (HO.out.bl.trans (HBC.out.mono HO.out.bl.size)) (by omega)⟩
/-- The errors of an exact number. -/
def ckX (x y : ByteArray) : Int := firstI [checkR x, checkR y]
theorem ckX_zero {x y : ByteArray} (h : ckX x y = 0) : checkR x = 0 ∧ checkR y = 0 := reE_zero h
theorem checkX_calls (x y : ByteArray) (hx : x.size ≤ 10000) (hy : y.size ≤ 10000) (w : World) (hE : EN w) : Calls Tryz.prog 50 #[.agg #[.string x, .string y]] w fun e w' => e = .returned (.int .i64 (ckX x y)) ∧ Below w.heap.size w w' := by
 have HK1 : Aside0 (∀ W, Below w.heap.size w W → Calls Tryz.prog 58 #[.string x] W fun e w' => e = .returned (.int .i64 (checkR x)) ∧ Below W.heap.size W w') := ⟨checkR_at (by omega) hE⟩
 have HK2 : Aside0 (∀ W, Below w.heap.size w W → Calls Tryz.prog 58 #[.string y] W fun e w' => e = .returned (.int .i64 (checkR y)) ∧ Below W.heap.size W w') := ⟨checkR_at (by omega) hE⟩
 have hF : firstI [checkR x, checkR y] = ckX x y := rfl
 have HF := Aside0.mk hF
 clear hx hy hE hF
 generalize ckX x y = z at *
 generalize checkR x = e1 at *
 generalize checkR y = e2 at *
 go_enter Tryz.func50, Tryz.ntmps50
 go_upto_region 1 with fail
 obtain ⟨W0, hW0⟩ : ∃ W0, w.alloc (.cells #[.string x, .string y] 57) = W0 := ⟨_, rfl⟩
 have HO : Aside0 (EF W0 w.heap.size x y ∧ Below w.heap.size w W0) := ⟨by subst hW0; exact ⟨heap_alloc_new w _, below_alloc (Below.refl _ _) _⟩⟩
 rw [hW0]
 clear hW0
 have KP : Aside0 (∀ V, Below W0.heap.size W0 V → (fun V => V.cell? ⟨w.heap.size, 0, none⟩ = some (.string x) ∧ V.cell? ⟨w.heap.size, 1, none⟩ = some (.string y)) V) := ⟨fun V hb => ⟨(HO.out.1.below hb).cell0, (HO.out.1.below hb).cell1⟩⟩
 rename_i Q' K hK
 refine wq KP fun hHeld => ?_
 refine tp 0 ?_
 try simp only [PU]
 refine tp 1 ?_
 try simp only [PU]
 refine tp 3 ?_
 try simp only [PU]
 refine tp 4 ?_
 try simp only [PU]
 refine tc 2 fun K hK => ?_
 go_simp
 (go_at_call 58; (with_reducible refine (HK1.out _ HO.out.2.drew).mono ?_); rintro e V1 ⟨rfl, hbq⟩; have HBN : Aside0 (Below W0.heap.size W0 V1) := ⟨by first | exact HBC.out.trans (hbq.mono HBC.out.size) | exact (below_drew1 (Below.refl _ _)).trans hbq⟩; (try clear HBC); have HBC := HBN; clear HBN)
 refine hK.out _ _ ?_ fun hHeld => ?_
 ·exact KP.out _ HBC.out
 clear hK K; try simp only [PU]
 refine tc 5 fun K hK => ?_
 go_simp
 (go_at_call 58; (with_reducible refine (HK2.out _ (HO.out.2.trans (HBC.out.mono HO.out.2.size))).mono ?_); rintro e V2 ⟨rfl, hbq⟩; have HBN : Aside0 (Below W0.heap.size W0 V2) := ⟨by first | exact HBC.out.trans (hbq.mono HBC.out.size) | exact (below_drew1 (Below.refl _ _)).trans hbq⟩; (try clear HBC); have HBC := HBN; clear HBN)
 refine hK.out _ _ ?_ fun hHeld => ?_
 ·exact KP.out _ HBC.out
 clear hK K; try simp only [PU]
 refine tc 6 fun K hK => ?_
 go_simp
 (have HBN : Aside0 (Below W0.heap.size W0 (V2.alloc (.cells #[.int .i64 e1, .int .i64 e2] 26))) := ⟨below_alloc HBC.out _⟩; clear HBC; have HBC := HBN; clear HBN)
 refine hK.out _ _ ?_ fun hHeld => ?_
 ·exact KP.out _ HBC.out
 clear hK K; try simp only [PU]
 refine tc 7 fun K hK => ?_
 go_simp
 (go_at_call 108; (with_reducible refine (qfirst2_ret _ _ _ HF.out _ _ (by simp) _).mono ?_); rintro e V3 ⟨rfl, hww⟩; rw [hww]; clear hww V3)
 refine hK.out _ _ ?_ fun hHeld => ?_
 ·exact KP.out _ HBC.out
 clear hK K; try simp only [PU]
 refine tp 8 ?_
 try simp only [PU]
 refine wpAnyH_done (by kernel_rfl) ?_ _
 refine hK _ _ ?_
 clear hK
 go_wp2
 go_ret
 exact ⟨rfl, HO.out.2.trans (HBC.out.mono HO.out.2.size)⟩
theorem below_grownQ {w W X : World} {B : Nat} {r : Option Nat} (h : Below B w W) (hB : B ≤ W.heap.size) (hg : W.grownBy X r) (hr : ∀ g, r = some g → B ≤ g) : Below B w X :=
 h.trans ⟨hg.os, hg.tape, hg.output, hg.size, fun k hk => hg.block k (by omega) (fun e => by have := hr k e.symm; omega)⟩
theorem own_baseQ {W : World} {B e size n : Nat} {v : Value} {xs : List Value} (h : W.ownsRow B e size v n xs) : ∀ g, v.ownBlock = some g → B ≤ g := fun g hg => by
 rcases h.2 with ⟨rfl, _⟩ | ⟨g2, cap, cur, rfl, h1, _⟩
 ·cases hg
 ·simp [Value.ownBlock] at hg; omega
/-- Some exact numbers in memory. -/
structure XS (w : World) (g n : Nat) (x y : Nat → ByteArray) : Prop where
 lt : g < w.heap.size
 c0 : ∀ j, j < n → w.cell? ⟨g, 2 * j, none⟩ = some (.string (x j))
 c1 : ∀ j, j < n → w.cell? ⟨g, 2 * j + 1, none⟩ = some (.string (y j))
theorem XS.below {w W : World} {g n : Nat} {x y : Nat → ByteArray} (h : XS w g n x y) (hb : Below w.heap.size w W) : XS W g n x y :=
 ⟨Nat.lt_of_lt_of_le h.lt hb.size, fun j hj => (hb.cell (p := ⟨g, 2 * j, none⟩) h.lt).trans (h.c0 j hj), fun j hj => (hb.cell (p := ⟨g, 2 * j + 1, none⟩) h.lt).trans (h.c1 j hj)⟩
/-- The first k errors. -/
def erL (x y : Nat → ByteArray) (k : Nat) : List Value := (List.range k).map fun j => .int .i64 (ckX (x j) (y j))
theorem erL_succ (x y : Nat → ByteArray) (k : Nat) : erL x y (k + 1) = erL x y k ++ [.int .i64 (ckX (x k) (y k))] := by
 unfold erL; rw [List.range_succ, List.map_append]; rfl
theorem errInfo : (Tryz.prog.info? 26).map (fun i => (i.zero, i.size, i.bytes)) = some (some (.int .i64 0), 1, 8) := by kernel_rfl
theorem one_cell (V : World) (t : TypeId) (v : Value) : ∀ j u, [v][j]? = some u → (V.alloc (.cells #[v] t)).cell? ((⟨V.heap.size, 0, none⟩ : Addr).add j) = some u := by
 intro j u hj
 match j with
 | 0 => simp at hj; subst hj; simp [Addr.add]
 | j + 1 => simp at hj
theorem mapErr_calls {w : World} {g n c : Nat} {x y : Nat → ByteArray} (hX : XS w g n x y) (hn : n ≤ 2) (hs : ∀ j, (x j).size ≤ 10000 ∧ (y j).size ≤ 10000) (hE : EN w) :
 Calls Tryz.prog 170 #[.slice (some ⟨g, 0, none⟩) n c, .func (.func 50) #[] #[]] w fun e w' => ∃ v, e = .returned v ∧ w'.ownsRow w.heap.size 26 1 v n (erL x y n) ∧ Below w.heap.size w w' := by
 have HX := Aside0.mk hX
 have HK : Aside0 (∀ j, j < n → ∀ W, Below w.heap.size w W → Calls Tryz.prog 50 #[.agg #[.string (x j), .string (y j)]] W fun e w' => e = .returned (.int .i64 (ckX (x j) (y j))) ∧ Below W.heap.size W w') := ⟨fun j _ W hb => checkX_calls _ _ (hs j).1 (hs j).2 W (hE.below hb)⟩
 obtain ⟨info0, hi0, hz0, hz1, hz2⟩ := info_parts errInfo
 clear hX hs hE
 go_enter Tryz.func170, Tryz.ntmps170
 go_wp2_with fail
 go_loopw [5, 10] (fun v5 v10 W => ∃ i : Nat, v10 = .int .i64 (i : Int) ∧ i ≤ n ∧ Aside0 (W.ownsRow w.heap.size 26 1 v5 i (erL x y i)) ∧ Aside0 (Below w.heap.size w W)) (fun _ v10 _ => n - (intOf v10).toNat)
 case atStart => exact ⟨0, rfl, Nat.zero_le _, ⟨World.ownsRow_nil _ _ _ _⟩, ⟨Below.refl _ _⟩⟩
 case round =>
  obtain ⟨i, rfl, hi, HOWN, HB⟩ := hrel
  by_cases hlt : i < n
  ·obtain rfl | rfl : i = 0 ∨ i = 1 := by omega
   ·skip
    have q0 := (HX.out.below HB.out).c0 0 hlt
    have q1 := (HX.out.below HB.out).c1 0 hlt
    simp only [Nat.reduceMul, Nat.reduceAdd] at q0 q1
    have hgl : g < wr.heap.size := Nat.lt_of_lt_of_le HX.out.lt HB.out.size
    have HCK := Aside0.mk (HK.out 0 hlt)
    have hlt' : ((0 : Int) < (n : Int)) := by omega
    obtain ⟨kk, hkk⟩ : ∃ kk, ckX (x 0) (y 0) = kk := ⟨_, rfl⟩
    obtain ⟨xx, hxx⟩ : ∃ xx, x 0 = xx := ⟨_, rfl⟩
    obtain ⟨yy, hyy⟩ : ∃ yy, y 0 = yy := ⟨_, rfl⟩
    have HS := Aside0.mk (erL_succ x y 0)
    rw [hkk] at HS
    rw [hkk, hxx, hyy] at HCK
    rw [hxx] at q0
    rw [hyy] at q1
    clear hkk hxx hyy
    have HBA : Aside0 (Below w.heap.size w (wr.alloc (.cells #[.string xx, .string yy] 57))) := ⟨below_alloc HB.out _⟩
    go_wp2_with (first | (go_at_call 50; (with_reducible refine (HCK.out _ HBA.out).mono ?_); rintro e V1 ⟨rfl, hb1⟩; have HOWN3 := Aside0.mk (pw_own_below (pw_own_below (pw_own_below HOWN.out (below_alloc (Below.refl _ _) (.cells #[.string xx, .string yy] 57))) hb1) (below_alloc (Below.refl _ _) (.cells #[.int .i64 kk] 26))); have HB3 := Aside0.mk (below_alloc (HBA.out.trans (hb1.mono HBA.out.size)) (.cells #[.int .i64 kk] 26)); clear hb1) | ((with_reducible refine gate_builtin (b := .append) (xs := #[.tmp 14, .tmp 18]) rfl ?_); at_builtin; (refine wpList_append_own _ rfl (.tmp 14) (.tmp 18) 183 rfl w.heap.size 26 info0 (.int .i64 0) 1 8 Tryz.underlying183 hi0 hz0 hz1 hz2 rfl (by decide) u5 0 (erL x y 0) rfl HOWN3.out ⟨V1.heap.size, 0, none⟩ 1 1 [.int .i64 kk] rfl rfl (one_cell V1 26 (.int .i64 kk)) (fun u hu => by rw [List.mem_singleton.1 hu]; rfl) (by decide) (by decide) HB3.out.size ?_); intro v2 V2 ho2 hg2 _; have HOWN4 := Aside0.mk ho2; have HB4 := Aside0.mk (below_grownQ HB3.out HB3.out.size hg2 (own_baseQ HOWN3.out)); clear ho2 hg2))
    go_roundw
    case rel => exact ⟨1, by first | rfl | go_num, by omega, ⟨by have := HOWN4.out; rw [← HS.out] at this; exact this⟩, HB4⟩
    case measure => simp [intOf]; omega
   ·skip
    have q0 := (HX.out.below HB.out).c0 1 hlt
    have q1 := (HX.out.below HB.out).c1 1 hlt
    simp only [Nat.reduceMul, Nat.reduceAdd] at q0 q1
    have hgl : g < wr.heap.size := Nat.lt_of_lt_of_le HX.out.lt HB.out.size
    have HCK := Aside0.mk (HK.out 1 hlt)
    have hlt' : ((1 : Int) < (n : Int)) := by omega
    obtain ⟨kk, hkk⟩ : ∃ kk, ckX (x 1) (y 1) = kk := ⟨_, rfl⟩
    obtain ⟨xx, hxx⟩ : ∃ xx, x 1 = xx := ⟨_, rfl⟩
    obtain ⟨yy, hyy⟩ : ∃ yy, y 1 = yy := ⟨_, rfl⟩
    have HS := Aside0.mk (erL_succ x y 1)
    rw [hkk] at HS
    rw [hkk, hxx, hyy] at HCK
    rw [hxx] at q0
    rw [hyy] at q1
    clear hkk hxx hyy
    have HBA : Aside0 (Below w.heap.size w (wr.alloc (.cells #[.string xx, .string yy] 57))) := ⟨below_alloc HB.out _⟩
    go_wp2_with (first | (go_at_call 50; (with_reducible refine (HCK.out _ HBA.out).mono ?_); rintro e V1 ⟨rfl, hb1⟩; have HOWN3 := Aside0.mk (pw_own_below (pw_own_below (pw_own_below HOWN.out (below_alloc (Below.refl _ _) (.cells #[.string xx, .string yy] 57))) hb1) (below_alloc (Below.refl _ _) (.cells #[.int .i64 kk] 26))); have HB3 := Aside0.mk (below_alloc (HBA.out.trans (hb1.mono HBA.out.size)) (.cells #[.int .i64 kk] 26)); clear hb1) | ((with_reducible refine gate_builtin (b := .append) (xs := #[.tmp 14, .tmp 18]) rfl ?_); at_builtin; (refine wpList_append_own _ rfl (.tmp 14) (.tmp 18) 183 rfl w.heap.size 26 info0 (.int .i64 0) 1 8 Tryz.underlying183 hi0 hz0 hz1 hz2 rfl (by decide) u5 1 (erL x y 1) rfl HOWN3.out ⟨V1.heap.size, 0, none⟩ 1 1 [.int .i64 kk] rfl rfl (one_cell V1 26 (.int .i64 kk)) (fun u hu => by rw [List.mem_singleton.1 hu]; rfl) (by decide) (by decide) HB3.out.size ?_); intro v2 V2 ho2 hg2 _; have HOWN4 := Aside0.mk ho2; have HB4 := Aside0.mk (below_grownQ HB3.out HB3.out.size hg2 (own_baseQ HOWN3.out)); clear ho2 hg2))
    go_roundw
    case rel => exact ⟨2, by first | rfl | go_num, by omega, ⟨by have := HOWN4.out; rw [← HS.out] at this; exact this⟩, HB4⟩
    case measure => simp [intOf]; omega
  ·obtain rfl : i = n := by omega
   go_wp2
   go_ret
   exact ⟨_, rfl, HOWN.out, HB.out⟩
/-- The number of two strings. -/
def ofS (x y : ByteArray) : CN := ⟨minusB x, (numR x).natAbs, (denR x).natAbs, minusB y, (numR y).natAbs, (denR y).natAbs⟩
theorem ofS_ok {x y : ByteArray} (h : ckX x y = 0) : (ofS x y).ok 480 := by
 obtain ⟨c1, c2⟩ := ckX_zero h
 obtain ⟨a1, a2, a3⟩ := frac_sz2 c1
 obtain ⟨b1, b2, b3⟩ := frac_sz2 c2
 exact ⟨a1, a2, a3, b1, b2, b3⟩
theorem partsF_calls (x y : ByteArray) (hx : x.size ≤ 10000) (hy : y.size ≤ 10000) (h : ckX x y = 0) (w : World) (hE : EN w) : Calls Tryz.prog 172 #[.agg #[.string x, .string y]] w fun e w' => PX w (ofS x y) e w' := by
 obtain ⟨c1, c2⟩ := ckX_zero h
 have HK1 : Aside0 (∀ W, Below w.heap.size w W → Calls Tryz.prog 79 #[.string x] W fun e w' => QX W (ofS x y).s1 (ofS x y).p1 (ofS x y).q1 e w') := ⟨fun W hb => parse_calls2 x hx c1 W (hE.below hb)⟩
 have HK2 : Aside0 (∀ W, Below w.heap.size w W → Calls Tryz.prog 79 #[.string y] W fun e w' => QX W (ofS x y).s2 (ofS x y).p2 (ofS x y).q2 e w') := ⟨fun W hb => parse_calls2 y hy c2 W (hE.below hb)⟩
 have HNE : Aside0 (w.heap.size ≠ w.heap.size + 1) := ⟨by omega⟩
 clear hx hy hE h c1 c2
 unfold PX QX qV at *
 generalize ofS x y = r at *
 go_enter Tryz.func172, Tryz.ntmps172
 go_upto_region 1 with fail
 obtain ⟨W0, hW0⟩ : ∃ W0, (w.alloc (.cells #[.string x, .string y] 57)).alloc (.cells #[.bool false, .slice none 0 0, .slice none 0 0, .bool false, .slice none 0 0, .slice none 0 0] 148) = W0 := ⟨_, rfl⟩
 have HO : Aside0 (EF W0 w.heap.size x y ∧ PF W0 (w.heap.size + 1) zC zA ∧ Below w.heap.size w W0) := ⟨by
  have b1 := below_alloc (Below.refl w.heap.size w) (.cells #[.string x, .string y] 57)
  have h1 : EF (w.alloc (.cells #[.string x, .string y] 57)) w.heap.size x y := heap_alloc_new w _
  obtain ⟨X, hX⟩ : ∃ X, w.alloc (.cells #[.string x, .string y] 57) = X := ⟨_, rfl⟩
  have hs : X.heap.size = w.heap.size + 1 := by subst hX; simp
  rw [hX] at b1 h1 hW0
  have b2 := below_alloc (Below.refl X.heap.size X) (.cells #[.bool false, .slice none 0 0, .slice none 0 0, .bool false, .slice none 0 0, .slice none 0 0] 148)
  have h2 : PF (X.alloc (.cells #[.bool false, .slice none 0 0, .slice none 0 0, .bool false, .slice none 0 0, .slice none 0 0] 148)) X.heap.size zC zA := heap_alloc_new X _
  rw [hs] at h2
  rw [hW0] at b2 h2
  exact ⟨h1.below b2, h2, b1.trans (b2.mono (by omega))⟩⟩
 rw [hW0]
 clear hW0
 have KP : Aside0 (∀ V, Below W0.heap.size W0 V → (fun V => V.cell? ⟨w.heap.size, 0, none⟩ = some (.string x) ∧ V.cell? ⟨w.heap.size, 1, none⟩ = some (.string y)) V) := ⟨fun V hb => ⟨(HO.out.1.below hb).cell0, (HO.out.1.below hb).cell1⟩⟩
 rename_i Q' K hK
 refine wq KP fun hHeld => ?_
 refine tp 0 ?_
 try simp only [PU]
 refine tp 1 ?_
 try simp only [PU]
 refine tp 3 ?_
 try simp only [PU]
 refine tp 4 ?_
 try simp only [PU]
 refine tc 2 fun K hK => ?_
 go_simp
 (go_at_call 79; (with_reducible refine (HK1.out _ HO.out.2.2.drew).mono ?_); rintro e V1 ⟨A1, k1, c1, A2, k2, c2, rfl, hn, hbq⟩; have R1 := Aside0.mk hn; clear hn; have HBN : Aside0 (Below W0.heap.size W0 V1) := ⟨by first | exact HBC.out.trans (hbq.mono HBC.out.size) | exact (below_drew1 (Below.refl _ _)).trans hbq⟩; (try clear HBC); have HBC := HBN; clear HBN)
 refine hK.out _ _ ?_ fun hHeld => ?_
 ·(first | (simp only [cell_set HNE.out]; exact hHeld) | exact KP.out _ HBC.out)
 clear hK K; try simp only [PU]
 refine tc 5 fun K hK => ?_
 go_simp
 (go_at_call 79; (with_reducible refine (HK2.out _ (HO.out.2.2.trans (HBC.out.mono HO.out.2.2.size))).mono ?_); rintro e V2 ⟨A3, k3, c3, A4, k4, c4, rfl, hn, hbq⟩; have R2 := Aside0.mk hn; have R3 := Aside0.mk (R1.out.below hbq); clear hn; have HBN : Aside0 (Below W0.heap.size W0 V2) := ⟨by first | exact HBC.out.trans (hbq.mono HBC.out.size) | exact (below_drew1 (Below.refl _ _)).trans hbq⟩; (try clear HBC); have HBC := HBN; clear HBN; have hr := HO.out.2.1.below HBC.out; obtain ⟨r0, r1, r2, r3, r4, r5⟩ := hr.cells; have f0 := hr.fr 0; have f1 := hr.fr 1; have f2 := hr.fr 2; have f3 := hr.fr 3; have f4 := hr.fr 4; have f5 := hr.fr 5; clear hr)
 refine hK.out _ _ ?_ fun hHeld => ?_
 ·(first | (simp only [cell_set HNE.out]; exact hHeld) | exact KP.out _ HBC.out)
 clear hK K; try simp only [PU]
 refine tp 6 ?_
 try simp only [PU]
 refine tc 7 fun K hK => ?_
 go_simp
 refine hK.out _ _ ?_ fun hHeld => ?_
 ·(first | (simp only [cell_set HNE.out]; exact hHeld) | exact KP.out _ HBC.out)
 clear hK K; try simp only [PU]
 refine wpAnyH_done (by kernel_rfl) ?_ _
 refine hK _ _ ?_
 clear hK
 go_wp2
 have hr := HO.out.2.1.below HBC.out
 refine p_ret1 (z := r) (a := ⟨A1, k1, c1, A2, k2, c2, A3, k3, c3, A4, k4, c4⟩) Tryz.results172 rfl (hr.put6 r.p1 r.q1 r.p2 r.q2) ⟨_, rfl, hr.p6 ⟨R3.out, R2.out⟩, below_put6 (B := w.heap.size) (HO.out.2.2.trans (HBC.out.mono HO.out.2.2.size)) (by omega)⟩
/-- The cells of a complex number. -/
def pC (z : CN) (a : AD) : List Value := [.bool z.s1, .slice a.A1 a.L1 a.c1, .slice a.A2 a.L2 a.c2, .bool z.s2, .slice a.A3 a.L3 a.c3, .slice a.A4 a.L4 a.c4]
theorem pairInfo : (Tryz.prog.info? 148).map (fun i => (i.zero, i.size, i.bytes)) = some (some (.agg #[.bool false, .slice none 0 0, .slice none 0 0, .bool false, .slice none 0 0, .slice none 0 0]), 6, 112) := by kernel_rfl
theorem addr0 (g j : Nat) : (⟨g, 0, none⟩ : Addr).add j = ⟨g, j, none⟩ := by unfold Addr.add; split <;> simp_all
theorem NN.grown {W X : World} {g : Nat} {s : Bool} {A : Option Addr} {L c n : Nat} (hm : NN W A L c n) (hg : W.grownBy X (some g)) (hb : W.cell? ⟨g, 0, none⟩ = some (.bool s)) : NN X A L c n := by
 obtain ⟨h0, h1, h3⟩ := hm
 refine ⟨h0, h1, fun hL => ?_⟩
 obtain ⟨b2, rfl, hlt, hc⟩ := h3 hL
 have hne : b2 ≠ g := by
  rintro rfl
  have := hc 0 hL
  rw [hb] at this
  cases this
 exact ⟨b2, rfl, Nat.lt_of_lt_of_le hlt hg.size, fun j hj => (World.cell?_of_block (w := W) (hg.block b2 hlt (by simp; exact hne))).trans (hc j hj)⟩
theorem P2.grown {W X : World} {g : Nat} {s : Bool} {a : AD} {z : CN} (h : P2 W a z) (hg : W.grownBy X (some g)) (hb : W.cell? ⟨g, 0, none⟩ = some (.bool s)) : P2 X a z :=
 ⟨⟨h.n1.m1.grown hg hb, h.n1.m2.grown hg hb⟩, ⟨h.n2.m1.grown hg hb, h.n2.m2.grown hg hb⟩⟩
theorem P2.grown0 {W X : World} {a : AD} {z : CN} (h : P2 W a z) (hg : W.grownBy X none) : P2 X a z :=
 h.below ⟨hg.os, hg.tape, hg.output, hg.size, fun k hk => hg.block k hk (by simp)⟩
/-- The cells of the first k complex numbers. -/
def prL (z : Nat → CN) (a : Nat → AD) : Nat → List Value
 | 0 => []
 | k + 1 => prL z a k ++ pC (z k) (a k)
theorem prL_len (z : Nat → CN) (a : Nat → AD) : ∀ k, (prL z a k).length = k * 6
 | 0 => rfl
 | k + 1 => by rw [prL, List.length_append, prL_len z a k]; show _ + 6 = _; omega
theorem prL_congr {z : Nat → CN} {a b : Nat → AD} : ∀ k, (∀ j, j < k → a j = b j) → prL z a k = prL z b k
 | 0, _ => rfl
 | k + 1, h => by rw [prL, prL, prL_congr k (fun j hj => h j (by omega)), h k (by omega)]
/-- A row of complex numbers on the way. -/
structure RP (w W : World) (v : Value) (z : Nat → CN) (a : Nat → AD) (k : Nat) : Prop where
 own : W.ownsRow w.heap.size 148 6 v k (prL z a k)
 p : ∀ j, j < k → P2 W (a j) (z j)
 nil : k = 0 → v = .slice none 0 0
 bl : Below w.heap.size w W
theorem RP.below {w W X : World} {v : Value} {z : Nat → CN} {a : Nat → AD} {k : Nat} (h : RP w W v z a k) (hb : Below W.heap.size W X) : RP w X v z a k :=
 ⟨pw_own_below h.own hb, fun j hj => (h.p j hj).below hb, h.nil, h.bl.trans (hb.mono h.bl.size)⟩
theorem RP.row {w W : World} {v : Value} {z : Nat → CN} {a : Nat → AD} {k : Nat} (h : RP w W v z a k) (hk : 0 < k) : ∃ g cap, v = .slice (some ⟨g, 0, none⟩) k cap ∧ w.heap.size ≤ g ∧ g < W.heap.size ∧ ∀ j u, (prL z a k)[j]? = some u → W.cell? ⟨g, j, none⟩ = some u := by
 rcases h.own.2 with ⟨_, h0⟩ | ⟨g, cap, cur, hv, h1, h2, h3, h4, h5, h6⟩
 ·omega
 ·refine ⟨g, cap, hv, h1, (Array.getElem?_eq_some_iff.1 h2).1, fun j u hj => ?_⟩
  have := h.own.cells (g := g) (by rw [hv]; rfl) j u hj
  rwa [addr0] at this
theorem prL_head {z : Nat → CN} {a : Nat → AD} : ∀ k, 0 < k → (prL z a k)[0]? = some (.bool (z 0).s1)
 | 1, _ => rfl
 | k + 2, _ => by
   rw [prL, List.getElem?_append_left (by rw [prL_len]; omega)]
   exact prL_head (k + 1) (by omega)
/-- One more. -/
theorem RP.push {w W X : World} {v v' : Value} {z : Nat → CN} {a : Nat → AD} {k : Nat} {c : AD} (h : RP w W v z a k) (hc : P2 W c (z k)) (ho : X.ownsRow w.heap.size 148 6 v' (k + 1) (prL z a k ++ pC (z k) c)) (hg : W.grownBy X v.ownBlock) :
 RP w X v' z (fun j => if j = k then c else a j) (k + 1) := by
 have hp : ∀ {y : CN} {d : AD}, P2 W d y → P2 X d y := fun {y d} hd => by
  rcases Nat.eq_zero_or_pos k with h0 | h0
  ·have hv := h.nil h0
   subst hv
   exact hd.grown0 hg
  ·obtain ⟨g, cap, rfl, _, _, hcell⟩ := h.row h0
   exact hd.grown hg (hcell 0 _ (prL_head k h0))
 refine ⟨?_, fun j hj => ?_, fun h => absurd h (by omega), below_grownQ h.bl h.bl.size hg (own_baseQ h.own)⟩
 ·rw [prL, prL_congr (b := a) k (fun j hj => if_neg (by omega)), if_pos rfl]
  exact ho
 ·by_cases hjk : j = k
  ·rw [if_pos hjk, hjk]; exact hp hc
  ·rw [if_neg hjk]; exact hp (h.p j (by omega))
/-- The parts in memory: what parts answers. -/
structure PS (W : World) (g n : Nat) (z : Nat → CN) (a : Nat → AD) : Prop where
 lt : g < W.heap.size
 c : ∀ j, j < n → W.cell? ⟨g, 6 * j, none⟩ = some (.bool (z j).s1) ∧ W.cell? ⟨g, 6 * j + 1, none⟩ = some (.slice (a j).A1 (a j).L1 (a j).c1) ∧ W.cell? ⟨g, 6 * j + 2, none⟩ = some (.slice (a j).A2 (a j).L2 (a j).c2) ∧ W.cell? ⟨g, 6 * j + 3, none⟩ = some (.bool (z j).s2) ∧ W.cell? ⟨g, 6 * j + 4, none⟩ = some (.slice (a j).A3 (a j).L3 (a j).c3) ∧ W.cell? ⟨g, 6 * j + 5, none⟩ = some (.slice (a j).A4 (a j).L4 (a j).c4)
 p : ∀ j, j < n → P2 W (a j) (z j)
theorem PS.below {W X : World} {g n : Nat} {z : Nat → CN} {a : Nat → AD} (h : PS W g n z a) (hb : Below W.heap.size W X) : PS X g n z a :=
 ⟨Nat.lt_of_lt_of_le h.lt hb.size, fun j hj => by
  obtain ⟨h0, h1, h2, h3, h4, h5⟩ := h.c j hj
  exact ⟨(hb.cell (p := ⟨g, 6 * j, none⟩) h.lt).trans h0, (hb.cell (p := ⟨g, 6 * j + 1, none⟩) h.lt).trans h1, (hb.cell (p := ⟨g, 6 * j + 2, none⟩) h.lt).trans h2, (hb.cell (p := ⟨g, 6 * j + 3, none⟩) h.lt).trans h3, (hb.cell (p := ⟨g, 6 * j + 4, none⟩) h.lt).trans h4, (hb.cell (p := ⟨g, 6 * j + 5, none⟩) h.lt).trans h5⟩,
  fun j hj => (h.p j hj).below hb⟩
theorem prL_at {z : Nat → CN} {a : Nat → AD} {i : Nat} (hi : i < 6) : ∀ n j, j < n → (prL z a n)[6 * j + i]? = (pC (z j) (a j))[i]?
 | 0, j, h => absurd h (by omega)
 | n + 1, j, h => by
   rw [prL]
   rcases Nat.lt_or_eq_of_le (Nat.le_of_lt_succ h) with h1 | h1
   ·rw [List.getElem?_append_left (by rw [prL_len]; omega)]
    exact prL_at hi n j h1
   ·subst h1
    rw [List.getElem?_append_right (by rw [prL_len]; omega), prL_len]
    congr 1
    omega
theorem RP.ps {w W : World} {v : Value} {z : Nat → CN} {a : Nat → AD} {n : Nat} (h : RP w W v z a n) (hn : 0 < n) : ∃ g cap, v = .slice (some ⟨g, 0, none⟩) n cap ∧ PS W g n z a := by
 obtain ⟨g, cap, hv, h1, h2, h3⟩ := h.row hn
 refine ⟨g, cap, hv, h2, fun j hj => ?_, h.p⟩
 have k := fun i (hi : i < 6) => (prL_at (z := z) (a := a) hi n j hj)
 exact ⟨h3 _ _ (k 0 (by decide)), h3 _ _ (k 1 (by decide)), h3 _ _ (k 2 (by decide)), h3 _ _ (k 3 (by decide)), h3 _ _ (k 4 (by decide)), h3 _ _ (k 5 (by decide))⟩
def zS (x y : Nat → ByteArray) (j : Nat) : CN := ofS (x j) (y j)
theorem six_cells (V : World) (t : TypeId) (v0 v1 v2 v3 v4 v5 : Value) : ∀ j u, [v0, v1, v2, v3, v4, v5][j]? = some u → (V.alloc (.cells #[v0, v1, v2, v3, v4, v5] t)).cell? ((⟨V.heap.size, 0, none⟩ : Addr).add j) = some u := by
 intro j u hj
 match j with
 | 0 | 1 | 2 | 3 | 4 | 5 => simp at hj; subst hj; simp [Addr.add]
 | j + 6 => simp at hj
theorem six_one (z : CN) (a : AD) : ∀ u ∈ pC z a, u.oneCell' = true := by
 intro u hu
 unfold pC at hu
 simp only [List.mem_cons, List.not_mem_nil, or_false] at hu
 rcases hu with rfl | rfl | rfl | rfl | rfl | rfl <;> rfl
theorem mapPair_calls {w : World} {g n c : Nat} {x y : Nat → ByteArray} (hX : XS w g n x y) (hn : n ≤ 2) (h0 : 0 < n) (hs : ∀ j, (x j).size ≤ 10000 ∧ (y j).size ≤ 10000) (hk : ∀ j, j < n → ckX (x j) (y j) = 0) (hE : EN w) :
 Calls Tryz.prog 171 #[.slice (some ⟨g, 0, none⟩) n c, .func (.func 172) #[] #[]] w fun e w' => ∃ b cap a, e = .returned (.slice (some ⟨b, 0, none⟩) n cap) ∧ PS w' b n (zS x y) a ∧ Below w.heap.size w w' := by
 have HX := Aside0.mk hX
 have HK : Aside0 (∀ j, j < n → ∀ W, Below w.heap.size w W → Calls Tryz.prog 172 #[.agg #[.string (x j), .string (y j)]] W fun e w' => ∃ a, e = .returned (aV (zS x y j) a) ∧ P2 w' a (zS x y j) ∧ Below W.heap.size W w') := ⟨fun j hj W hb => partsF_calls _ _ (hs j).1 (hs j).2 (hk j hj) W (hE.below hb)⟩
 obtain ⟨info0, hi0, hz0, hz1, hz2⟩ := info_parts pairInfo
 clear hX hs hE hk
 go_enter Tryz.func171, Tryz.ntmps171
 go_wp2_with fail
 go_loopw [5, 10] (fun v5 v10 W => ∃ (i : Nat) (a : Nat → AD), v10 = .int .i64 (i : Int) ∧ i ≤ n ∧ Aside0 (RP w W v5 (zS x y) a i)) (fun _ v10 _ => n - (intOf v10).toNat)
 case atStart => exact ⟨0, fun _ => zA, rfl, Nat.zero_le _, ⟨⟨World.ownsRow_nil _ _ _ _, fun j hj => by omega, fun _ => rfl, Below.refl _ _⟩⟩⟩
 case round =>
  obtain ⟨i, a, rfl, hi, HR⟩ := hrel
  by_cases hlt : i < n
  ·obtain rfl | rfl : i = 0 ∨ i = 1 := by omega
   ·skip
    have q0 := (HX.out.below HR.out.bl).c0 0 hlt
    have q1 := (HX.out.below HR.out.bl).c1 0 hlt
    simp only [Nat.reduceMul, Nat.reduceAdd] at q0 q1
    have hgl : g < wr.heap.size := Nat.lt_of_lt_of_le HX.out.lt HR.out.bl.size
    have HCK := Aside0.mk (HK.out 0 hlt)
    have hlt' : ((0 : Int) < (n : Int)) := by omega
    obtain ⟨xx, hxx⟩ : ∃ xx, x 0 = xx := ⟨_, rfl⟩
    obtain ⟨yy, hyy⟩ : ∃ yy, y 0 = yy := ⟨_, rfl⟩
    obtain ⟨zz, hzz⟩ : ∃ zz, zS x y 0 = zz := ⟨_, rfl⟩
    have HZZ := Aside0.mk hzz
    rw [hxx, hyy, hzz] at HCK
    rw [hxx] at q0
    rw [hyy] at q1
    clear hzz hxx hyy
    have HBA : Aside0 (Below w.heap.size w (wr.alloc (.cells #[.string xx, .string yy] 57))) := ⟨below_alloc HR.out.bl _⟩
    go_wp2_with (first | (go_at_call 172; (with_reducible refine (HCK.out _ HBA.out).mono ?_); rintro e V1 ⟨ad, rfl, hp, hb1⟩; have HR3 := Aside0.mk ((HR.out.below (below_alloc (Below.refl _ _) (.cells #[.string xx, .string yy] 57))).below hb1); have HP3 := Aside0.mk hp; have HSZ := Aside0.mk (HBA.out.trans (hb1.mono HBA.out.size)).size; clear hb1 hp) | ((with_reducible refine gate_builtin (b := .append) (xs := #[.tmp 14, .tmp 18]) rfl ?_); at_builtin; (refine wpList_append_own _ rfl (.tmp 14) (.tmp 18) 158 rfl w.heap.size 148 info0 (.agg #[.bool false, .slice none 0 0, .slice none 0 0, .bool false, .slice none 0 0, .slice none 0 0]) 6 112 Tryz.underlying158 hi0 hz0 hz1 hz2 rfl (by decide) u5 0 (prL (zS x y) a 0) rfl (HR3.out.below (below_alloc (Below.refl _ _) (.cells #[.bool zz.s1, .slice ad.A1 ad.L1 ad.c1, .slice ad.A2 ad.L2 ad.c2, .bool zz.s2, .slice ad.A3 ad.L3 ad.c3, .slice ad.A4 ad.L4 ad.c4] 148))).own ⟨V1.heap.size, 0, none⟩ 1 1 (pC zz ad) rfl rfl (six_cells V1 148 _ _ _ _ _ _) (six_one zz ad) (by decide) (by decide) (Nat.le_trans HSZ.out (by simp)) ?_); intro v2 V2 ho2 hg2 _; have HO2 := Aside0.mk (And.intro ho2 hg2); clear ho2 hg2))
    have HR4 := Aside0.mk ((HR3.out.below (below_alloc (Below.refl _ _) (.cells #[.bool zz.s1, .slice ad.A1 ad.L1 ad.c1, .slice ad.A2 ad.L2 ad.c2, .bool zz.s2, .slice ad.A3 ad.L3 ad.c3, .slice ad.A4 ad.L4 ad.c4] 148))).push (by rw [HZZ.out]; exact HP3.out.below (below_alloc (Below.refl _ _) _)) (by rw [HZZ.out]; exact HO2.out.1) HO2.out.2)
    go_roundw
    case rel => exact ⟨1, _, by first | rfl | go_num, by omega, HR4⟩
    case measure => simp [intOf]; omega
   ·skip
    have q0 := (HX.out.below HR.out.bl).c0 1 hlt
    have q1 := (HX.out.below HR.out.bl).c1 1 hlt
    simp only [Nat.reduceMul, Nat.reduceAdd] at q0 q1
    have hgl : g < wr.heap.size := Nat.lt_of_lt_of_le HX.out.lt HR.out.bl.size
    have HCK := Aside0.mk (HK.out 1 hlt)
    have hlt' : ((1 : Int) < (n : Int)) := by omega
    obtain ⟨xx, hxx⟩ : ∃ xx, x 1 = xx := ⟨_, rfl⟩
    obtain ⟨yy, hyy⟩ : ∃ yy, y 1 = yy := ⟨_, rfl⟩
    obtain ⟨zz, hzz⟩ : ∃ zz, zS x y 1 = zz := ⟨_, rfl⟩
    have HZZ := Aside0.mk hzz
    rw [hxx, hyy, hzz] at HCK
    rw [hxx] at q0
    rw [hyy] at q1
    clear hzz hxx hyy
    have HBA : Aside0 (Below w.heap.size w (wr.alloc (.cells #[.string xx, .string yy] 57))) := ⟨below_alloc HR.out.bl _⟩
    go_wp2_with (first | (go_at_call 172; (with_reducible refine (HCK.out _ HBA.out).mono ?_); rintro e V1 ⟨ad, rfl, hp, hb1⟩; have HR3 := Aside0.mk ((HR.out.below (below_alloc (Below.refl _ _) (.cells #[.string xx, .string yy] 57))).below hb1); have HP3 := Aside0.mk hp; have HSZ := Aside0.mk (HBA.out.trans (hb1.mono HBA.out.size)).size; clear hb1 hp) | ((with_reducible refine gate_builtin (b := .append) (xs := #[.tmp 14, .tmp 18]) rfl ?_); at_builtin; (refine wpList_append_own _ rfl (.tmp 14) (.tmp 18) 158 rfl w.heap.size 148 info0 (.agg #[.bool false, .slice none 0 0, .slice none 0 0, .bool false, .slice none 0 0, .slice none 0 0]) 6 112 Tryz.underlying158 hi0 hz0 hz1 hz2 rfl (by decide) u5 1 (prL (zS x y) a 1) rfl (HR3.out.below (below_alloc (Below.refl _ _) (.cells #[.bool zz.s1, .slice ad.A1 ad.L1 ad.c1, .slice ad.A2 ad.L2 ad.c2, .bool zz.s2, .slice ad.A3 ad.L3 ad.c3, .slice ad.A4 ad.L4 ad.c4] 148))).own ⟨V1.heap.size, 0, none⟩ 1 1 (pC zz ad) rfl rfl (six_cells V1 148 _ _ _ _ _ _) (six_one zz ad) (by decide) (by decide) (Nat.le_trans HSZ.out (by simp)) ?_); intro v2 V2 ho2 hg2 _; have HO2 := Aside0.mk (And.intro ho2 hg2); clear ho2 hg2))
    have HR4 := Aside0.mk ((HR3.out.below (below_alloc (Below.refl _ _) (.cells #[.bool zz.s1, .slice ad.A1 ad.L1 ad.c1, .slice ad.A2 ad.L2 ad.c2, .bool zz.s2, .slice ad.A3 ad.L3 ad.c3, .slice ad.A4 ad.L4 ad.c4] 148))).push (by rw [HZZ.out]; exact HP3.out.below (below_alloc (Below.refl _ _) _)) (by rw [HZZ.out]; exact HO2.out.1) HO2.out.2)
    go_roundw
    case rel => exact ⟨2, _, by first | rfl | go_num, by omega, HR4⟩
    case measure => simp [intOf]; omega
  ·obtain rfl : i = n := by omega
   obtain ⟨b, cap, rfl, hps⟩ := HR.out.ps h0
   have HPS := Aside0.mk hps
   clear hps
   go_wp2
   go_ret
   exact ⟨_, _, _, rfl, HPS.out, HR.out.bl⟩
/-- The first error of some exact numbers. -/
def erF (x y : Nat → ByteArray) (n : Nat) : Int := firstI ((List.range n).map fun j => ckX (x j) (y j))
theorem mapErr2 {w : World} {g n c : Nat} {x y : Nat → ByteArray} (hX : XS w g n x y) (hn : n ≤ 2) (h0 : 0 < n) (hs : ∀ j, (x j).size ≤ 10000 ∧ (y j).size ≤ 10000) (hE : EN w) :
 Calls Tryz.prog 170 #[.slice (some ⟨g, 0, none⟩) n c, .func (.func 50) #[] #[]] w fun e w' => ∃ g1 cap1, e = .returned (.slice (some ⟨g1, 0, none⟩) n cap1) ∧ (Calls Tryz.prog 108 #[.slice (some ⟨g1, 0, none⟩) n cap1] w' fun e w'' => e = .returned (.int .i64 (erF x y n)) ∧ w'' = w') ∧ Below w.heap.size w w' := by
 refine (mapErr_calls hX hn hs hE).mono ?_
 rintro e w' ⟨v, rfl, ho, hb⟩
 rcases ho.2 with ⟨_, h1⟩ | ⟨g1, cap, cur, hv, h1, h2, h3, h4, h5, h6⟩
 ·omega
 ·subst hv
  refine ⟨g1, cap, rfl, qfirst_calls _ (by simp) (by omega) (fun j hj => ?_) cap, hb⟩
  have := ho.cells (g := g1) rfl j (.int .i64 (ckX (x j) (y j))) (by unfold erL; simp [hj])
  rw [addr0] at this
  rw [this]
  simp [List.getD_eq_getElem?_getD, hj]
theorem parts_good {w : World} {g n c : Nat} {x y : Nat → ByteArray} (hX : XS w g n x y) (hn : n ≤ 2) (h0 : 0 < n) (hs : ∀ j, (x j).size ≤ 10000 ∧ (y j).size ≤ 10000) (hk : ∀ j, j < n → ckX (x j) (y j) = 0) (hE : EN w) :
 Calls Tryz.prog 113 #[.slice (some ⟨g, 0, none⟩) n c] w fun e w' => ∃ b cap a, e = .returned (.tuple #[.slice (some ⟨b, 0, none⟩) n cap, .int .i64 0]) ∧ PS w' b n (zS x y) a ∧ Below w.heap.size w w' := by
 have hz : erF x y n = 0 := by
  unfold erF
  have e : (List.range n).map (fun j => ckX (x j) (y j)) = (List.range n).map (fun _ => (0 : Int)) := List.map_congr_left (fun j hj => hk j (List.mem_range.1 hj))
  rw [e]
  obtain rfl | rfl : n = 1 ∨ n = 2 := by omega
  ·rfl
  ·rfl
 have HM := Aside0.mk (mapErr2 (c := c) hX hn h0 hs hE)
 rw [hz] at HM
 have HP : Aside0 (∀ W, Below w.heap.size w W → Calls Tryz.prog 171 #[.slice (some ⟨g, 0, none⟩) n c, .func (.func 172) #[] #[]] W fun e w' => ∃ b cap a, e = .returned (.slice (some ⟨b, 0, none⟩) n cap) ∧ PS w' b n (zS x y) a ∧ Below W.heap.size W w') := ⟨fun W hb => mapPair_calls (hX.below hb) hn h0 hs hk (hE.below hb)⟩
 clear hX hs hk hE hz
 go_enter Tryz.func113, Tryz.ntmps113
 go_wp2_with (first | (go_at_call 170; (with_reducible refine HM.out.mono ?_); rintro e W1 ⟨g1, cap1, rfl, hf, hb1⟩; have HF := Aside0.mk hf; have HB1 := Aside0.mk hb1; clear hf hb1) | (go_at_call 108; (with_reducible refine (HF.out).mono ?_); rintro e W2 ⟨rfl, hww⟩; rw [hww]; clear hww W2) | (go_at_call 171; (with_reducible refine (HP.out _ HB1.out).mono ?_); rintro e W3 ⟨b3, cap3, a3, rfl, hps, hb3⟩; have HPS := Aside0.mk hps; have HB3 := Aside0.mk (HB1.out.trans (hb3.mono HB1.out.size)); clear hps hb3))
 go_ret2
 exact ⟨_, _, _, rfl, HPS.out, HB3.out⟩
theorem parts_bad {w : World} {g n c : Nat} {x y : Nat → ByteArray} (hX : XS w g n x y) (hn : n ≤ 2) (h0 : 0 < n) (hs : ∀ j, (x j).size ≤ 10000 ∧ (y j).size ≤ 10000) (hk : erF x y n ≠ 0) (hE : EN w) :
 Calls Tryz.prog 113 #[.slice (some ⟨g, 0, none⟩) n c] w fun e w' => e = .returned (.tuple #[.slice none 0 0, .int .i64 (erF x y n)]) ∧ Below w.heap.size w w' := by
 have HM := Aside0.mk (mapErr2 (c := c) hX hn h0 hs hE)
 have hne : (erF x y n != 0) = true := by simp [hk]
 generalize erF x y n = k at *
 clear hX hs hk hE
 go_enter Tryz.func113, Tryz.ntmps113
 go_wp2_with (first | (go_at_call 170; (with_reducible refine HM.out.mono ?_); rintro e W1 ⟨g1, cap1, rfl, hf, hb1⟩; have HF := Aside0.mk hf; have HB1 := Aside0.mk hb1; clear hf hb1) | (go_at_call 108; (with_reducible refine (HF.out).mono ?_); rintro e W2 ⟨rfl, hww⟩; rw [hww]; clear hww W2))
 go_ret2
 exact ⟨rfl, HB1.out⟩
def two (a b : ByteArray) (j : Nat) : ByteArray := if j = 0 then a else b
theorem two_sz {a b : ByteArray} {k : Nat} (ha : a.size ≤ k) (hb : b.size ≤ k) (j : Nat) : (two a b j).size ≤ k := by unfold two; split <;> assumption
theorem xs_one (W : World) (x y : ByteArray) : XS (W.alloc (.cells #[.string x, .string y] 57)) W.heap.size 1 (two x x) (two y y) :=
 ⟨by simp, fun j hj => by obtain rfl : j = 0 := (by omega); simp [two], fun j hj => by obtain rfl : j = 0 := (by omega); simp [two]⟩
theorem xs_two (W : World) (x y x2 y2 : ByteArray) : XS (W.alloc (.cells #[.string x, .string y, .string x2, .string y2] 57)) W.heap.size 2 (two x x2) (two y y2) :=
 ⟨by simp, fun j hj => by obtain rfl | rfl : j = 0 ∨ j = 1 := (by omega) <;> simp [two], fun j hj => by obtain rfl | rfl : j = 0 ∨ j = 1 := (by omega) <;> simp [two]⟩
/-- What Norm answers. -/
def noE (x y : ByteArray) : Int := if ckX x y = 0 then rsE (sgI (nmS (ofS x y)) (nmP (ofS x y))) (nmQ (ofS x y)) else ckX x y
def noS (x y : ByteArray) : ByteArray := if ckX x y = 0 then rsS (sgI (nmS (ofS x y)) (nmP (ofS x y))) (nmQ (ofS x y)) else ⟨#[]⟩
theorem parts1_good {w : World} {x y : ByteArray} (hx : x.size ≤ 10000) (hy : y.size ≤ 10000) (h : ckX x y = 0) (hE : EN w) (b0 : Nat) (hb : b0 = w.heap.size + 1) (t : TypeId) (ht : t = 57) :
 Calls Tryz.prog 113 #[.slice (some ⟨b0, 0, none⟩) 1 1] ((w.alloc (.cells #[.string x, .string y] 57)).alloc (.cells #[.string x, .string y] t)) fun e w' => ∃ b cap a, e = .returned (.tuple #[.slice (some ⟨b, 0, none⟩) 1 cap, .int .i64 0]) ∧ PS w' b 1 (zS (two x x) (two y y)) a ∧ Below w.heap.size w w' := by
 subst hb ht
 have hb1 := below_alloc (Below.refl w.heap.size w) (.cells #[.string x, .string y] 57)
 have hX := xs_one (w.alloc (.cells #[.string x, .string y] 57)) x y
 rw [show (w.alloc (.cells #[.string x, .string y] 57)).heap.size = w.heap.size + 1 by simp] at hX
 have hb2 := below_alloc hb1 (.cells #[.string x, .string y] 57)
 refine (parts_good (c := 1) hX (by decide) (by decide) (fun j => ⟨two_sz hx hx j, two_sz hy hy j⟩) (fun j hj => by obtain rfl : j = 0 := (by omega); exact h) (hE.below hb2)).mono ?_
 rintro e w' ⟨b, cap, a, rfl, hp, hb3⟩
 exact ⟨b, cap, a, rfl, hp, hb2.trans (hb3.mono hb2.size)⟩
theorem parts1_bad {w : World} {x y : ByteArray} (hx : x.size ≤ 10000) (hy : y.size ≤ 10000) (h : ckX x y ≠ 0) (hE : EN w) (b0 : Nat) (hb : b0 = w.heap.size + 1) (t : TypeId) (ht : t = 57) :
 Calls Tryz.prog 113 #[.slice (some ⟨b0, 0, none⟩) 1 1] ((w.alloc (.cells #[.string x, .string y] 57)).alloc (.cells #[.string x, .string y] t)) fun e w' => e = .returned (.tuple #[.slice none 0 0, .int .i64 (ckX x y)]) ∧ Below w.heap.size w w' := by
 subst hb ht
 have hb1 := below_alloc (Below.refl w.heap.size w) (.cells #[.string x, .string y] 57)
 have hX := xs_one (w.alloc (.cells #[.string x, .string y] 57)) x y
 rw [show (w.alloc (.cells #[.string x, .string y] 57)).heap.size = w.heap.size + 1 by simp] at hX
 have hb2 := below_alloc hb1 (.cells #[.string x, .string y] 57)
 have he : erF (two x x) (two y y) 1 = ckX x y := by
  show firstI [ckX (two x x 0) (two y y 0)] = _
  show (if ckX x y = 0 then 0 else ckX x y) = _
  split <;> omega
 refine (parts_bad (c := 1) hX (by decide) (by decide) (fun j => ⟨two_sz hx hx j, two_sz hy hy j⟩) (by rw [he]; exact h) (hE.below hb2)).mono ?_
 rintro e w' ⟨rfl, hb3⟩
 rw [he]
 exact ⟨rfl, hb2.trans (hb3.mono hb2.size)⟩
theorem normX_calls (x y : ByteArray) (hx : x.size ≤ 10000) (hy : y.size ≤ 10000) (w : World) (hE : EN w) :
 Calls Tryz.prog 45 #[.agg #[.string x, .string y]] w fun e w' => e = .returned (.tuple #[.string (noS x y), .int .i64 (noE x y)]) ∧ Below w.heap.size w w' := by
 unfold noS noE
 by_cases h : ckX x y = 0
 ·rw [if_pos h, if_pos h]
  have HPA := Aside0.mk (parts1_good hx hy h hE)
  have hok := ofS_ok h
  obtain ⟨n1, n2, n3⟩ := nm_sz hok 2000 (by omega)
  have HNM : Aside0 (∀ W a, P2 W a (ofS x y) → Calls Tryz.prog 114 #[aV (ofS x y) a] W fun e w' => QX W (nmS (ofS x y)) (nmP (ofS x y)) (nmQ (ofS x y)) e w') := ⟨fun W a hp => norm_calls hp (hok.more (by omega))⟩
  have HT : Aside0 (∀ W, Below w.heap.size w W → ∀ {A1 L1 c1 A2 L2 c2}, N2 W A1 L1 c1 (nmP (ofS x y)) A2 L2 c2 (nmQ (ofS x y)) → Calls Tryz.prog 81 #[qV (nmS (ofS x y)) A1 L1 c1 A2 L2 c2] W fun e w' => e = .returned (.tuple #[.string (rsS (sgI (nmS (ofS x y)) (nmP (ofS x y))) (nmQ (ofS x y))), .int .i64 (rsE (sgI (nmS (ofS x y)) (nmP (ofS x y))) (nmQ (ofS x y)))]) ∧ Below W.heap.size W w') := ⟨fun W hb A1 L1 c1 A2 L2 c2 hn => qText_rs hn (n1.more (by omega)) (n2.more (by omega)) n3 (hE.below hb)⟩
  clear h hx hy hok n1 n2 n3 hE
  have e0 : zS (two x x) (two y y) 0 = ofS x y := rfl
  unfold QX qV at *
  generalize rsS (sgI (nmS (ofS x y)) (nmP (ofS x y))) (nmQ (ofS x y)) = T at *
  generalize rsE (sgI (nmS (ofS x y)) (nmP (ofS x y))) (nmQ (ofS x y)) = TE at *
  generalize nmS (ofS x y) = s at *
  generalize nmP (ofS x y) = p at *
  generalize nmQ (ofS x y) = q at *
  generalize zS (two x x) (two y y) = zz at *
  generalize ofS x y = z at *
  subst e0
  go_enter Tryz.func45, Tryz.ntmps45
  go_wp2_with (first | (go_at_call 113; go_loud (with_reducible refine (HPA.out _ rfl _ rfl).mono ?_); rintro e W1 ⟨b, cap, ad, rfl, hps, hb1⟩; have HPS := Aside0.mk hps; have HB1 := Aside0.mk hb1; obtain ⟨q0, q1, q2, q3, q4, q5⟩ := hps.c 0 (by decide); have hbl := hps.lt; clear hps hb1) | (go_at_call 114; go_loud (with_reducible refine (HNM.out _ _ (HPS.out.p 0 (by decide))).mono ?_); rintro e W2 ⟨A1, k1, c1, A2, k2, c2, rfl, hn, hb2⟩; have HN := Aside0.mk hn; have HB2 := Aside0.mk (HB1.out.trans (hb2.mono HB1.out.size)); clear hn hb2) | (go_at_call 81; go_loud (with_reducible refine (HT.out _ HB2.out HN.out).mono ?_); rintro e W3 ⟨rfl, hb3⟩; have HB3 := Aside0.mk (HB2.out.trans (hb3.mono HB2.out.size)); clear hb3))
  go_ret2
  exact ⟨rfl, HB3.out⟩
 ·rw [if_neg h, if_neg h]
  have HPA := Aside0.mk (parts1_bad hx hy h hE)
  have hne : (ckX x y != 0) = true := by simp [h]
  generalize ckX x y = k at *
  clear h hx hy hE
  go_enter Tryz.func45, Tryz.ntmps45
  go_wp2_with (first | (go_at_call 113; go_loud (with_reducible refine (HPA.out _ rfl _ rfl).mono ?_); rintro e W1 ⟨rfl, hb1⟩; have HB1 := Aside0.mk hb1; clear hb1))
  go_ret2
  exact ⟨rfl, HB1.out⟩
theorem parts2_good {W : World} {x y x2 y2 : ByteArray} (hx : x.size ≤ 10000) (hy : y.size ≤ 10000) (hx2 : x2.size ≤ 10000) (hy2 : y2.size ≤ 10000) (h : ckX x y = 0) (h2 : ckX x2 y2 = 0) (hE : EN W) (b0 : Nat) (hb : b0 = W.heap.size) (t : TypeId) (ht : t = 57) :
 Calls Tryz.prog 113 #[.slice (some ⟨b0, 0, none⟩) 2 2] (W.alloc (.cells #[.string x, .string y, .string x2, .string y2] t)) fun e w' => ∃ b cap a, e = .returned (.tuple #[.slice (some ⟨b, 0, none⟩) 2 cap, .int .i64 0]) ∧ PS w' b 2 (zS (two x x2) (two y y2)) a ∧ Below W.heap.size W w' := by
 subst hb ht
 have hb2 := below_alloc (Below.refl W.heap.size W) (.cells #[.string x, .string y, .string x2, .string y2] 57)
 refine (parts_good (c := 2) (xs_two W x y x2 y2) (by decide) (by decide) (fun j => ⟨two_sz hx hx2 j, two_sz hy hy2 j⟩) (fun j hj => by obtain rfl | rfl : j = 0 ∨ j = 1 := (by omega); exact h; exact h2) (hE.below hb2)).mono ?_
 rintro e w' ⟨b, cap, a, rfl, hp, hb3⟩
 exact ⟨b, cap, a, rfl, hp, hb2.trans (hb3.mono hb2.size)⟩
/-- Own variables of an operation on two exact numbers. -/
structure DV (w : World) (a1 a2 b1 b2 : ByteArray) (W : World) : Prop where
 e1 : EF W w.heap.size a1 a2
 e2 : EF W (w.heap.size + 1) b1 b2
 e3 : EF W (w.heap.size + 2) ⟨#[]⟩ ⟨#[]⟩
 bl : Below w.heap.size w W
abbrev dvW (w : World) (a1 a2 b1 b2 : ByteArray) : World := ((w.alloc (.cells #[.string a1, .string a2] 57)).alloc (.cells #[.string b1, .string b2] 57)).alloc (.cells #[.string ⟨#[]⟩, .string ⟨#[]⟩] 57)
theorem dv_start {w : World} {a1 a2 b1 b2 : ByteArray} : DV w a1 a2 b1 b2 (dvW w a1 a2 b1 b2) := by
 have b1' := below_alloc (Below.refl w.heap.size w) (.cells #[.string a1, .string a2] 57)
 have h1 : EF (w.alloc (.cells #[.string a1, .string a2] 57)) w.heap.size a1 a2 := heap_alloc_new w _
 unfold dvW
 obtain ⟨X, hX⟩ : ∃ X, w.alloc (.cells #[.string a1, .string a2] 57) = X := ⟨_, rfl⟩
 have hs : X.heap.size = w.heap.size + 1 := by subst hX; simp
 rw [hX] at b1' h1 ⊢
 have b2' := below_alloc (Below.refl X.heap.size X) (.cells #[.string b1, .string b2] 57)
 have h2 : EF (X.alloc (.cells #[.string b1, .string b2] 57)) X.heap.size b1 b2 := heap_alloc_new X _
 have hs2 : (X.alloc (.cells #[.string b1, .string b2] 57)).heap.size = w.heap.size + 2 := by simp [hs]
 generalize X.alloc (.cells #[.string b1, .string b2] 57) = Y at *
 have b3' := below_alloc (Below.refl Y.heap.size Y) (.cells #[.string ⟨#[]⟩, .string ⟨#[]⟩] 57)
 have h3 : EF (Y.alloc (.cells #[.string ⟨#[]⟩, .string ⟨#[]⟩] 57)) Y.heap.size ⟨#[]⟩ ⟨#[]⟩ := heap_alloc_new Y _
 rw [hs2] at h3
 rw [hs] at h2
 exact ⟨(h1.below b2').below b3', h2.below b3', h3, (b1'.trans (b2'.mono (by omega))).trans (b3'.mono (by omega))⟩
theorem DV.below {w W X : World} {a1 a2 b1 b2 : ByteArray} (h : DV w a1 a2 b1 b2 W) (hb : Below W.heap.size W X) : DV w a1 a2 b1 b2 X := ⟨h.e1.below hb, h.e2.below hb, h.e3.below hb, h.bl.trans (hb.mono h.bl.size)⟩
theorem DV.fin {w W : World} {a1 a2 b1 b2 : ByteArray} (h : DV w a1 a2 b1 b2 W) (x y : ByteArray) : EF ((W.setCell ⟨w.heap.size + 2, 0, none⟩ (.string x)).setCell ⟨w.heap.size + 2, 1, none⟩ (.string y)) (w.heap.size + 2) x y ∧ Below w.heap.size w ((W.setCell ⟨w.heap.size + 2, 0, none⟩ (.string x)).setCell ⟨w.heap.size + 2, 1, none⟩ (.string y)) :=
 ⟨h.e3.put x y, (h.bl.setCell (p := ⟨w.heap.size + 2, 0, none⟩) (show w.heap.size ≤ w.heap.size + 2 by omega) _).setCell (p := ⟨w.heap.size + 2, 1, none⟩) (show w.heap.size ≤ w.heap.size + 2 by omega) _⟩
theorem ps_ne {W : World} {b c n : Nat} {z : Nat → CN} {a : Nat → AD} {x y : ByteArray} (h : PS W b n z a) (hn : 0 < n) (he : EF W c x y) : b ≠ c := by
 rintro rfl
 have := (h.c 0 hn).1
 rw [show 6 * 0 = 0 from rfl, he.cell0] at this
 cases this
theorem mulX_good {a1 a2 b1 b2 : ByteArray} (ha1 : a1.size ≤ 10000) (ha2 : a2.size ≤ 10000) (hb1 : b1.size ≤ 10000) (hb2 : b2.size ≤ 10000) (h1 : ckX a1 a2 = 0) (h2 : ckX b1 b2 = 0) (w : World) (hE : EN w) :
 Calls Tryz.prog 43 #[.agg #[.string a1, .string a2], .agg #[.string b1, .string b2]] w fun e w' => EO w (mulC (ofS a1 a2) (ofS b1 b2)) e w' := by
 have HPX : Aside0 (∀ W, Below w.heap.size w W → _) := ⟨fun W hb => parts2_good ha1 ha2 hb1 hb2 h1 h2 (hE.below hb)⟩
 have k1 := ofS_ok h1
 have k2 := ofS_ok h2
 have HTI : Aside0 (∀ W a c, P2 W a (ofS a1 a2) → P2 W c (ofS b1 b2) → Calls Tryz.prog 109 #[aV (ofS a1 a2) a, aV (ofS b1 b2) c] W fun e w' => PX W (mulC (ofS a1 a2) (ofS b1 b2)) e w') := ⟨fun W a c p q => pTimes_calls p q (k1.more (by omega)) (k2.more (by omega))⟩
 have hok := mulC_ok k1 (k2.more (Nat.le_refl _)) 2000 (by omega)
 have HEX : Aside0 (∀ W a, Below w.heap.size w W → P2 W a (mulC (ofS a1 a2) (ofS b1 b2)) → Calls Tryz.prog 105 #[aV (mulC (ofS a1 a2) (ofS b1 b2)) a] W fun e w' => EO W (mulC (ofS a1 a2) (ofS b1 b2)) e w') := ⟨fun W a hb p => exact_calls p (hok.more (by omega)) (hE.below hb)⟩
 have HZ0 : Aside0 (zS (two a1 b1) (two a2 b2) 0 = ofS a1 a2 ∧ zS (two a1 b1) (two a2 b2) 1 = ofS b1 b2) := ⟨rfl, rfl⟩
 clear ha1 ha2 hb1 hb2 h1 h2 hE k1 k2 hok
 unfold PX EO at *
 generalize mulC (ofS a1 a2) (ofS b1 b2) = r at *
 generalize ofS a1 a2 = z at *
 generalize ofS b1 b2 = y at *
 generalize zS (two a1 b1) (two a2 b2) = zz at *
 generalize exA r = t1 at *
 generalize exB r = t2 at *
 generalize exR r = te at *
 go_enter Tryz.func43, Tryz.ntmps43
 go_upto_region 1 with fail
 obtain ⟨W0, hW0⟩ : ∃ W0, dvW w a1 a2 b1 b2 = W0 := ⟨_, rfl⟩
 have HO := Aside0.mk (dv_start (w := w) (a1 := a1) (a2 := a2) (b1 := b1) (b2 := b2))
 have HPA := Aside0.mk (HPX.out (dvW w a1 a2 b1 b2) HO.out.bl)
 unfold dvW at hW0 HO HPA
 rw [hW0] at HO HPA ⊢
 clear hW0 HPX
 have p0 := HO.out.e1.cell0
 have p1 := HO.out.e1.cell1
 have p2 := HO.out.e2.cell0
 have p3 := HO.out.e2.cell1
 go_upto_region 4 with (go_at_call 113; (with_reducible refine (HPA.out _ rfl _ rfl).mono ?_); rintro e W1 ⟨b, cap, ad, rfl, hps, hb1⟩; have HPS := Aside0.mk hps; have HO1 := Aside0.mk (HO.out.below hb1); clear hps hb1)
 obtain ⟨a, ha⟩ : ∃ a, ad 0 = a := ⟨_, rfl⟩
 obtain ⟨c, hc⟩ : ∃ c, ad 1 = c := ⟨_, rfl⟩
 have HQ : Aside0 (P2 W1 a z ∧ P2 W1 c y ∧ b < W1.heap.size ∧ b ≠ w.heap.size + 2) := ⟨by
  have q0 := HPS.out.p 0 (by decide)
  have q1 := HPS.out.p 1 (by decide)
  rw [HZ0.out.1, ha] at q0
  rw [HZ0.out.2, hc] at q1
  exact ⟨q0, q1, HPS.out.lt, ps_ne HPS.out (by decide) HO1.out.e3⟩⟩
 have KP : Aside0 (∀ V, Below W1.heap.size W1 V → (fun V => (V.cell? ⟨b, 0, none⟩ = some (.bool z.s1) ∧ V.cell? ⟨b, 1, none⟩ = some (.slice a.A1 a.L1 a.c1) ∧ V.cell? ⟨b, 2, none⟩ = some (.slice a.A2 a.L2 a.c2) ∧ V.cell? ⟨b, 3, none⟩ = some (.bool z.s2) ∧ V.cell? ⟨b, 4, none⟩ = some (.slice a.A3 a.L3 a.c3) ∧ V.cell? ⟨b, 5, none⟩ = some (.slice a.A4 a.L4 a.c4)) ∧ (V.cell? ⟨b, 6, none⟩ = some (.bool y.s1) ∧ V.cell? ⟨b, 7, none⟩ = some (.slice c.A1 c.L1 c.c1) ∧ V.cell? ⟨b, 8, none⟩ = some (.slice c.A2 c.L2 c.c2) ∧ V.cell? ⟨b, 9, none⟩ = some (.bool y.s2) ∧ V.cell? ⟨b, 10, none⟩ = some (.slice c.A3 c.L3 c.c3) ∧ V.cell? ⟨b, 11, none⟩ = some (.slice c.A4 c.L4 c.c4))) V) := ⟨fun V hb => by
  have q0 := (HPS.out.below hb).c 0 (by decide)
  have q1 := (HPS.out.below hb).c 1 (by decide)
  rw [HZ0.out.1, ha] at q0
  rw [HZ0.out.2, hc] at q1
  exact ⟨q0, q1⟩⟩
 have HNE := Aside0.mk HQ.out.2.2.2
 clear HPS ha hc HZ0 HO HPA p0 p1 p2 p3
 rename_i Q' K hK
 refine wq KP fun hHeld => ?_
 refine tp 0 ?_
 try simp only [PU]
 refine tp 1 ?_
 try simp only [PU]
 refine tp 2 ?_
 try simp only [PU]
 refine tp 3 ?_
 try simp only [PU]
 refine tp 4 ?_
 try simp only [PU]
 refine tp 5 ?_
 try simp only [PU]
 refine tc 6 fun K hK => ?_
 go_simp
 (go_at_call 109; (with_reducible refine (HTI.out _ _ _ (HQ.out.1.below (below_drew1 (Below.refl _ _))) (HQ.out.2.1.below (below_drew1 (Below.refl _ _)))).mono ?_); rintro e V1 ⟨rd, rfl, hp, hbq⟩; have HR := Aside0.mk hp; clear hp; have HBN : Aside0 (Below W1.heap.size W1 V1) := ⟨by first | exact HBC.out.trans (hbq.mono HBC.out.size) | exact (below_drew1 (Below.refl _ _)).trans hbq⟩; (try clear HBC); have HBC := HBN; clear HBN)
 refine hK.out _ _ ?_ fun hHeld => ?_
 ·(first | (simp only [cell_set HNE.out]; exact hHeld) | exact KP.out _ HBC.out)
 clear hK K; try simp only [PU]
 refine tc 7 fun K hK => ?_
 go_simp
 (go_at_call 105; (with_reducible refine (HEX.out _ _ (HO1.out.bl.trans (HBC.out.mono HO1.out.bl.size)) HR.out).mono ?_); rintro e V2 ⟨rfl, hbq⟩; have HBN : Aside0 (Below W1.heap.size W1 V2) := ⟨by first | exact HBC.out.trans (hbq.mono HBC.out.size) | exact (below_drew1 (Below.refl _ _)).trans hbq⟩; (try clear HBC); have HBC := HBN; clear HBN; have HO2 := Aside0.mk (HO1.out.below HBC.out); have r0 := HO2.out.e3.cell0; have r1 := HO2.out.e3.cell1; have r2 := HO2.out.e3.fr 0; have r3 := HO2.out.e3.fr 1)
 refine hK.out _ _ ?_ fun hHeld => ?_
 ·(first | (simp only [cell_set HNE.out]; exact hHeld) | exact KP.out _ HBC.out)
 clear hK K; try simp only [PU]
 refine tp 8 ?_
 try simp only [PU]
 refine tp 9 ?_
 try simp only [PU]
 refine tc 10 fun K hK => ?_
 go_simp
 refine hK.out _ _ ?_ fun hHeld => ?_
 ·(first | (simp only [cell_set HNE.out]; exact hHeld) | exact KP.out _ HBC.out)
 clear hK K; try simp only [PU]
 refine tp 11 ?_
 try simp only [PU]
 refine wpAnyH_done (by kernel_rfl) ?_ _
 refine hK _ _ ?_
 clear hK
 go_wp2
 exact e_ret2 Tryz.results43 rfl rfl (HO2.out.fin _ _).1 ⟨rfl, (HO2.out.fin _ _).2⟩
end
end Go.Proofs.YtnjbinpbkjdjpaaGreatDoor.Nm
