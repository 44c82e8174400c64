import Derived.Test.YtnjbinpbkjdjpaaGreatDoorP9
import Derived.Laws.BitsAllLaws
import Derived.Test.YtnjbinpbkjdjpaaGreatDoorP8
/- Own text: contracts and laws on which the card rests (FnV FnW FnX FnY GaA FnZ NfB FbA FbB FbC FcA FcB FaG GaC). -/
set_option linter.unusedVariables false
set_option linter.unusedSimpArgs false
set_option maxRecDepth 1000000
set_option maxHeartbeats 16000000
namespace Go.Proofs.YtnjbinpbkjdjpaaGreatDoor.Nm
section
open Go.Proofs.YtnjbinpbkjdjpaaGreatDoor.Rf Go.Proofs.YtnjbinpbkjdjpaaGreatDoorW.PrintLast Go.Proofs.YtnjbinpbkjdjpaaGreatDoorW.PrintMore Go.Proofs.YtnjbinpbkjdjpaaGreatDoorW.PrintWords Go.RowKit Go.Shelf Ieee
/-- What nearest answers. -/
def nrW (s : Bool) (p q : Nat) : Nat := (near s p q).getD 0
def nrE (s : Bool) (p q : Nat) : Int := if (near s p q).isSome then 0 else 3
def NrO (w : World) (s : Bool) (p q : Nat) (e : Ending) (w' : World) : Prop := e = .returned (.tuple #[.float .f32 (nrW s p q), .int .i64 (nrE s p q)]) ∧ Below w.heap.size w w'
theorem float_nat {m : Nat} (h : m < 9007199254740992) : floatOfInt .f64 (m : Int) = rg64 m 0 := by
 show double.nearest (decide ((m : Int) < 0)) (m : Int).natAbs 0 = _
 rw [decide_eq_false (by omega), Int.natAbs_natCast]
 by_cases hm : m = 0
 ·subst hm; decide
 ·have hl := log2_lt53 hm h
  have := (dbl_rg (s := false) (m := m) (e := 0) h (by omega) (by omega)).1
  rw [s64f] at this
  exact this
theorem small_limb {W : World} {A : Option Addr} {k c d : Nat} (h : NN W A k c d) (h0 : 0 < d) (h1 : d < UU) : k = 1 ∧ ∃ b, A = some ⟨b, 0, none⟩ ∧ W.cell? ⟨b, 0, none⟩ = some (.int .u32 (d : Int)) ∧ b < W.heap.size := by
 have e : dg UU d = [d] := dg_one UU1 h0 h1
 have hk : k = 1 := by rw [← h.len, e]; rfl
 subst hk
 obtain ⟨b, rfl, hlt, hc⟩ := h.addr (by omega)
 have := hc 0 (by omega)
 rw [e] at this
 exact ⟨rfl, b, rfl, this, hlt⟩
theorem xor63 {r : Nat} (h : r < 2 ^ 63) : r ^^^ 2 ^ 63 = 2 ^ 63 + r := by
 have h4 := Nat.two_pow_add_eq_or_of_lt h 1
 rw [Nat.mul_one] at h4
 rw [h4]
 apply Nat.eq_of_testBit_eq
 intro i
 rw [Nat.testBit_xor, Nat.testBit_or, Nat.testBit_two_pow]
 by_cases hi : 63 = i
 ·subst hi; rw [Nat.testBit_lt_two_pow h]; rfl
 ·simp [hi]
theorem neg_word {r : Nat} (h : r < 9223372036854775808) : Op.negFloat .f64 r = S64 true + r := by
 have h2 := xor63 (r := r) (by simpa using h)
 have h3 : (2 : Nat) ^ 63 = 9223372036854775808 := by decide
 unfold Op.negFloat S64
 rw [show FloatKind.f64.format.exponentBits + FloatKind.f64.format.fractionBits = 63 from rfl, h2, h3, if_pos rfl]
theorem near_zero {s : Bool} {p q : Nat} (h : rm p q = 0) : nrW s p q = 0 ∧ nrE s p q = 0 := by
 unfold nrW nrE near; rw [if_pos h]; exact ⟨rfl, rfl⟩
theorem near_big {s : Bool} {p q : Nat} (h : rm p q ≠ 0) (h2 : (wid (rm p q) : Int) + expE p q > 128) : nrW s p q = 0 ∧ nrE s p q = 3 := by
 unfold nrW nrE near; rw [if_neg h, if_pos h2]; exact ⟨rfl, rfl⟩
/-- A fraction with a nearest float32: its word, and the word of Ldexp's answer. -/
theorem near_fits {s : Bool} {p q : Nat} (hq : 0 < q) (h : rm p q ≠ 0) (h2 : ¬ (wid (rm p q) : Int) + expE p q > 128) :
 nrE s p q = 0 ∧ floatToFloatBits .f64 (S64 s + rg64 (rm p q) (expE p q)) .f32 = some (nrW s p q) ∧ expE p q + (rm p q).log2 ≤ 1023 := by
 have hn : near s p q = some (S32 s + ((expE p q + 149).toNat * 8388608 + rm p q)) := by
  unfold near S32; rw [if_neg h, if_neg h2]
 have hlt := near_lt hq hn
 have hs := near_lt hq (show near false p q = some (S32 false + ((expE p q + 149).toNat * 8388608 + rm p q)) by unfold near S32; rw [if_neg h, if_neg h2])
 have hw : wid (rm p q) = (rm p q).log2 + 1 := by unfold wid; rw [if_neg h]
 have a1 := expE_low p q
 have a2 := rm_le (p := p) hq
 refine ⟨by unfold nrE; rw [hn]; rfl, ?_, by omega⟩
 have key : (expE p q + 149).toNat * 8388608 + rm p q < 2139095040 := by
  have h3 := hs.1
  have h4 : S32 false = 0 := rfl
  rw [h4, Nat.zero_add] at h3
  have h5 := log2_24 a2
  have h6 : expE p q + 149 ≤ 277 := by omega
  by_cases h7 : -149 < expE p q
  ·have h8 := rm_ge hq h7
   have h9 : 23 ≤ (rm p q).log2 := (Nat.le_log2 h).2 (by simpa using h8)
   omega
  ·have h8 : (expE p q + 149).toNat = 0 := by omega
   rw [h8]; omega
 have h9 : nrW s p q = S32 s + ((expE p q + 149).toNat * 8388608 + rm p q) := by unfold nrW; rw [hn, Option.getD_some]
 rw [h9]
 have h10 : 8388608 ≤ rm p q ∨ expE p q = -149 := by
  by_cases h7 : -149 < expE p q
  ·exact .inl (rm_ge hq h7)
  ·exact .inr (by omega)
 clear h9 hn hlt hs hq h2
 generalize rm p q = M at *
 generalize expE p q = E at *
 have h11 := d2f s a2 a1 h10 key
 have h12 := (dbl_rg (s := s) (m := M) (e := E) (by omega) (by omega) (by have := log2_24 a2; omega)).1
 rw [h12] at h11
 exact h11
/-- What nearest's own variables hold. -/
structure NE (w : World) (b : Nat) (s : Bool) (A1 : Option Addr) (L1 c1 : Nat) (A2 : Option Addr) (L2 c2 : Nat) (A : Option Addr) (k c M : Nat) (E : Int) (W : World) : Prop where
 sc : SF W b A k c E
 box : QF W w.heap.size s A1 L1 c1 A2 L2 c2
 m : NN W A k c M
 bl : Below w.heap.size w W
 lt : b < W.heap.size
theorem ne_start {w W1 : World} {s : Bool} {A1 A2 A : Option Addr} {L1 c1 L2 c2 k c M : Nat} {E : Int} (hb : Below (w.alloc (.cells #[.bool s, .slice A1 L1 c1, .slice A2 L2 c2] 102)).heap.size (w.alloc (.cells #[.bool s, .slice A1 L1 c1, .slice A2 L2 c2] 102)) W1) (hm : NN W1 A k c M) :
 NE w W1.heap.size s A1 L1 c1 A2 L2 c2 A k c M E (W1.alloc (.cells #[.slice A k c, .int .i64 E] 177)) := by
 have h1 := below_alloc (Below.refl W1.heap.size W1) (.cells #[.slice A k c, .int .i64 E] 177)
 have hs : w.heap.size + 1 ≤ W1.heap.size := by have := hb.size; simpa using this
 refine ⟨heap_alloc_new _ _, ((QF.new w w.heap.size rfl s A1 L1 c1 A2 L2 c2).below hb).below h1, hm.below h1, ?_, by simp⟩
 exact (below_alloc (Below.refl w.heap.size w) _).trans ((hb.mono (by simp)).trans (h1.mono (by omega)))
theorem nearest_calls {w : World} {s : Bool} {A1 A2 : Option Addr} {L1 c1 L2 c2 p q : Nat} (h : N2 w A1 L1 c1 p A2 L2 c2 q) (hp : Sz 90000 p) (hq : Sz 90000 q) (h0 : 0 < q) :
 Calls Tryz.prog 65 #[qV s A1 L1 c1 A2 L2 c2] w fun e w' => NrO w s p q e w' := by
 have HRD : Aside0 (∀ W, Below w.heap.size w W → Calls Tryz.prog 134 #[qV s A1 L1 c1 A2 L2 c2] W fun e w' => RoO W (rm p q) (expE p q) e w') := ⟨fun W hb => rounded_calls (h.below hb) hp hq h0⟩
 have hrm := rm_le (p := p) h0
 have HWD : Aside0 (∀ W A k c, NN W A k c (rm p q) → Calls Tryz.prog 135 #[.slice A k c] W fun e w' => e = .returned (.int .i64 (wid (rm p q) : Nat)) ∧ w' = W) := ⟨fun W A k c hn => width_calls hn (Nat.le_trans (hn.sz (k := 32) ⟨by have : (2 : Nat) ^ 32 = 4294967296 := (by decide); omega⟩) (by omega))⟩
 have hww := expE_low p q
 have hwh := expE_high h0 hp
 have hwz : wid (rm p q) ≤ 25 := wid_le.2 (by have : (2 : Nat) ^ 25 = 33554432 := (by decide); omega)
 have hw0 : wid (rm p q) = 0 ↔ rm p q = 0 := by unfold wid; split <;> omega
 unfold NrO qV at *
 unfold RoO at HRD
 by_cases hz : rm p q = 0
 ·obtain ⟨z1, z2⟩ := near_zero (s := s) hz
  rw [z1, z2]
  rw [hw0.2 hz] at HWD
  clear hz z1 z2 hw0 hww hwh hwz hrm h hp hq h0
  generalize rm p q = M at *
  generalize expE p q = E at *
  go_enter Tryz.func65, Tryz.ntmps65
  go_upto_region 2 with (go_at_call 134; (with_reducible refine (HRD.out _ (by repeat (first | exact Below.refl _ _ | apply below_alloc))).mono ?_); rintro e1 W1 ⟨A, k, c, rfl, hm, hb1⟩; have HM := Aside0.mk hm; have HB := Aside0.mk hb1; clear hm hb1)
  have HN : Aside0 (NE w W1.heap.size _ A1 L1 c1 A2 L2 c2 A k c M E (W1.alloc (.cells #[.slice A k c, .int .i64 E] 177))) := ⟨ne_start HB.out HM.out⟩
  obtain ⟨W2, hW2⟩ : ∃ W2, W1.alloc (.cells #[.slice A k c, .int .i64 E] 177) = W2 := ⟨_, rfl⟩
  obtain ⟨b, hb⟩ : ∃ b, W1.heap.size = b := ⟨_, rfl⟩
  rw [hW2, hb] at HN
  rw [hW2, hb]
  clear hW2 hb
  have HM2 := Aside0.mk HN.out.m
  have q0 := HN.out.sc.cell0
  have q1 := HN.out.sc.cell1
  go_wp2_with (go_at_call 135; (with_reducible refine (HWD.out _ _ _ _ HM2.out).mono ?_); rintro e1 W4 ⟨rfl, hwq⟩; rw [hwq]; clear hwq W4)
  go_ret2
  exact ⟨rfl, HN.out.bl⟩
 ·have hz0 : wid (rm p q) ≠ 0 := fun e => hz (hw0.1 e)
  obtain ⟨x, hx⟩ : ∃ x, wid (rm p q) = x := ⟨_, rfl⟩
  rw [hx] at HWD hwz hz0
  have b0 : ((x : Int) == 0) = false := by rw [beq_eq_false_iff_ne]; omega
  have v1 : IntKind.i64.wrap ((x : Int) + expE p q) = (x : Int) + expE p q := IntWalk.i64_in _ (by omega)
  by_cases hbig : (wid (rm p q) : Int) + expE p q > 128
  ·obtain ⟨z1, z2⟩ := near_big (s := s) hz hbig
   rw [z1, z2]
   have d1 : decide (128 < (x : Int) + expE p q) = true := decide_eq_true (by omega)
   clear hz z1 z2 hw0 hww hwh hwz hrm h hp hq h0 hbig hx hz0
   generalize rm p q = M at *
   generalize expE p q = E at *
   go_enter Tryz.func65, Tryz.ntmps65
   go_upto_region 2 with (go_at_call 134; (with_reducible refine (HRD.out _ (by repeat (first | exact Below.refl _ _ | apply below_alloc))).mono ?_); rintro e1 W1 ⟨A, k, c, rfl, hm, hb1⟩; have HM := Aside0.mk hm; have HB := Aside0.mk hb1; clear hm hb1)
   have HN : Aside0 (NE w W1.heap.size _ A1 L1 c1 A2 L2 c2 A k c M E (W1.alloc (.cells #[.slice A k c, .int .i64 E] 177))) := ⟨ne_start HB.out HM.out⟩
   obtain ⟨W2, hW2⟩ : ∃ W2, W1.alloc (.cells #[.slice A k c, .int .i64 E] 177) = W2 := ⟨_, rfl⟩
   obtain ⟨b, hb⟩ : ∃ b, W1.heap.size = b := ⟨_, rfl⟩
   rw [hW2, hb] at HN
   rw [hW2, hb]
   clear hW2 hb
   have HM2 := Aside0.mk HN.out.m
   have q0 := HN.out.sc.cell0
   have q1 := HN.out.sc.cell1
   go_upto_region 4 with (go_at_call 135; (with_reducible refine (HWD.out _ _ _ _ HM2.out).mono ?_); rintro e1 W4 ⟨rfl, hwq⟩; rw [hwq]; clear hwq W4)
   have HX := Aside0.mk (And.intro HN.out.sc.cell0 HN.out.sc.cell1)
   have HA : Aside0 (Below w.heap.size w W2 ∧ W2.heap.size ≤ W2.heap.size) := ⟨HN.out.bl, Nat.le_refl _⟩
   have HW2 : Aside0 (∀ V, Below W2.heap.size W2 V → Calls Tryz.prog 135 #[.slice A k c] V fun e w' => e = .returned (.int .i64 (x : Int)) ∧ Below V.heap.size V w') := ⟨fun V hV => (HWD.out V _ _ _ (HM2.out.below hV)).mono (by rintro e w' ⟨rfl, rfl⟩; exact ⟨rfl, Below.refl _ _⟩)⟩
   have hbl := HN.out.lt
   rename_i Q' K hK
   have KP : Aside0 (∀ V, Below (W2.heap.size) W2 V → (fun V => V.cell? ⟨b, 0, none⟩ = some (.slice A k c) ∧ V.cell? ⟨b, 1, none⟩ = some (.int .i64 E) ∧ Below (W2.heap.size) W2 V) V) := ⟨fun V hBB => ⟨keepB hBB (by omega) HX.out.1, keepB hBB (by omega) HX.out.2, hBB⟩⟩
   refine wq KP fun hHeld => ?_
   refine tp 0 ?_
   try simp only [PU]
   refine tp 1 ?_
   try simp only [PU]
   refine tp 3 ?_
   try simp only [PU]
   refine tp 4 ?_
   try simp only [PU]
   refine tc 2 fun K hK => ?_
   go_simp
   (go_at_call 135; (with_reducible refine (HW2.out _ hHeld.2.2).mono ?_); rintro e wm ⟨rfl, hbq⟩)
   refine hK.out _ _ ?_ fun hHeld => ?_
   ·(first | exact KP.out _ (bKeep hbq hHeld.2.2 (by have := HA.out.2; omega)) | (refine KP.out _ ?_; repeat (first | exact hHeld.2.2 | refine Below.setCell ?_ (by first | (simp; done) | (simp; omega)) _)))
   clear hK K; try simp only [PU]
   refine tp 5 ?_
   try simp only [PU]
   refine tp 6 ?_
   try simp only [PU]
   refine wpAnyH_done (by kernel_rfl) ?_ _
   refine hK _ _ ?_
   clear hK
   go_wp2
   go_ret2
   exact ⟨rfl, HN.out.bl.trans (hHeld.2.2.mono HN.out.bl.size)⟩
  ·obtain ⟨z1, z2, z3⟩ := near_fits (s := s) h0 hz hbig
   rw [z1]
   have d1 : decide (128 < (x : Int) + expE p q) = false := decide_eq_false (by omega)
   have hcv := float_nat (m := rm p q) (by omega)
   have HLD : Aside0 (∀ w, Calls Tryz.prog 78 #[.float .f64 (rg64 (rm p q) 0), .int .i64 (expE p q)] w fun e w' => e = .returned (.float .f64 (rg64 (rm p q) (expE p q))) ∧ Below w.heap.size w w') := ⟨fun w => by
    have hl := log2_24 hrm
    refine (ldexp_calls (e0 := 0) (e := expE p q) hz (by omega) (by omega) (by omega) (by omega) (by omega) w).mono ?_
    rintro e w' ⟨rfl, rfl⟩
    rw [Int.zero_add]
    exact ⟨rfl, Below.refl _ _⟩⟩
   have hng : Op.negFloat .f64 (rg64 (rm p q) (expE p q)) = S64 true + rg64 (rm p q) (expE p q) := neg_word (by have hl := log2_24 hrm; have := (dbl_rg (s := false) (m := rm p q) (e := expE p q) (by omega) (by omega) z3).2; omega)
   have HPOS : Aside0 (0 < rm p q ∧ rm p q < UU) := ⟨by omega, by unfold UU; omega⟩
   have hfl := fun w : World => run_convert_float_float (P := Tryz.prog) w 65 24 .f64 .f32 _ _ rfl Tryz.underlying24 z2
   clear hz z1 z2 z3 hw0 hww hwh hwz hrm h hp hq h0 hbig hx hz0
   generalize rg64 (rm p q) (expE p q) = Y at *
   generalize rg64 (rm p q) 0 = Y0 at *
   generalize nrW s p q = R at *
   generalize rm p q = M at *
   generalize expE p q = E at *
   have hY : S64 false + Y = Y := s64f Y
   have hng2 : ∀ W, (Op.unary .neg (.float .f64 Y)).run Tryz.prog W = .ok (.float .f64 (S64 true + Y)) W := fun W => by rw [← hng]; rfl
   clear hng
   ·skip
    go_enter Tryz.func65, Tryz.ntmps65
    go_upto_region 2 with (go_at_call 134; (with_reducible refine (HRD.out _ (by repeat (first | exact Below.refl _ _ | apply below_alloc))).mono ?_); rintro e1 W1 ⟨A, k, c, rfl, hm, hb1⟩; have HM := Aside0.mk hm; have HB := Aside0.mk hb1; clear hm hb1)
    have HN : Aside0 (NE w W1.heap.size _ A1 L1 c1 A2 L2 c2 A k c M E (W1.alloc (.cells #[.slice A k c, .int .i64 E] 177))) := ⟨ne_start HB.out HM.out⟩
    obtain ⟨W2, hW2⟩ : ∃ W2, W1.alloc (.cells #[.slice A k c, .int .i64 E] 177) = W2 := ⟨_, rfl⟩
    obtain ⟨b, hb⟩ : ∃ b, W1.heap.size = b := ⟨_, rfl⟩
    rw [hW2, hb] at HN
    rw [hW2, hb]
    clear hW2 hb
    have HM2 := Aside0.mk HN.out.m
    have q0 := HN.out.sc.cell0
    have q1 := HN.out.sc.cell1
    go_upto_region 4 with (go_at_call 135; (with_reducible refine (HWD.out _ _ _ _ HM2.out).mono ?_); rintro e1 W4 ⟨rfl, hwq⟩; rw [hwq]; clear hwq W4)
    obtain ⟨hk, bb, hA, hcell, hblt⟩ := small_limb HM2.out HPOS.out.1 HPOS.out.2
    subst hk hA
    have HX := Aside0.mk (And.intro HN.out.sc.cell0 (And.intro HN.out.sc.cell1 (And.intro HN.out.box.cell0 hcell)))
    have HA : Aside0 (Below w.heap.size w W2 ∧ W2.heap.size ≤ W2.heap.size) := ⟨HN.out.bl, Nat.le_refl _⟩
    have HW2 : Aside0 (∀ V, Below W2.heap.size W2 V → Calls Tryz.prog 135 #[.slice (some ⟨bb, 0, none⟩) 1 c] V fun e w' => e = .returned (.int .i64 (x : Int)) ∧ Below V.heap.size V w') := ⟨fun V hV => (HWD.out V _ _ _ (HM2.out.below hV)).mono (by rintro e w' ⟨rfl, rfl⟩; exact ⟨rfl, Below.refl _ _⟩)⟩
    have hbl := HN.out.lt
    have hwl := HN.out.box.lt
    clear hcell
    rename_i Q' K hK
    have KP : Aside0 (∀ V, Below (W2.heap.size) W2 V → (fun V => V.cell? ⟨b, 0, none⟩ = some (.slice (some ⟨bb, 0, none⟩) 1 c) ∧ V.cell? ⟨b, 1, none⟩ = some (.int .i64 E) ∧ V.cell? ⟨w.heap.size, 0, none⟩ = some (.bool s) ∧ V.cell? ⟨bb, 0, none⟩ = some (.int .u32 (M : Int)) ∧ Below (W2.heap.size) W2 V) V) := ⟨fun V hBB => ⟨keepB hBB (by omega) HX.out.1, keepB hBB (by omega) HX.out.2.1, keepB hBB (by omega) HX.out.2.2.1, keepB hBB (by omega) HX.out.2.2.2, hBB⟩⟩
    refine wq KP fun hHeld => ?_
    refine tp 0 ?_
    try simp only [PU]
    refine tp 1 ?_
    try simp only [PU]
    refine tp 3 ?_
    try simp only [PU]
    refine tp 4 ?_
    try simp only [PU]
    refine tc 2 fun K hK => ?_
    go_simp
    (go_at_call 135; (with_reducible refine (HW2.out _ hHeld.2.2.2.2).mono ?_); rintro e wm ⟨rfl, hbq⟩)
    refine hK.out _ _ ?_ fun hHeld => ?_
    ·(first | exact KP.out _ (bKeep hbq hHeld.2.2.2.2 (by have := HA.out.2; omega)) | (refine KP.out _ ?_; repeat (first | exact hHeld.2.2.2.2 | refine Below.setCell ?_ (by first | (simp; done) | (simp; omega)) _)))
    clear hK K; try simp only [PU]
    refine tp 5 ?_
    try simp only [PU]
    refine tp 6 ?_
    try simp only [PU]
    refine wpAnyH_done (by kernel_rfl) ?_ _
    refine hK _ _ ?_
    clear hK
    go_upto_region 6 with fail
    rename_i K hK
    have HX := Aside0.mk (And.intro hHeld.1 (And.intro hHeld.2.1 (And.intro hHeld.2.2.1 hHeld.2.2.2.1)))
    have HA : Aside0 (Below w.heap.size w wm ∧ W2.heap.size ≤ wm.heap.size) := ⟨HN.out.bl.trans (hHeld.2.2.2.2.mono HN.out.bl.size), hHeld.2.2.2.2.size⟩
    have HA2 := Aside0.mk HN.out.bl.size
    clear hHeld
    have KP : Aside0 (∀ V, Below (W2.heap.size) wm V → (fun V => V.cell? ⟨b, 0, none⟩ = some (.slice (some ⟨bb, 0, none⟩) 1 c) ∧ V.cell? ⟨b, 1, none⟩ = some (.int .i64 E) ∧ V.cell? ⟨w.heap.size, 0, none⟩ = some (.bool s) ∧ V.cell? ⟨bb, 0, none⟩ = some (.int .u32 (M : Int)) ∧ Below (W2.heap.size) wm V) V) := ⟨fun V hBB => ⟨keepB hBB (by omega) HX.out.1, keepB hBB (by omega) HX.out.2.1, keepB hBB (by omega) HX.out.2.2.1, keepB hBB (by omega) HX.out.2.2.2, hBB⟩⟩
    refine wq KP fun hHeld => ?_
    refine tp 0 ?_
    try simp only [PU]
    refine tp 1 ?_
    try simp only [PU]
    refine tp 2 ?_
    try simp only [PU]
    refine tp 3 ?_
    try simp only [PU]
    refine tp 4 ?_
    try simp only [PU]
    refine tp 5 ?_
    try simp only [PU]
    refine tp 6 ?_
    try simp only [PU]
    refine tc 7 fun K hK => ?_
    go_simp
    (go_at_call 78; (with_reducible refine (HLD.out _).mono ?_); rintro e wn ⟨rfl, hbq⟩)
    refine hK.out _ _ ?_ fun hHeld => ?_
    ·(first | exact KP.out _ (bKeep hbq hHeld.2.2.2.2 (by have := HA.out.2; omega)) | (refine KP.out _ ?_; repeat (first | exact hHeld.2.2.2.2 | refine Below.setCell ?_ (by first | (simp; done) | (simp; omega)) _)))
    clear hK K; try simp only [PU]
    refine tp 8 ?_
    try simp only [PU]
    refine wpAnyH_done (by kernel_rfl) ?_ _
    refine hK _ _ ?_
    clear hK
    go_upto_region 7 with fail
    cases s
    ·simp only [hY] at hfl
     go_wp2
     go_ret2
     exact ⟨rfl, HA.out.1.trans (hHeld.2.2.2.2.mono HA2.out)⟩
    ·go_wp2
     go_ret2
     exact ⟨rfl, HA.out.1.trans (hHeld.2.2.2.2.mono HA2.out)⟩
theorem frac_sz {s : ByteArray} (hs : s.size ≤ 10000) (h : checkR s = 0) : Sz 40000 (numR s).natAbs ∧ Sz 40000 (denR s).natAbs ∧ 0 < (denR s).natAbs := by
 obtain ⟨k1, k2, k3, k4⟩ := checkR_ok h
 obtain ⟨z1, z2⟩ := cut_size 47 s
 have d1 := (list_of k1).1
 have d2 := (list_of k2).1
 have b1 := bodyB_size (cutA 47 s)
 have b2 := bodyB_size (cutB 47 s)
 refine ⟨?_, ?_, by omega⟩
 ·unfold numR; rw [intI_abs]
  exact (dv_sz d1).more (by have : (bodyB (cutA 47 s)).data.toList.length = (bodyB (cutA 47 s)).size := (by simp); omega)
 ·unfold denR; rw [intI_abs]
  exact (dv_sz d2).more (by have : (bodyB (cutB 47 s)).data.toList.length = (bodyB (cutB 47 s)).size := (by simp); omega)
/-- What To32 answers. -/
def toW (s : ByteArray) : Nat := if checkR s = 0 then nrW (minusB s) (numR s).natAbs (denR s).natAbs else 0
def toE (s : ByteArray) : Int := if checkR s = 0 then nrE (minusB s) (numR s).natAbs (denR s).natAbs else checkR s
theorem to32_calls (s : ByteArray) (hs : s.size ≤ 10000) (w : World) (hE : EN w) :
 Calls Tryz.prog 23 #[.string s] w fun e w' => e = .returned (.tuple #[.float .f32 (toW s), .int .i64 (toE s)]) ∧ Below w.heap.size w w' := by
 have HC := Aside0.mk (checkR_calls s (by omega) w hE)
 unfold toW toE
 by_cases h : checkR s = 0
 ·rw [if_pos h, if_pos h]
  obtain ⟨y1, y2, y3⟩ := frac_sz hs h
  have HP : Aside0 (∀ W, Below w.heap.size w W → Calls Tryz.prog 79 #[.string s] W fun e w' => QX W (minusB s) (numR s).natAbs (denR s).natAbs e w') := ⟨fun W hb => parse_calls2 s hs h W (hE.below hb)⟩
  have HN : Aside0 (∀ W A1 L1 c1 A2 L2 c2, N2 W A1 L1 c1 (numR s).natAbs A2 L2 c2 (denR s).natAbs → Calls Tryz.prog 65 #[qV (minusB s) A1 L1 c1 A2 L2 c2] W fun e w' => NrO W (minusB s) (numR s).natAbs (denR s).natAbs e w') := ⟨fun W A1 L1 c1 A2 L2 c2 hn => nearest_calls hn (y1.more (by omega)) (y2.more (by omega)) y3⟩
  rw [h] at HC
  clear h y1 y2 y3 hE hs
  unfold QX NrO at *
  generalize (numR s).natAbs = p at *
  generalize (denR s).natAbs = q at *
  generalize minusB s = z at *
  generalize nrW z p q = R at *
  generalize nrE z p q = T at *
  go_enter Tryz.func23, Tryz.ntmps23
  go_wp2_with (first
   | (go_at_call 58; (with_reducible refine HC.out.mono ?_); rintro e W1 ⟨rfl, hb1⟩; have HB := Aside0.mk hb1; clear hb1)
   | (go_at_call 79; (with_reducible refine (HP.out _ HB.out).mono ?_); rintro e W2 ⟨A1, k1, c1, A2, k2, c2, rfl, hn, hb2⟩; have HM := Aside0.mk hn; have HB2 := Aside0.mk (HB.out.trans (hb2.mono HB.out.size)); clear hn hb2)
   | (go_at_call 65; (with_reducible refine (HN.out _ _ _ _ _ _ _ HM.out).mono ?_); rintro e W3 ⟨rfl, hb3⟩; have HB3 := Aside0.mk (HB2.out.trans (hb3.mono HB2.out.size)); clear hb3))
  go_ret2
  exact ⟨rfl, HB3.out⟩
 ·rw [if_neg h, if_neg h]
  have hne : (checkR s != 0) = true := by simp [h]
  clear h hE hs
  generalize checkR s = k at *
  go_enter Tryz.func23, Tryz.ntmps23
  go_wp2_with (go_at_call 58; (with_reducible refine HC.out.mono ?_); rintro e W1 ⟨rfl, hb1⟩; have HB := Aside0.mk hb1; clear hb1)
  go_ret2
  exact ⟨rfl, HB.out⟩
/-- The word of a float32 made a float64. -/
def w32 (r : Nat) : Nat := rg64 (sg32 r) (pl32 r)
theorem w32_lt {r : Nat} (h : r < 2139095040) : w32 r < 9218868437227405312 ∧ ∀ s, floatToFloatBits .f32 (S32 s + r) .f64 = some (S64 s + w32 r) := by
 have h1 := sg32_lt r
 have h2 := pl32_ge r
 have h3 := pl32_le h
 have h4 := log2_24 (m := sg32 r) (by omega)
 refine ⟨(dbl_rg (s := false) (m := sg32 r) (e := pl32 r) (by omega) (by omega) (by omega)).2, fun s => ?_⟩
 rw [f2d s h, (dbl_rg (s := s) (m := sg32 r) (e := pl32 r) (by omega) (by omega) (by omega)).1]
 rfl
/-- The sign, the numerator and the denominator of a finite float64. -/
def exS (s : Bool) (r : Nat) : Bool := s && decide (r ≠ 0)
def exP (r : Nat) : Nat := vp (exm r) (exe r)
def exQ (r : Nat) : Nat := vq (exe r)
theorem ex_sz {r : Nat} (h : r < 9218868437227405312) : Sz 3000 (exP r) ∧ Sz 3000 (exQ r) ∧ 0 < exQ r := by
 have h1 := exm_lt h
 have h2 := exe_range h
 have h3 : Sz 60 (exm r) := ⟨Nat.lt_of_lt_of_le h1 (by decide)⟩
 unfold exP exQ vp
 refine ⟨h3.mul (sz_pow (n := (exe r).toNat) (k := 2940) (by omega)), ?_, vq_pos _⟩
 unfold vq
 exact sz_pow (by omega)
theorem from32_calls (s : Bool) {r : Nat} (h : r < 2139095040) (w : World) :
 Calls Tryz.prog 18 #[.float .f32 (S32 s + r)] w fun e w' =>
  e = .returned (.tuple #[.string (frS (sgI (exS s (w32 r)) (exP (w32 r) / Nat.gcd (exP (w32 r)) (exQ (w32 r)))) (exQ (w32 r) / Nat.gcd (exP (w32 r)) (exQ (w32 r)) : Nat)), .int .i64 0]) ∧ Below w.heap.size w w' := by
 obtain ⟨h1, h2⟩ := w32_lt h
 obtain ⟨y1, y2, y3⟩ := ex_sz h1
 have hcv := fun W : World => run_convert_float_float (P := Tryz.prog) W 24 65 .f32 .f64 _ _ rfl Tryz.underlying65 (h2 s)
 have HF := Aside0.mk (isFinite_calls (s := s) (r := w32 r) (by omega))
 rw [decide_eq_true h1] at HF
 have HX : Aside0 (∀ W, Calls Tryz.prog 64 #[.float .f64 (S64 s + w32 r)] W fun e w' => QX W (exS s (w32 r)) (exP (w32 r)) (exQ (w32 r)) e w') := ⟨fun W => exactly_calls s h1 W⟩
 have HS : Aside0 (∀ W A1 L1 c1 A2 L2 c2, N2 W A1 L1 c1 (exP (w32 r)) A2 L2 c2 (exQ (w32 r)) → Calls Tryz.prog 76 #[qV (exS s (w32 r)) A1 L1 c1 A2 L2 c2] W fun e w' =>
  e = .returned (.string (frS (sgI (exS s (w32 r)) (exP (w32 r) / Nat.gcd (exP (w32 r)) (exQ (w32 r)))) (exQ (w32 r) / Nat.gcd (exP (w32 r)) (exQ (w32 r)) : Nat))) ∧ Below W.heap.size W w') := ⟨fun W A1 L1 c1 A2 L2 c2 hn => qString_calls hn (y1.more (by omega)) (y2.more (by omega)) y3⟩
 clear h h1 h2 y1 y2 y3
 unfold QX at *
 generalize frS (sgI (exS s (w32 r)) (exP (w32 r) / Nat.gcd (exP (w32 r)) (exQ (w32 r)))) (exQ (w32 r) / Nat.gcd (exP (w32 r)) (exQ (w32 r)) : Nat) = T at *
 generalize exP (w32 r) = p at *
 generalize exQ (w32 r) = q at *
 generalize exS s (w32 r) = z at *
 generalize S64 s + w32 r = y at *
 generalize S32 s + r = x at *
 go_enter Tryz.func18, Tryz.ntmps18
 go_wp2_with (first
  | (go_at_call 63; (with_reducible refine (HF.out _).mono ?_); rintro e W1 ⟨rfl, hwq⟩; rw [hwq]; clear hwq)
  | (go_at_call 64; (with_reducible refine (HX.out _).mono ?_); rintro e W2 ⟨A1, k1, c1, A2, k2, c2, rfl, hn, hb2⟩; have HM := Aside0.mk hn; have HB2 := Aside0.mk hb2; clear hn hb2)
  | (go_at_call 76; (with_reducible refine (HS.out _ _ _ _ _ _ _ HM.out).mono ?_); rintro e W3 ⟨rfl, hb3⟩; have HB3 := Aside0.mk (HB2.out.trans (hb3.mono HB2.out.size)); clear hb3))
 go_ret2
 exact ⟨rfl, HB3.out⟩
theorem read_nan32 (s : Bool) {r : Nat} (h : 2139095040 < r) (h2 : r < 2147483648) : single.read (S32 s + r) = .nan s (r - 2139095040) := by
 unfold Format.read
 rw [ssw, sbin, sinf]
 obtain ⟨e1, e2⟩ := ssplit s h2
 simp only [e1, e2]
 rw [if_neg (by omega), if_neg (by omega), if_neg (by omega)]
theorem conv_inf (s : Bool) : floatToFloatBits .f32 (S32 s + 2139095040) .f64 = some (S64 s + 9218868437227405312) := by cases s <;> decide +kernel
/-- A NaN made a float64: the drawn word. -/
def nanW (b : Nat) (W : World) : Nat := (Question.nanConv .f64 b).cut (W.tape W.drawn (.nanConv .f64 b))
theorem nanW_is (b : Nat) (W : World) : ∃ s r, nanW b W = S64 s + r ∧ 9218868437227405312 < r ∧ r < 9223372036854775808 := by
 unfold nanW Question.cut
 simp only []
 generalize W.tape W.drawn (.nanConv .f64 b) = t
 refine ⟨decide (t % 2 = 1), 9218868437227405312 + 1 + (t / 2) % (2 ^ 52 - 1), ?_, by omega, by omega⟩
 unfold S64
 by_cases h : t % 2 = 1
 ·rw [decide_eq_true h, if_pos rfl, h]; omega
 ·rw [decide_eq_false h, if_neg (by simp), show t % 2 = 0 by omega]; omega
theorem run_conv_nan (s : Bool) {r : Nat} (h : 2139095040 < r) (h2 : r < 2147483648) (W : World) :
 (convert 24 65 (.float .f32 (S32 s + r))).run Tryz.prog W = .ok (.float .f64 (nanW (S32 s + r) W)) W.drew := by
 have he : FloatKind.f32.decode (S32 s + r) = .nan s (r - 2139095040) := read_nan32 s h h2
 have ne : ¬ FloatKind.f32 = FloatKind.f64 := by decide
 have hs : Tryz.prog.underlying 24 = some (.float .f32) := Tryz.underlying24
 have hd : Tryz.prog.underlying 65 = some (.float .f64) := Tryz.underlying65
 unfold nanW
 simp [convert, run_underlying hs, run_underlying hd, Conv.floatToFloat, ne, he, Question.forced]
/-- A float32 that is not finite, made a float64: some word that isFinite refuses; the tape may have been asked. -/
theorem conv_bad (s : Bool) {r : Nat} (h : 2139095040 ≤ r) (h2 : r < 2147483648) (W : World) :
 ∃ y Wd, (convert 24 65 (.float .f32 (S32 s + r))).run Tryz.prog W = .ok (.float .f64 y) Wd ∧ Below W.heap.size W Wd ∧ (∀ V, Calls Tryz.prog 63 #[.float .f64 y] V fun e w' => e = .returned (.bool false) ∧ w' = V) := by
 rcases Nat.eq_or_lt_of_le h with h3 | h3
 ·subst h3
  refine ⟨S64 s + 9218868437227405312, W, run_convert_float_float (P := Tryz.prog) W 24 65 .f32 .f64 _ _ rfl Tryz.underlying65 (conv_inf s), Below.refl _ _, fun V => ?_⟩
  have := isFinite_calls (s := s) (r := 9218868437227405312) (by omega) V
  rw [decide_eq_false (by omega)] at this
  exact this
 ·obtain ⟨z, t, h4, h5, h6⟩ := nanW_is (S32 s + r) W
  refine ⟨nanW (S32 s + r) W, W.drew, run_conv_nan s h3 h2 W, (Below.refl _ _).drew, fun V => ?_⟩
  have := isFinite_calls (s := z) (r := t) h6 V
  rw [decide_eq_false (by omega), ← h4] at this
  exact this
theorem conv_good (s : Bool) {r : Nat} (h : r < 2139095040) (W : World) :
 (convert 24 65 (.float .f32 (S32 s + r))).run Tryz.prog W = .ok (.float .f64 (S64 s + w32 r)) W :=
 run_convert_float_float (P := Tryz.prog) W 24 65 .f32 .f64 _ _ rfl Tryz.underlying65 ((w32_lt h).2 s)
theorem isFinite_good (s : Bool) {r : Nat} (h : r < 2139095040) (W : World) : Calls Tryz.prog 63 #[.float .f64 (S64 s + w32 r)] W fun e w' => e = .returned (.bool true) ∧ w' = W := by
 have h1 := (w32_lt h).1
 have := isFinite_calls (s := s) (r := w32 r) (by omega) W
 rw [decide_eq_true h1] at this
 exact this
theorem from32_bad (s : Bool) {r : Nat} (h : 2139095040 ≤ r) (h2 : r < 2147483648) (w : World) :
 Calls Tryz.prog 18 #[.float .f32 (S32 s + r)] w fun e w' => e = .returned (.tuple #[.string ⟨#[]⟩, .int .i64 1]) ∧ Below w.heap.size w w' := by
 obtain ⟨y, wd, hcv, hb, hf⟩ := conv_bad s h h2 w
 have HF := Aside0.mk hf
 have HB := Aside0.mk hb
 clear hf hb h h2
 generalize S32 s + r = x at *
 go_enter Tryz.func18, Tryz.ntmps18
 go_wp2_with (go_at_call 63; (with_reducible refine (HF.out _).mono ?_); rintro e W1 ⟨rfl, hwq⟩; rw [hwq]; clear hwq)
 go_ret2
 exact ⟨rfl, HB.out⟩
/-- The value of a finite float32, by its word. -/
def fvS (b : Nat) : Bool := exS (neg32 b) (w32 (b % 2147483648))
def fvP (b : Nat) : Nat := exP (w32 (b % 2147483648))
def fvQ (b : Nat) : Nat := exQ (w32 (b % 2147483648))
/-- The string of a fraction in lowest terms. -/
def fqS (s : Bool) (p q : Nat) : ByteArray := frS (sgI s (p / Nat.gcd p q)) (q / Nat.gcd p q : Nat)
def fmS (b : Nat) : ByteArray := if fin32 b = true then fqS (fvS b) (fvP b) (fvQ b) else ⟨#[]⟩
def fmE (b : Nat) : Int := if fin32 b = true then 0 else 1
theorem fv_sz {b : Nat} (h : fin32 b = true) : Sz 3000 (fvP b) ∧ Sz 3000 (fvQ b) ∧ 0 < fvQ b := ex_sz (w32_lt (of_decide_eq_true h)).1
theorem from32_any {b : Nat} (h : b < 4294967296) (w : World) :
 Calls Tryz.prog 18 #[.float .f32 b] w fun e w' => e = .returned (.tuple #[.string (fmS b), .int .i64 (fmE b)]) ∧ Below w.heap.size w w' := by
 have hs := split32 h
 unfold fmS fmE fqS fvS fvP fvQ
 by_cases hf : fin32 b = true
 ·rw [if_pos hf, if_pos hf]
  have := from32_calls (neg32 b) (r := b % 2147483648) (of_decide_eq_true hf) w
  rw [← hs] at this
  exact this
 ·rw [if_neg hf, if_neg hf]
  have h3 : ¬ b % 2147483648 < 2139095040 := fun h4 => hf (decide_eq_true h4)
  have := from32_bad (neg32 b) (r := b % 2147483648) (by omega) (Nat.mod_lt _ (by decide)) w
  rw [← hs] at this
  exact this
/-- Exactly at the float64 of a finite float32. -/
theorem exactly32 {b : Nat} (h : b < 4294967296) (hf : fin32 b = true) (w : World) : Calls Tryz.prog 64 #[.float .f64 (S64 (neg32 b) + w32 (b % 2147483648))] w fun e w' => QX w (fvS b) (fvP b) (fvQ b) e w' :=
 exactly_calls (neg32 b) (w32_lt (of_decide_eq_true hf)).1 w
/-- A fraction of a program's text: its sizes. -/
theorem Dig.sz {k : Nat} {x : Int} (h : Dig k x) : Sz (4 * k) x.natAbs := ⟨by
 have h1 : x.natAbs < 10 ^ k := h
 rw [Nat.pow_mul]
 exact Nat.lt_of_lt_of_le h1 (Nat.pow_le_pow_left (by decide) k)⟩
theorem frac_sz2 {s : ByteArray} (h : checkR s = 0) : Sz 480 (numR s).natAbs ∧ Sz 480 (denR s).natAbs ∧ 0 < (denR s).natAbs := by
 obtain ⟨d1, d2, d3⟩ := real_dig h
 exact ⟨d1.sz, d2.sz, by omega⟩
theorem to_lt (s : ByteArray) (h : toE s = 0) : toW s < 4294967296 ∧ fin32 (toW s) = true := by
 unfold toW toE at *
 by_cases hc : checkR s = 0
 ·rw [if_pos hc] at h ⊢
  obtain ⟨y1, y2, y3⟩ := frac_sz2 hc
  unfold nrE at h
  unfold nrW
  cases hn : near (minusB s) (numR s).natAbs (denR s).natAbs with
  | none => rw [hn] at h; exact absurd h (by decide)
  | some b =>
    have := near_lt y3 hn
    exact ⟨this.2, decide_eq_true this.1⟩
 ·rw [if_neg hc] at h; exact absurd h hc
theorem plN_sz {s z : Bool} {a b k : Nat} (ha : Sz k a) (hb : Sz k b) : Sz (k + 1) (plN s a z b) := by
 unfold plN
 split
 ·exact ha.add hb
 ·split
  ·exact (ha.le (Nat.sub_le _ _)).more (by omega)
  ·exact (hb.le (Nat.sub_le _ _)).more (by omega)
/-- What Error answers. -/
def erP (s : ByteArray) : Bool := plS (minusB s) ((numR s).natAbs * fvQ (toW s)) (!(fvS (toW s))) (fvP (toW s) * (denR s).natAbs)
def erN (s : ByteArray) : Nat := plN (minusB s) ((numR s).natAbs * fvQ (toW s)) (!(fvS (toW s))) (fvP (toW s) * (denR s).natAbs)
def erD (s : ByteArray) : Nat := (denR s).natAbs * fvQ (toW s)
def erS (s : ByteArray) : ByteArray := if toE s = 0 then ftS (sgI (erP s) (erN s / Nat.gcd (erN s) (erD s))) (erD s / Nat.gcd (erN s) (erD s) : Nat) else ⟨#[]⟩
def erE (s : ByteArray) : Int := if toE s = 0 then ftE (sgI (erP s) (erN s / Nat.gcd (erN s) (erD s))) (erD s / Nat.gcd (erN s) (erD s) : Nat) else toE s
theorem error_calls (s : ByteArray) (hs : s.size ≤ 10000) (w : World) (hE : EN w) :
 Calls Tryz.prog 20 #[.string s] w fun e w' => e = .returned (.tuple #[.string (erS s), .int .i64 (erE s)]) ∧ Below w.heap.size w w' := by
 have HC := Aside0.mk (to32_calls s hs w hE)
 unfold erS erE
 by_cases h : toE s = 0
 ·rw [if_pos h, if_pos h]
  have hc : checkR s = 0 := by
   by_cases hc : checkR s = 0
   ·exact hc
   ·unfold toE at h; rw [if_neg hc] at h; exact absurd h hc
  obtain ⟨y1, y2, y3⟩ := frac_sz2 hc
  obtain ⟨t1, t2⟩ := to_lt s h
  obtain ⟨z1, z2, z3⟩ := fv_sz t2
  have HP : Aside0 (∀ W, Below w.heap.size w W → Calls Tryz.prog 79 #[.string s] W fun e w' => QX W (minusB s) (numR s).natAbs (denR s).natAbs e w') := ⟨fun W hb => parse_calls2 s hs hc W (hE.below hb)⟩
  have hcv := conv_good (neg32 (toW s)) (r := toW s % 2147483648) (of_decide_eq_true t2)
  rw [← split32 t1] at hcv
  have HX := Aside0.mk (exactly32 t1 t2)
  have HM : Aside0 (∀ W A1 L1 c1 A2 L2 c2 A3 L3 c3 A4 L4 c4, N2 W A1 L1 c1 (numR s).natAbs A2 L2 c2 (denR s).natAbs → N2 W A3 L3 c3 (fvP (toW s)) A4 L4 c4 (fvQ (toW s)) → Calls Tryz.prog 80 #[qV (minusB s) A1 L1 c1 A2 L2 c2, qV (fvS (toW s)) A3 L3 c3 A4 L4 c4] W fun e w' => QX W (erP s) (erN s) (erD s) e w') :=
   ⟨fun W A1 L1 c1 A2 L2 c2 A3 L3 c3 A4 L4 c4 h1 h2 => qMinus_calls h1 h2 (y1.more (by omega)) (y2.more (by omega)) (z1.more (by omega)) (z2.more (by omega))⟩
  have u1 : Sz 4000 (erN s) := (plN_sz (k := 3480) (y1.mul z2) (z1.mul y2)).more (by omega)
  have u2 : Sz 4000 (erD s) := (y2.mul z2 (i := 3480)).more (by omega)
  have u3 : 0 < erD s := Nat.mul_pos y3 z3
  have HT : Aside0 (∀ W, Below w.heap.size w W → ∀ A1 L1 c1 A2 L2 c2, N2 W A1 L1 c1 (erN s) A2 L2 c2 (erD s) → Calls Tryz.prog 81 #[qV (erP s) A1 L1 c1 A2 L2 c2] W fun e w' => e = .returned (.tuple #[.string (ftS (sgI (erP s) (erN s / Nat.gcd (erN s) (erD s))) (erD s / Nat.gcd (erN s) (erD s) : Nat)), .int .i64 (ftE (sgI (erP s) (erN s / Nat.gcd (erN s) (erD s))) (erD s / Nat.gcd (erN s) (erD s) : Nat))]) ∧ Below W.heap.size W w') :=
   ⟨fun W hb A1 L1 c1 A2 L2 c2 hn => qText_calls hn (u1.more (by omega)) (u2.more (by omega)) u3 (hE.below hb)⟩
  rw [h] at HC
  clear h hc y1 y2 y3 t1 t2 z1 z2 z3 u1 u2 u3 hE hs
  unfold QX at *
  generalize ftS (sgI (erP s) (erN s / Nat.gcd (erN s) (erD s))) (erD s / Nat.gcd (erN s) (erD s) : Nat) = T at *
  generalize ftE (sgI (erP s) (erN s / Nat.gcd (erN s) (erD s))) (erD s / Nat.gcd (erN s) (erD s) : Nat) = TE at *
  generalize erP s = ep at *
  generalize erN s = en at *
  generalize erD s = ed at *
  generalize (numR s).natAbs = p at *
  generalize (denR s).natAbs = q at *
  generalize minusB s = z at *
  generalize toW s = x at *
  generalize fvS x = fs at *
  generalize fvP x = fp at *
  generalize fvQ x = fq at *
  generalize S64 (neg32 x) + w32 (x % 2147483648) = y at *
  go_enter Tryz.func20, Tryz.ntmps20
  go_wp2_with (first
   | (go_at_call 23; (with_reducible refine HC.out.mono ?_); rintro e W1 ⟨rfl, hb1⟩; have HB := Aside0.mk hb1; clear hb1)
   | (go_at_call 79; (with_reducible refine (HP.out _ HB.out).mono ?_); rintro e W2 ⟨A1, k1, c1, A2, k2, c2, rfl, hn, hb2⟩; have HN := Aside0.mk hn; have HB2 := Aside0.mk (HB.out.trans (hb2.mono HB.out.size)); clear hn hb2)
   | (go_at_call 64; (with_reducible refine (HX.out _).mono ?_); rintro e W3 ⟨A3, k3, c3, A4, k4, c4, rfl, hn, hb3⟩; have HN3 := Aside0.mk hn; have HN1 := Aside0.mk (HN.out.below hb3); have HB3 := Aside0.mk (HB2.out.trans (hb3.mono HB2.out.size)); clear hn hb3)
   | (go_at_call 80; (with_reducible refine (HM.out _ _ _ _ _ _ _ _ _ _ _ _ _ HN1.out HN3.out).mono ?_); rintro e W4 ⟨A5, k5, c5, A6, k6, c6, rfl, hn, hb4⟩; have HN5 := Aside0.mk hn; have HB4 := Aside0.mk (HB3.out.trans (hb4.mono HB3.out.size)); clear hn hb4)
   | (go_at_call 81; (with_reducible refine (HT.out _ HB4.out _ _ _ _ _ _ HN5.out).mono ?_); rintro e W5 ⟨rfl, hb5⟩; have HB5 := Aside0.mk (HB4.out.trans (hb5.mono HB4.out.size)); clear hb5))
  go_ret2
  exact ⟨rfl, HB5.out⟩
 ·rw [if_neg h, if_neg h]
  have hne : (toE s != 0) = true := by simp [h]
  clear h hE hs
  generalize toE s = k at *
  generalize toW s = x at *
  go_enter Tryz.func20, Tryz.ntmps20
  go_wp2_with (go_at_call 23; (with_reducible refine HC.out.mono ?_); rintro e W1 ⟨rfl, hb1⟩; have HB := Aside0.mk hb1; clear hb1)
  go_ret2
  exact ⟨rfl, HB.out⟩
/-- The unit of a finite float32, as a fraction. -/
def unP (b : Nat) : Nat := exP (rg64 1 (pl32 (b % 2147483648)))
def unQ (b : Nat) : Nat := exQ (rg64 1 (pl32 (b % 2147483648)))
theorem unQ_pos (b : Nat) : 0 < unQ b := vq_pos _
/-- The unit's string. -/
def fuS (b : Nat) : ByteArray := if fin32 b = true then fqS false (unP b) (unQ b) else ⟨#[]⟩
theorem and255 (b : Nat) (h : b < 4294967296) : bits .and .u32 ((b : Int) / 8388608) 255 = ((b % 2147483648 / 8388608 : Nat) : Int) := by
 have := u32_and_nat (b / 8388608) 255 (by omega) (by decide)
 have h2 := Nat.and_two_pow_sub_one_eq_mod (b / 8388608) 8
 simp only [Nat.reducePow, Nat.reduceSub] at h2
 rw [h2] at this
 rw [show ((b : Int) / 8388608) = ((b / 8388608 : Nat) : Int) by omega]
 rw [show (255 : Int) = ((255 : Nat) : Int) from rfl, this]
 congr 1
 omega
theorem one64 : rg64 1 0 = 4607182418800017408 := by decide
theorem unit_exp {r : Nat} : max (((r / 8388608 : Nat) : Int) - 150) (-149) = pl32 r := by unfold pl32; split <;> omega
theorem unit_good {b : Nat} (h : b < 4294967296) (hf : fin32 b = true) (w : World) :
 Calls Tryz.prog 19 #[.float .f32 b] w fun e w' => e = .returned (.tuple #[.string (fqS false (unP b) (unQ b)), .int .i64 0]) ∧ Below w.heap.size w w' := by
 have hr : b % 2147483648 < 2139095040 := of_decide_eq_true hf
 have hcv := conv_good (neg32 b) (r := b % 2147483648) hr
 rw [← split32 h] at hcv
 have HF := Aside0.mk (isFinite_good (neg32 b) (r := b % 2147483648) hr)
 have hand := and255 b h
 have hbt := run_bits32 b
 have p1 := pl32_ge (b % 2147483648)
 have p2 := pl32_le hr
 have hx : max (((b % 2147483648 / 8388608 : Nat) : Int) - 150) (-149) = pl32 (b % 2147483648) := unit_exp
 have hk : b % 2147483648 / 8388608 < 256 := by omega
 have HL := Aside0.mk (ldexp_calls (m := 1) (e0 := 0) (e := pl32 (b % 2147483648)) (by decide) (by decide) (by decide) (by decide) (by rw [show Nat.log2 1 = 0 by decide]; omega) (by rw [show Nat.log2 1 = 0 by decide]; omega))
 rw [one64, Int.zero_add] at HL
 have y0 : rg64 1 (pl32 (b % 2147483648)) < 9218868437227405312 := (dbl_rg (s := false) (m := 1) (e := pl32 (b % 2147483648)) (by decide) (by rw [show Nat.log2 1 = 0 by decide]; omega) (by rw [show Nat.log2 1 = 0 by decide]; omega)).2
 obtain ⟨y1, y2, y3⟩ := ex_sz y0
 have HX : Aside0 (∀ W, Calls Tryz.prog 64 #[.float .f64 (rg64 1 (pl32 (b % 2147483648)))] W fun e w' => QX W false (unP b) (unQ b) e w') := ⟨fun W => by
  have := exactly_calls false y0 W
  rw [s64f] at this
  exact this⟩
 have HS : Aside0 (∀ W A1 L1 c1 A2 L2 c2, N2 W A1 L1 c1 (unP b) A2 L2 c2 (unQ b) → Calls Tryz.prog 76 #[qV false A1 L1 c1 A2 L2 c2] W fun e w' =>
  e = .returned (.string (fqS false (unP b) (unQ b))) ∧ Below W.heap.size W w') := ⟨fun W A1 L1 c1 A2 L2 c2 hn => qString_calls hn (Sz.more (k := 200000) y1 (by omega)) (Sz.more (k := 200000) y2 (by omega)) y3⟩
 clear h hf hr y0 y1 y2 y3
 unfold QX at *
 generalize fqS false (unP b) (unQ b) = T at *
 generalize unP b = p at *
 generalize unQ b = q at *
 generalize rg64 1 (pl32 (b % 2147483648)) = u at *
 generalize pl32 (b % 2147483648) = e at *
 generalize b % 2147483648 / 8388608 = k at *
 generalize S64 (neg32 b) + w32 (b % 2147483648) = y at *
 have v1 : IntKind.i64.wrap ((k : Int) - 150) = (k : Int) - 150 := IntWalk.i64_in _ (by omega)
 go_enter Tryz.func19, Tryz.ntmps19
 go_wp2_with (first
  | (go_at_call 63; (with_reducible refine (HF.out _).mono ?_); rintro e W1 ⟨rfl, hwq⟩; rw [hwq]; clear hwq)
  | (go_at_call 78; (with_reducible refine (HL.out _).mono ?_); rintro e W1 ⟨rfl, hwq⟩; rw [hwq]; clear hwq)
  | (go_at_call 64; (with_reducible refine (HX.out _).mono ?_); rintro e W2 ⟨A1, k1, c1, A2, k2, c2, rfl, hn, hb2⟩; have HM := Aside0.mk hn; have HB2 := Aside0.mk hb2; clear hn hb2)
  | (go_at_call 76; (with_reducible refine (HS.out _ _ _ _ _ _ _ HM.out).mono ?_); rintro e W3 ⟨rfl, hb3⟩; have HB3 := Aside0.mk (HB2.out.trans (hb3.mono HB2.out.size)); clear hb3))
 go_ret2
 exact ⟨rfl, HB3.out⟩
theorem unit_bad (s : Bool) {r : Nat} (h : 2139095040 ≤ r) (h2 : r < 2147483648) (w : World) :
 Calls Tryz.prog 19 #[.float .f32 (S32 s + r)] w fun e w' => e = .returned (.tuple #[.string ⟨#[]⟩, .int .i64 1]) ∧ Below w.heap.size w w' := by
 obtain ⟨y, wd, hcv, hb, hf⟩ := conv_bad s h h2 w
 have HF := Aside0.mk hf
 have HB := Aside0.mk hb
 clear hf hb h h2
 generalize S32 s + r = x at *
 go_enter Tryz.func19, Tryz.ntmps19
 go_wp2_with (go_at_call 63; (with_reducible refine (HF.out _).mono ?_); rintro e W1 ⟨rfl, hwq⟩; rw [hwq]; clear hwq)
 go_ret2
 exact ⟨rfl, HB.out⟩
theorem unit_calls {b : Nat} (h : b < 4294967296) (w : World) :
 Calls Tryz.prog 19 #[.float .f32 b] w fun e w' => e = .returned (.tuple #[.string (fuS b), .int .i64 (fmE b)]) ∧ Below w.heap.size w w' := by
 unfold fmE fuS
 by_cases hf : fin32 b = true
 ·rw [if_pos hf, if_pos hf]
  exact unit_good h hf w
 ·rw [if_neg hf, if_neg hf]
  have h3 : ¬ b % 2147483648 < 2139095040 := fun h4 => hf (decide_eq_true h4)
  have := unit_bad (neg32 b) (r := b % 2147483648) (by omega) (Nat.mod_lt _ (by decide)) w
  rw [← split32 h] at this
  exact this
end
section
open Go.Lib Go.Proofs.YtnjbinpbkjdjpaaGreatDoorW.PrintLast Go.Proofs.YtnjbinpbkjdjpaaGreatDoorW.PrintMore Go.Proofs.YtnjbinpbkjdjpaaGreatDoorW.PrintWords Go.RowKit Go.Shelf
theorem re_zero {a b : ByteArray} (ha : checkR a = 0) (hb : checkR b = 0) : reE a b = 0 := by unfold reE; rw [ha, hb]; decide
theorem re_of {of : Int → Int → Int → Int → Int × Int} {a b : ByteArray} (ha : checkR a = 0) (hb : checkR b = 0) {p q r s : Int} (h1 : numR a = p) (h2 : denR a = q) (h3 : numR b = r) (h4 : denR b = s) :
 reS of a b = rsS (of p q r s).1 (of p q r s).2 ∧ reR of a b = rsE (of p q r s).1 (of p q r s).2 := by
 unfold reS reR
 rw [if_pos (re_zero ha hb), if_pos (re_zero ha hb), h1, h2, h3, h4]
 exact ⟨rfl, rfl⟩
theorem fr_sz {p q : Int} (hp : Dig 120 p) (hq : Dig 120 q) : (frS p q).size ≤ 80000 := by
 have h1 := strI_size hp
 have h2 := strI_size hq
 have h := congrArg List.length (frS_list p q)
 have k : ∀ t : ByteArray, t.data.toList.length = t.size := fun t => by simp
 rw [List.length_append, List.length_cons, k, k, k] at h
 omega
/-- A fraction in lowest terms, with its string. -/
structure Frc (s : ByteArray) (p q : Int) : Prop where
 str : s = frS p q
 pos : 0 < q
 low : Int.gcd p q = 1
 dp : Dig 120 p
 dq : Dig 120 q
section
variable {s a b : ByteArray} {p q p1 q1 p2 q2 : Int}
theorem Frc.check (h : Frc s p q) : checkR s = 0 ∧ numR s = p ∧ denR s = q := by rw [h.str]; exact fr_check h.dp h.dq h.pos h.low
theorem Frc.size (h : Frc s p q) : s.size ≤ 80000 := by rw [h.str]; exact fr_sz h.dp h.dq
theorem Frc.of (h : checkR s = 0) : Frc s (numR s) (denR s) := ⟨fr_of h, (checkR_ok h).2.2.1, (checkR_ok h).2.2.2, (real_dig h).1, (real_dig h).2.1⟩
theorem Frc.back (h : Frc s p q) : rsS p q = s ∧ rsE p q = 0 := by
 obtain ⟨P, Q, h1, h2, h3, h4, h5, _, _⟩ := rs_ok h.dp h.dq (show q ≠ 0 by have := h.pos; omega)
 obtain ⟨e1, e2⟩ := low_unique (p := P) (q := Q) (r := p) (s := q) h4 h.pos h5 h.low h3
 rw [h1, e1, e2, ← h.str]
 exact ⟨rfl, h2⟩
theorem Frc.op (h1 : Frc a p1 q1) (h2 : Frc b p2 q2) (of : Int → Int → Int → Int → Int × Int) : reS of a b = rsS (of p1 q1 p2 q2).1 (of p1 q1 p2 q2).2 ∧ reR of a b = rsE (of p1 q1 p2 q2).1 (of p1 q1 p2 q2).2 :=
 re_of h1.check.1 h2.check.1 h1.check.2.1 h1.check.2.2 h2.check.2.1 h2.check.2.2
theorem Frc.cmp (h1 : Frc a p1 q1) (h2 : Frc b p2 q2) : cmpR a b = cmpI (p1 * q2) (p2 * q1) ∧ reE a b = 0 := by
 have hz := re_zero h1.check.1 h2.check.1
 unfold cmpR
 rw [if_pos hz, h1.check.2.1, h1.check.2.2, h2.check.2.1, h2.check.2.2]
 exact ⟨rfl, hz⟩
theorem Frc.inj (h1 : Frc a p1 q1) (h2 : Frc b p2 q2) (h : p1 * q2 = p2 * q1) : a = b := by
 obtain ⟨e1, e2⟩ := low_unique h1.pos h2.pos h1.low h2.low h
 rw [h1.str, h2.str, e1, e2]
theorem Frc.res {y z : Int} (hy : Dig 120 y) (hz : Dig 120 z) (h0 : z ≠ 0) : ∃ s P Q, rsS y z = s ∧ rsE y z = 0 ∧ Frc s P Q ∧ P * z = y * Q := by
 obtain ⟨P, Q, h1, h2, h3, h4, h5, h6, h7⟩ := rs_ok hy hz h0
 exact ⟨_, P, Q, h1, h2, ⟨rfl, h4, h5, h6, h7⟩, h3⟩
end
theorem pos_ne {a b : Int} (ha : 0 < a) (hb : 0 < b) : a * b ≠ 0 := by have := Int.mul_pos ha hb; omega
end
section
open Go.Proofs.YtnjbinpbkjdjpaaGreatDoor.Rf Go.Proofs.YtnjbinpbkjdjpaaGreatDoorW.PrintLast Go.Proofs.YtnjbinpbkjdjpaaGreatDoorW.PrintMore Go.Proofs.YtnjbinpbkjdjpaaGreatDoorW.PrintWords Go.RowKit Go.Shelf Ieee
theorem evn_half {A B : Nat} (hB : 0 < B) : 2 * A ≤ 2 * (evn A B * B) + B ∧ 2 * (evn A B * B) ≤ 2 * A + B := by
 have h1 := Nat.div_add_mod A B
 have h3 := Nat.mod_lt A hB
 rw [Nat.mul_comm] at h1
 unfold evn
 split
 ·rw [Nat.add_mul, Nat.one_mul]
  generalize A / B * B = x at *
  omega
 ·rw [Nat.add_zero]
  rename_i h2
  generalize A / B * B = x at *
  omega
theorem cancelR {a b c : Rat} (hc : c ≠ 0) (h : a * c = b * c) : a = b := by
 have : (a - b) * c = 0 := by grind
 grind
theorem leR {a b c : Rat} (hc : 0 < c) (h : a * c ≤ b * c) : a ≤ b := by
 rcases Std.le_total (a := a) (b := b) with h1 | h1
 ·exact h1
 ·exact Rat.le_of_mul_le_mul_right h hc
theorem half_rat {P Q R T U V H G Dn Dd σ p q c d M fP fQ uP uQ : Rat} (hQ : 0 < Q) (hT : 0 < T) (hV : 0 < V) (hG : 0 < G) (hD : 0 < Dd) (hq : 0 < q) (hc : 0 < c) (hf : 0 < fQ) (hu : 0 < uQ)
 (hs : σ = 1 ∨ σ = -1) (h1 : P * q = σ * p * Q) (h2 : R * fQ = σ * fP * T) (h3 : fP * c = M * fQ) (h4 : 2 * (p * c) ≤ 2 * (M * q) + q * d) (h4' : 2 * (M * q) ≤ 2 * (p * c) + q * d)
 (h5 : U * uQ = uP * V) (h6 : d * uQ ≤ uP * c) (h7 : H * (V * 2) = U * G) (h8 : Dn * (Q * T) = (P * T - R * Q) * Dd) : Dn * G ≤ H * Dd ∧ (-Dn) * G ≤ H * Dd := by
 obtain ⟨x, rfl⟩ : ∃ x, P = x * Q := ⟨P / Q, by grind⟩
 obtain ⟨y, rfl⟩ : ∃ y, R = y * T := ⟨R / T, by grind⟩
 obtain ⟨u, rfl⟩ : ∃ u, U = u * V := ⟨U / V, by grind⟩
 obtain ⟨η, rfl⟩ : ∃ η, H = η * G := ⟨H / G, by grind⟩
 have e1 : x * q = σ * p := cancelR (c := Q) (by grind) (by grind)
 have e2 : y * fQ = σ * fP := cancelR (c := T) (by grind) (by grind)
 have e3 : y * c = σ * M := cancelR (c := fQ) (by grind) (by grind)
 have e5 : u * uQ = uP := cancelR (c := V) (by grind) (by grind)
 subst e5
 have e6 : d ≤ u * c := leR hu (by grind)
 have e7 : η * 2 = u := cancelR (c := V * G) (by have := Rat.mul_pos hV hG; grind) (by grind)
 have e8 : Dn = (x - y) * Dd := cancelR (c := Q * T) (by have := Rat.mul_pos hQ hT; grind) (by grind)
 have hqc := Rat.mul_pos hq hc
 have k1 : q * d ≤ q * (u * c) := Rat.mul_le_mul_of_nonneg_left e6 (by grind)
 have k2 : 2 * (x - y) ≤ u ∧ 2 * (y - x) ≤ u := by
  rcases hs with rfl | rfl
  ·obtain rfl : p = x * q := by grind
   obtain rfl : M = y * c := by grind
   clear e1 e2 e3 e7 e8 h1 h2 h3 h5 h6 h7 h8
   exact ⟨leR hqc (by grind), leR hqc (by grind)⟩
  ·obtain rfl : p = -x * q := by grind
   obtain rfl : M = -y * c := by grind
   clear e1 e2 e3 e7 e8 h1 h2 h3 h5 h6 h7 h8
   exact ⟨leR hqc (by grind), leR hqc (by grind)⟩
 have hDG := Rat.mul_pos hD hG
 have m1 : (x - y) * (Dd * G) ≤ η * (Dd * G) := Rat.mul_le_mul_of_nonneg_right (by grind) (by grind)
 have m2 : (y - x) * (Dd * G) ≤ η * (Dd * G) := Rat.mul_le_mul_of_nonneg_right (by grind) (by grind)
 subst e8
 constructor <;> grind
theorem half_int {P Q R T U V H G Dn Dd σ : Int} {p q c d M fP fQ uP uQ : Nat} (hQ : 0 < Q) (hT : 0 < T) (hV : 0 < V) (hG : 0 < G) (hD : 0 < Dd) (hq : 0 < q) (hc : 0 < c) (hf : 0 < fQ) (hu : 0 < uQ)
 (hs : σ = 1 ∨ σ = -1) (h1 : P * q = σ * p * Q) (h2 : R * fQ = σ * fP * T) (h3 : fP * c = M * fQ) (h4 : 2 * (p * c) ≤ 2 * (M * q) + q * d) (h4' : 2 * (M * q) ≤ 2 * (p * c) + q * d)
 (h5 : U * uQ = uP * V) (h6 : d * uQ ≤ uP * c) (h7 : H * (V * 2) = U * G) (h8 : Dn * (Q * T) = (P * T - R * Q) * Dd) : Dn * G ≤ H * Dd ∧ (-Dn) * G ≤ H * Dd := by
 have key := half_rat (P := P) (Q := Q) (R := R) (T := T) (U := U) (V := V) (H := H) (G := G) (Dn := Dn) (Dd := Dd) (σ := σ) (p := p) (q := q) (c := c) (d := d) (M := M) (fP := fP) (fQ := fQ) (uP := uP) (uQ := uQ)
  (by exact_mod_cast hQ) (by exact_mod_cast hT) (by exact_mod_cast hV) (by exact_mod_cast hG) (by exact_mod_cast hD) (by exact_mod_cast hq) (by exact_mod_cast hc) (by exact_mod_cast hf) (by exact_mod_cast hu)
  (by rcases hs with rfl | rfl <;> simp) (by exact_mod_cast h1) (by exact_mod_cast h2) (by exact_mod_cast h3) (by exact_mod_cast h4) (by exact_mod_cast h4') (by exact_mod_cast h5) (by exact_mod_cast h6) (by exact_mod_cast h7) (by exact_mod_cast h8)
 exact ⟨by exact_mod_cast key.1, by exact_mod_cast key.2⟩
/-- The word of the nearest float32: its rung, and its value. -/
theorem near_rung {s : Bool} {p q z : Nat} (hq : 0 < q) (h : near s p q = some z) :
 ∃ t, z = S32 (s && decide (rm p q ≠ 0)) + t ∧ t < 2139095040 ∧ expE p q ≤ pl32 t ∧ vp (rm p q) (expE p q) * vq (pl32 t) = vp (sg32 t) (pl32 t) * vq (expE p q) ∧ (rm p q = 0 → t = 0) := by
 have hE := expE_low p q
 have hrm := rm_le (p := p) hq
 have hge := fun h7 => rm_ge (p := p) hq h7
 have hlt := near_lt hq h
 unfold near at h
 by_cases h0 : rm p q = 0
 ·rw [if_pos h0] at h
  injection h with h
  subst h
  have h9 : expE p q = -149 := by
   rcases Int.lt_or_le (-149) (expE p q) with h7 | h7
   ·have := hge h7; omega
   ·omega
  refine ⟨0, ?_, by omega, ?_, ?_, fun _ => rfl⟩
  ·unfold S32; simp [h0]
  ·rw [h9]; decide
  ·rw [h0, vp_zero, show sg32 0 = 0 by decide, vp_zero, Nat.zero_mul, Nat.zero_mul]
 ·rw [if_neg h0] at h
  by_cases h1 : (wid (rm p q) : Int) + expE p q > 128
  ·rw [if_pos h1] at h; cases h
  ·rw [if_neg h1] at h
   injection h with h
   have hw : wid (rm p q) = (rm p q).log2 + 1 := by unfold wid; rw [if_neg h0]
   have h5 : 8388608 ≤ rm p q ∨ expE p q = -149 := by
    by_cases h7 : -149 < expE p q
    ·exact .inl (hge h7)
    ·exact .inr (by omega)
   have h8 : expE p q + 149 ≤ 277 := by omega
   have h9 : 8388608 ≤ rm p q → 23 ≤ (rm p q).log2 := fun h => (Nat.le_log2 h0).2 (by simpa using h)
   clear hge
   generalize rm p q = M at *
   generalize expE p q = E at *
   have key : (E + 149).toNat * 8388608 + M < 2139095040 := by
    have h3 := hlt.1
    rw [← h] at h3
    have h6 : (E + 149).toNat * 8388608 + M < 2147483648 := by
     rcases h5 with h5 | h5
     ·have := h9 h5; omega
     ·omega
    split at h3 <;> omega
   refine ⟨(E + 149).toNat * 8388608 + M, ?_, key, ?_, ?_, fun h => absurd h h0⟩
   ·rw [← h, decide_eq_true h0, Bool.and_true]; rfl
   ·unfold pl32
    split <;> omega
   ·rcases Nat.lt_or_ge M 16777216 with h7 | h7
    ·have e1 : sg32 ((E + 149).toNat * 8388608 + M) = M := by unfold sg32; split <;> omega
     have e2 : pl32 ((E + 149).toNat * 8388608 + M) = E := by unfold pl32; split <;> omega
     rw [e1, e2]
    ·have h8 : M = 16777216 := by omega
     have e1 : sg32 ((E + 149).toNat * 8388608 + M) = 8388608 := by unfold sg32; split <;> omega
     have e2 : pl32 ((E + 149).toNat * 8388608 + M) = E + 1 := by unfold pl32; split <;> omega
     rw [e1, e2, h8]
     have := vp_scale 8388608 (E + 1) 1
     rw [show E + 1 - ((1 : Nat) : Int) = E by omega] at this
     exact this
theorem rung_split {s : Bool} {t : Nat} (ht : t < 2139095040) : (S32 s + t) % 2147483648 = t ∧ neg32 (S32 s + t) = s ∧ S32 s + t < 4294967296 ∧ fin32 (S32 s + t) = true := by
 unfold neg32 fin32 S32
 cases s
 ·refine ⟨by simp; omega, ?_, by simp; omega, ?_⟩
  ·rw [decide_eq_false]; simp; omega
  ·rw [decide_eq_true]; simp; omega
 ·refine ⟨by simp; omega, ?_, by simp; omega, ?_⟩
  ·rw [decide_eq_true]; simp
  ·rw [decide_eq_true]; simp; omega
theorem fv_dy {b : Nat} (hf : fin32 b = true) : fvP b * vq (pl32 (b % 2147483648)) = vp (sg32 (b % 2147483648)) (pl32 (b % 2147483648)) * fvQ b := by
 have h1 := sg32_lt (b % 2147483648)
 have h2 := pl32_ge (b % 2147483648)
 exact ex_dbl (by omega) (by omega)
theorem fv_sgn (b : Nat) : sgI (fvS b) (fvP b) = sgI (neg32 b) (fvP b) := by
 unfold fvS exS
 by_cases h : w32 (b % 2147483648) = 0
 ·have : fvP b = 0 := by unfold fvP exP exm; rw [h, if_pos rfl, vp_zero]
  rw [this]; unfold sgI; simp
 ·rw [decide_eq_true h, Bool.and_true]
theorem fvP_zero {b : Nat} (h : b % 2147483648 = 0) : fvP b = 0 := by
 unfold fvP; rw [h, show w32 0 = 0 by decide]; unfold exP exm; rw [if_pos rfl, vp_zero]
theorem un_dy (b : Nat) : unP b * vq (pl32 (b % 2147483648)) = vp 1 (pl32 (b % 2147483648)) * unQ b := by
 have h2 := pl32_ge (b % 2147483648)
 exact ex_dbl (by omega) (by omega)
/-- All that the nearest float32 promises. -/
theorem near_half {s : Bool} {p q z : Nat} (hq : 0 < q) (h : near s p q = some z) :
 z < 4294967296 ∧ fin32 z = true ∧ sgI (fvS z) (fvP z) = sgI s (fvP z) ∧ ∃ c d M : Nat, 0 < c ∧ fvP z * c = M * fvQ z ∧ 2 * (p * c) ≤ 2 * (M * q) + q * d ∧ 2 * (M * q) ≤ 2 * (p * c) + q * d ∧ d * unQ z ≤ unP z * c := by
 obtain ⟨t, hz, ht, hE, hv, h0⟩ := near_rung hq h
 obtain ⟨r1, r2, r3, r4⟩ := rung_split (s := s && decide (rm p q ≠ 0)) ht
 rw [← hz] at r1 r2 r3 r4
 have h1 := fv_dy r4
 have h2 := un_dy z
 rw [r1] at h1 h2
 refine ⟨r3, r4, ?_, 2 ^ (-expE p q).toNat, 2 ^ (expE p q).toNat, rm p q * 2 ^ (expE p q).toNat, pp _, ?_, ?_, ?_, ?_⟩
 ·rw [fv_sgn, r2]
  by_cases h3 : rm p q = 0
  ·rw [fvP_zero (b := z) (by rw [r1, h0 h3])]; unfold sgI; simp
  ·rw [decide_eq_true h3, Bool.and_true]
 ·exact cross_trans (vq_pos (pl32 t)) h1 hv.symm
 ·have := (evn_half (A := upA (expE p q) p) (upB_pos hq (expE p q))).1
  unfold upA upB at this
  unfold rm upA upB
  rw [show ∀ a b c : Nat, a * b * c = a * (c * b) from fun a b c => by ac_rfl]
  exact this
 ·have := (evn_half (A := upA (expE p q) p) (upB_pos hq (expE p q))).2
  unfold upA upB at this
  unfold rm upA upB
  rw [show ∀ a b c : Nat, a * b * c = a * (c * b) from fun a b c => by ac_rfl]
  exact this
 ·have k1 : 2 ^ (expE p q).toNat * vq (pl32 t) ≤ vp 1 (pl32 t) * 2 ^ (-expE p q).toNat := by
   unfold vq vp
   rw [Nat.one_mul, ← Nat.pow_add, ← Nat.pow_add]
   exact Nat.pow_le_pow_right (by decide) (by omega)
  refine Nat.le_of_mul_le_mul_right ?_ (vq_pos (pl32 t))
  calc 2 ^ (expE p q).toNat * unQ z * vq (pl32 t) = (2 ^ (expE p q).toNat * vq (pl32 t)) * unQ z := by ac_rfl
   _ ≤ (vp 1 (pl32 t) * 2 ^ (-expE p q).toNat) * unQ z := Nat.mul_le_mul_right _ k1
   _ = (vp 1 (pl32 t) * unQ z) * 2 ^ (-expE p q).toNat := by ac_rfl
   _ = (unP z * vq (pl32 t)) * 2 ^ (-expE p q).toNat := by rw [h2]
   _ = unP z * 2 ^ (-expE p q).toNat * vq (pl32 t) := by ac_rfl
/-- Sizes of the value of a float32 and of its unit. -/
theorem ex_small {m : Nat} {e : Int} (hm : m < 16777216) (h1 : -149 ≤ e) (h2 : e ≤ 104) : Sz 140 (exP (rg64 m e)) ∧ Sz 210 (exQ (rg64 m e)) := by
 by_cases h0 : m = 0
 ·subst h0
  rw [show rg64 0 e = 0 by unfold rg64; rw [if_pos rfl]]
  exact ⟨⟨by decide +kernel⟩, ⟨by decide +kernel⟩⟩
 ·have hl := log2_24 (m := m) (by omega)
  obtain ⟨n1, n2⟩ := norm53 h0 (by omega)
  obtain ⟨s1, s2⟩ := rg_sig (m := m) (e := e) h0 (by omega) (by omega)
  obtain ⟨a1, a2, a3, a4⟩ := rg_parts (m := m) (e := e) h0 (by omega) (by omega) (by omega)
  have e1 : (sg64 (rg64 m e)).log2 = 52 := by rw [s1]; exact log2_52 n1 n2
  have e2 : exe (rg64 m e) = e - (52 - m.log2 : Nat) := by unfold exe; rw [if_neg (by omega), e1, s2]; omega
  have e3 : exm (rg64 m e) < 9007199254740992 := exm_lt a2
  unfold exP exQ vp vq
  rw [e2]
  refine ⟨?_, ⟨Nat.pow_lt_pow_right (by decide) (by omega)⟩⟩
  have z1 : Sz 53 (exm (rg64 m e)) := ⟨Nat.lt_of_lt_of_le e3 (by decide)⟩
  exact (z1.mul (sz_pow (n := (e - (52 - m.log2 : Nat)).toNat) (k := 85) (by omega)) (i := 138)).more (by omega)
theorem fv_small {b : Nat} (hf : fin32 b = true) : Sz 140 (fvP b) ∧ Sz 210 (fvQ b) := ex_small (sg32_lt _) (pl32_ge _) (pl32_le (of_decide_eq_true hf))
theorem un_small {b : Nat} (hf : fin32 b = true) : Sz 140 (unP b) ∧ Sz 210 (unQ b) := ex_small (by decide) (pl32_ge _) (pl32_le (of_decide_eq_true hf))
theorem rs_err (y z : Int) : rsE y z = 0 ∨ rsE y z = 4 := by
 unfold rsE ftE wrE
 by_cases c1 : 120 < lenI (y / lowD y z) <;> by_cases c2 : 120 < lenI (z / lowD y z) <;> simp [c1, c2, firstI]
theorem ft_zero {p q : Int} (h : ftE p q = 0) : wrE p = 0 ∧ wrE q = 0 := by
 unfold ftE wrE at *
 by_cases c1 : 120 < lenI p <;> by_cases c2 : 120 < lenI q <;> simp [c1, c2, firstI] at h ⊢
theorem wr_dig2 {x : Int} (h : wrE x = 0) : Dig 120 x := by
 unfold wrE at h
 split at h
 ·omega
 ·rename_i h1
  have h2 := dv_lt _ (dec_digits x.natAbs)
  rw [dv_dec] at h2
  exact Nat.lt_of_lt_of_le h2 (Nat.pow_le_pow_right (by decide) (by unfold lenI at h1; omega))
theorem rs_frc {y z : Int} (hz : z ≠ 0) (h : rsE y z = 0) : ∃ P Q, Frc (rsS y z) P Q ∧ P * z = y * Q := by
 obtain ⟨P, Q, a1, a2, a3, a4, a5, a6⟩ := low_facts (y := y) hz
 unfold rsE at h
 rw [a1, a2] at h
 have h2 := ft_zero h
 have dP := wr_dig2 h2.1
 have dQ := wr_dig2 h2.2
 refine ⟨P, Q, ⟨?_, a5, a6, dP, dQ⟩, mul_swap a3 a4⟩
 unfold rsS ftS
 rw [a1, a2, if_pos h, (wr_dig dP).2, (wr_dig dQ).2]
 rfl
theorem lowD_pos {x : Int} {q : Nat} (hq : 0 < q) : lowD x q = (Nat.gcd x.natAbs q : Int) := by
 unfold lowD
 rw [if_neg (by omega)]
 rfl
theorem sg_div (s : Bool) {p g : Nat} (h : g ∣ p) : sgI s p / (g : Int) = sgI s (p / g) := by
 unfold sgI
 cases s
 ·simp
 ·simp only [if_true]
  rw [Int.neg_ediv_of_dvd (Int.natCast_dvd_natCast.2 h)]
  rfl
theorem fq_low {s : Bool} {p q : Nat} (hq : 0 < q) : sgI s p / lowD (sgI s p) q = sgI s (p / Nat.gcd p q) ∧ (q : Int) / lowD (sgI s p) q = ((q / Nat.gcd p q : Nat) : Int) := by
 rw [lowD_pos hq, sgI_abs, sg_div s (Nat.gcd_dvd_left p q)]
 exact ⟨rfl, rfl⟩
theorem fq_rs {s : Bool} {p q : Nat} (hq : 0 < q) : ftS (sgI s (p / Nat.gcd p q)) (q / Nat.gcd p q : Nat) = rsS (sgI s p) q ∧ ftE (sgI s (p / Nat.gcd p q)) (q / Nat.gcd p q : Nat) = rsE (sgI s p) q := by
 unfold rsS rsE
 rw [(fq_low hq).1, (fq_low hq).2]
 exact ⟨rfl, rfl⟩
theorem Sz.dig {x : Int} (h : Sz 390 x.natAbs) : Dig 120 x := Nat.lt_of_lt_of_le h.lt (by decide +kernel)
theorem Sz.digN {s : Bool} {p : Nat} (h : Sz 390 p) : Dig 120 (sgI s p) := Sz.dig (by rw [sgI_abs]; exact h)
theorem fq_frc {s : Bool} {p q : Nat} (hq : 0 < q) (h1 : Sz 390 p) (h2 : Sz 390 q) : ∃ P Q, Frc (fqS s p q) P Q ∧ P * q = sgI s p * Q := by
 obtain ⟨P, Q, a1, a2, a3, a4, a5, a6⟩ := low_facts (y := sgI s p) (z := (q : Int)) (by omega)
 have dP := (Sz.digN (s := s) h1).of_mul (lowD_ne (by omega)) a3
 have dQ := (Sz.dig (x := (q : Int)) h2).of_mul (lowD_ne (by omega)) a4
 rw [(fq_low hq).1] at a1
 rw [(fq_low hq).2] at a2
 refine ⟨P, Q, ⟨?_, a5, a6, dP, dQ⟩, mul_swap a3 a4⟩
 unfold fqS
 rw [a1, a2]
theorem pl_int (s z : Bool) (a b : Nat) : sgI (plS s a z b) (plN s a z b) = sgI s a + sgI z b := by
 unfold sgI plS plN
 by_cases h : b ≤ a <;> cases s <;> cases z <;> simp [h] <;> omega
theorem ti_int (s z : Bool) (a b : Nat) : sgI (!(s == z)) (a * b) = sgI s a * sgI z b := by
 unfold sgI
 cases s <;> cases z <;> simp [Int.neg_mul, Int.mul_neg]
theorem sgI_not (s : Bool) (a : Nat) : sgI (!s) a = -sgI s a := by unfold sgI; cases s <;> simp
theorem sgI_mul (s : Bool) (a b : Nat) : sgI s (a * b) = sgI s a * b := by unfold sgI; cases s <;> simp [Int.neg_mul]
theorem sgI_one (s : Bool) (a : Nat) : sgI s a = (if s then (-1 : Int) else 1) * a := by unfold sgI; cases s <;> simp
theorem fm_frc {b : Nat} (hf : fin32 b = true) : ∃ P Q, Frc (fmS b) P Q ∧ P * fvQ b = sgI (fvS b) (fvP b) * Q := by
 obtain ⟨y1, y2⟩ := fv_small hf
 unfold fmS
 rw [if_pos hf]
 exact fq_frc (fv_sz hf).2.2 (y1.more (by omega)) (y2.more (by omega))
theorem fu_frc {b : Nat} (hf : fin32 b = true) : ∃ P Q, Frc (fuS b) P Q ∧ P * unQ b = unP b * Q := by
 obtain ⟨y1, y2⟩ := un_small hf
 unfold fuS
 rw [if_pos hf]
 exact fq_frc (unQ_pos b) (y1.more (by omega)) (y2.more (by omega))
theorem frc_half : Frc ⟨#[49, 47, 50]⟩ 1 2 := ⟨by decide +kernel, by decide, by decide, by unfold Dig; decide +kernel, by unfold Dig; decide +kernel⟩
theorem minus_sgn {x : ByteArray} (h : checkR x = 0) : minusB x = decide (numR x < 0) := by
 obtain ⟨k1, k2, k3, k4⟩ := checkR_ok h
 have e := (cut_body x).2.2
 cases hm : minusB (cutA 47 x)
 ·rw [← e, hm]
  have : ¬ numR x < 0 := by unfold numR intI; rw [hm, if_neg (by decide)]; omega
  rw [decide_eq_false this]
 ·rw [← e, hm]
  have : numR x < 0 := minus_neg k1 hm
  rw [decide_eq_true this]
theorem near_sgn {s z : Bool} {p q : Nat} (h : rm p q = 0) : near s p q = near z p q := by unfold near; rw [if_pos h, if_pos h]
theorem sgn_eq {s : Bool} {p q : Nat} {P Q : Int} (hq : 0 < q) (hQ : 0 < Q) (hp : p ≠ 0) (h : P * q = sgI s p * Q) : decide (P < 0) = s := by
 have hq' : (0 : Int) < q := by omega
 have hp' : (0 : Int) < p := by omega
 unfold sgI at h
 cases s
 ·simp at h
  have := Int.mul_pos hp' hQ
  rw [decide_eq_false]
  intro h2
  have := Int.mul_neg_of_neg_of_pos h2 hq'
  omega
 ·simp [Int.neg_mul] at h
  have := Int.mul_pos hp' hQ
  rw [decide_eq_true]
  rcases Int.lt_or_le P 0 with h2 | h2
  ·exact h2
  ·have := Int.mul_nonneg h2 (Int.le_of_lt hq')
   omega
/-- The nearest float32 of a fraction's string. -/
theorem to_same {x : ByteArray} {P Q : Int} (hx : Frc x P Q) {s : Bool} {p q z : Nat} (hq : 0 < q) (h : P * q = sgI s p * Q) (hn : near s p q = some z) : toE x = 0 ∧ toW x = z := by
 obtain ⟨c1, c2, c3⟩ := hx.check
 have hm := minus_sgn c1
 have hQ := hx.pos
 have hab : P.natAbs * q = p * Q.natAbs := by
  have := congrArg Int.natAbs h
  rw [Int.natAbs_mul, Int.natAbs_mul, sgI_abs] at this
  exact this
 have key : near (minusB x) (numR x).natAbs (denR x).natAbs = some z := by
  rw [hm, c2, c3, near_same (p := P.natAbs) (q := Q.natAbs) (r := p) (s := q) (by omega) hq hab, ← hn]
  by_cases hp : p = 0
  ·subst hp
   exact near_sgn (by unfold rm; rw [show upA (expE 0 q) 0 = 0 by unfold upA; rw [Nat.zero_mul]]; exact evn_small (by have := upB_pos hq (expE 0 q); omega))
  ·rw [sgn_eq hq hQ hp h]
 unfold toE toW nrE nrW
 rw [if_pos c1, if_pos c1, key]
 exact ⟨rfl, rfl⟩
/-- What Error answers at a fraction, as one of num's results. -/
theorem er_rs {x : ByteArray} {P Q : Int} (hx : Frc x P Q) (h : toE x = 0) : erS x = rsS (P * fvQ (toW x) - sgI (fvS (toW x)) (fvP (toW x)) * Q) (Q * fvQ (toW x)) ∧ erE x = rsE (P * fvQ (toW x) - sgI (fvS (toW x)) (fvP (toW x)) * Q) (Q * fvQ (toW x)) := by
 obtain ⟨c1, c2, c3⟩ := hx.check
 have hQ := hx.pos
 obtain ⟨t1, t2⟩ := to_lt x h
 have hd : 0 < erD x := by unfold erD; exact Nat.mul_pos (by rw [c3]; omega) (fv_sz t2).2.2
 have e1 : sgI (erP x) (erN x) = P * fvQ (toW x) - sgI (fvS (toW x)) (fvP (toW x)) * Q := by
  unfold erP erN
  rw [pl_int, sgI_not, c2, c3, sgI_mul, sgI_mul, minus_sgn c1, c2]
  have h1 : sgI (decide (P < 0)) P.natAbs = P := by unfold sgI; by_cases h0 : P < 0 <;> simp [h0] <;> omega
  rw [h1, show (Q.natAbs : Int) = Q by omega]
  omega
 have e2 : (erD x : Int) = Q * fvQ (toW x) := by
  unfold erD
  rw [c3, Int.natCast_mul, show (Q.natAbs : Int) = Q by omega]
 unfold erS erE
 rw [if_pos h, if_pos h, (fq_rs hd).1, (fq_rs hd).2, e1, e2]
 exact ⟨rfl, rfl⟩
theorem er_same {x : ByteArray} {P Q : Int} (hx : Frc x P Q) (h : toE x = 0) : erS x = reS ofSub x (fmS (toW x)) ∧ erE x = reR ofSub x (fmS (toW x)) := by
 obtain ⟨t1, t2⟩ := to_lt x h
 obtain ⟨R, T, hz, hr⟩ := fm_frc t2
 obtain ⟨e1, e2⟩ := er_rs hx h
 obtain ⟨f1, f2⟩ := hx.op hz ofSub
 have h0 : (0 : Int) < fvQ (toW x) := by have := (fv_sz t2).2.2; omega
 rw [e1, e2, f1, f2]
 unfold ofSub
 refine rs_same (pos_ne hx.pos h0) (pos_ne hx.pos hz.pos) ?_
 simp only []
 generalize (fvQ (toW x) : Int) = u at *
 generalize sgI (fvS (toW x)) (fvP (toW x)) = v at *
 grind
theorem Frc.size2 {s : ByteArray} {p q : Int} (h : Frc s p q) : s.size ≤ 300 := by
 have h1 := strI_size h.dp
 have h2 := strI_size h.dq
 have h3 := congrArg List.length (frS_list p q)
 have k : ∀ t : ByteArray, t.data.toList.length = t.size := fun t => by simp
 rw [List.length_append, List.length_cons, k, k, k, ← h.str] at h3
 omega
theorem un_half {U V : Int} {uP uQ : Nat} (hV : 0 < V) (u0 : 0 < uQ) (hur : U * uQ = uP * V) : rsE (U * 1) (V * 2) = rsE (uP : Int) ((uQ * 2 : Nat) : Int) := by
 exact (rs_same (y := U * 1) (z := V * 2) (y' := (uP : Int)) (z' := ((uQ * 2 : Nat) : Int)) (by omega) (by omega) (by
  rw [Int.natCast_mul]
  generalize (uQ : Int) = u at *
  generalize (uP : Int) = v at *
  grind)).2
theorem un_half0 {uP uQ : Nat} (u0 : 0 < uQ) (y1 : Sz 140 uP) (y2 : Sz 210 uQ) : rsE (uP : Int) ((uQ * 2 : Nat) : Int) = 0 := by
 have k2 : Sz 212 (uQ * 2) := (y2.mul (n := 2) (k := 2) ⟨by decide⟩)
 obtain ⟨_, _, _, r2, _⟩ := rs_ok (y := (uP : Int)) (z := ((uQ * 2 : Nat) : Int)) (Sz.dig (y1.more (by omega))) (Sz.dig (k2.more (by omega))) (by omega)
 exact r2
/-- The error is at most half of the unit of the nearest number. -/
theorem er_half {x : ByteArray} {P Q : Int} (hx : Frc x P Q) (h : toE x = 0) (he : erE x = 0) : reR ofMul (fuS (toW x)) ⟨#[49, 47, 50]⟩ = 0 ∧
 ∃ Dn Dd H G, Frc (erS x) Dn Dd ∧ Frc (reS ofMul (fuS (toW x)) ⟨#[49, 47, 50]⟩) H G ∧ Dn * G ≤ H * Dd ∧ (-Dn) * G ≤ H * Dd := by
 obtain ⟨t1, t2⟩ := to_lt x h
 obtain ⟨R, T, hz, hr⟩ := fm_frc t2
 obtain ⟨U, V, hu, hur⟩ := fu_frc t2
 obtain ⟨f1, f2⟩ := hx.op hz ofSub
 obtain ⟨g1, g2⟩ := hu.op frc_half ofMul
 obtain ⟨e1, e2⟩ := er_same hx h
 obtain ⟨c1, c2, c3⟩ := hx.check
 have hQ := hx.pos
 have hn : near (minusB x) (numR x).natAbs (denR x).natAbs = some (toW x) := by
  unfold toE nrE at h
  unfold toW nrW
  rw [if_pos c1] at h ⊢
  cases hn : near (minusB x) (numR x).natAbs (denR x).natAbs with
  | none => rw [hn] at h; exact absurd h (by decide)
  | some b => rfl
 rw [minus_sgn c1, c2, c3] at hn
 obtain ⟨n1, n2, n3, c, d, M, m1, m2, m3, m4, m5⟩ := near_half (by omega) hn
 have f3 := (fv_sz t2).2.2
 have u0 := unQ_pos (toW x)
 obtain ⟨y1, y2⟩ := un_small t2
 rw [e2, f2] at he
 rw [g1, g2, e1, f1]
 clear e1 e2 f1 f2 g1 g2 h c1 c2 c3 hn t1 t2 n1 n2
 generalize unP (toW x) = uP at *
 generalize unQ (toW x) = uQ at *
 generalize sgI (fvS (toW x)) (fvP (toW x)) = vz at *
 generalize fvP (toW x) = fP at *
 generalize fvQ (toW x) = fQ at *
 generalize fmS (toW x) = sm at *
 generalize fuS (toW x) = su at *
 clear hx
 have hT := hz.pos
 have hV := hu.pos
 clear hz hu
 unfold ofMul
 unfold ofSub at he ⊢
 simp only [] at he ⊢
 have hm : rsE (U * 1) (V * 2) = 0 := by
  rw [un_half hV u0 hur]
  exact un_half0 u0 y1 y2
 refine ⟨hm, ?_⟩
 obtain ⟨H, G, hH, hHG⟩ := rs_frc (y := U * 1) (z := V * 2) (by omega) hm
 obtain ⟨Dn, Dd, hD, hDD⟩ := rs_frc (pos_ne hQ hT) he
 refine ⟨Dn, Dd, H, G, hD, hH, ?_⟩
 refine half_int (P := P) (Q := Q) (R := R) (T := T) (U := U) (V := V) (σ := if decide (P < 0) = true then -1 else 1) (p := P.natAbs) (q := Q.natAbs) (c := c) (d := d) (M := M) (fP := fP) (fQ := fQ) (uP := uP) (uQ := uQ) hQ hT hV hH.pos hD.pos (by omega) m1 f3 u0 (by split <;> simp) ?_ ?_ m2 m3 m4 hur m5 ?_ hDD
 ·rw [← sgI_one, show (Q.natAbs : Int) = Q by omega]
  have h1 : sgI (decide (P < 0)) P.natAbs = P := by unfold sgI; by_cases h0 : P < 0 <;> simp [h0] <;> omega
  rw [h1]
 ·rw [← sgI_one, ← n3]
  exact hr
 ·rw [Int.mul_one] at hHG
  exact hHG
theorem near_ok {s : Bool} {p q : Nat} (hq : 0 < q) (h : nrE s p q = 0) : nrW s p q < 4294967296 ∧ fin32 (nrW s p q) = true := by
 unfold nrE at h
 unfold nrW
 cases hn : near s p q with
 | none => rw [hn] at h; exact absurd h (by decide)
 | some b =>
   have := near_lt hq hn
   exact ⟨this.2, decide_eq_true this.1⟩
theorem frc_body {d : ByteArray} {P Q : Int} (h : Frc d P Q) : Frc (bodyB d) (P.natAbs : Int) Q := by
 have hm := minus_sgn h.check.1
 rw [h.check.2.1] at hm
 have hg : Int.gcd (P.natAbs : Int) Q = 1 := h.low
 rcases Int.lt_or_le P 0 with hp | hp
 ·refine ⟨?_, h.pos, hg, h.dp, h.dq⟩
  have e : d.data.toList = 45 :: (frS (P.natAbs : Int) Q).data.toList := by
   rw [h.str, frS_list, frS_list]
   show Lib.itoa P ++ _ = 45 :: (Lib.itoa (P.natAbs : Int) ++ _)
   rw [itoa_abs P, itoa_abs (P.natAbs : Int), if_pos hp, if_neg (by omega)]
   simp
  unfold bodyB
  rw [e]
  show (⟨(Lib.trimPrefix (45 :: (frS (P.natAbs : Int) Q).data.toList) [45]).toArray⟩ : ByteArray) = _
  have : Lib.trimPrefix (45 :: (frS (P.natAbs : Int) Q).data.toList) [45] = (frS (P.natAbs : Int) Q).data.toList := by simp [Lib.trimPrefix, Lib.hasPrefix]
  rw [this]
 ·have e : (P.natAbs : Int) = P := by omega
  rw [e, body_self (by rw [hm, decide_eq_false (by omega)])]
  exact h
theorem frc_pos {d : ByteArray} {P Q : Int} (h : Frc d P Q) : 0 < d.size := by
 rw [h.str]
 have h3 := congrArg List.length (frS_list P Q)
 have k : ∀ t : ByteArray, t.data.toList.length = t.size := fun t => by simp
 rw [List.length_append, List.length_cons, k] at h3
 omega
theorem cmpI_le {a b : Int} (h : a ≤ b) : cmpI a b ≤ 0 := by unfold cmpI; split <;> (try split) <;> omega
theorem half_calls {x r u d h : ByteArray} {Dn Dd H G : Int} (hd1 : reS ofSub x r = d) (hd2 : reR ofSub x r = 0) (hm1 : reS ofMul u ⟨#[49, 47, 50]⟩ = h) (hm2 : reR ofMul u ⟨#[49, 47, 50]⟩ = 0)
 (fd : Frc d Dn Dd) (fh : Frc h H G) (k1 : Dn * G ≤ H * Dd) (k2 : (-Dn) * G ≤ H * Dd) (hx : x.size ≤ 90000) (hr : r.size ≤ 90000) (hu : u.size ≤ 90000) (w : World) (hE : EN w) :
 Calls Tryz.prog 21 #[.string x, .string r, .string u] w fun e w' => e = .returned (.bool true) ∧ Below w.heap.size w w' := by
 have HS := Aside0.mk (subReal_calls x r hx hr w hE)
 rw [hd1, hd2] at HS
 have HM : Aside0 (∀ W, Below w.heap.size w W → Calls Tryz.prog 16 #[.string u, .string ⟨#[49, 47, 50]⟩] W fun e w' => e = .returned (.tuple #[.string h, .int .i64 0]) ∧ Below W.heap.size W w') := ⟨fun W hb => by
  have := mulReal_calls u ⟨#[49, 47, 50]⟩ hu (by decide) W (hE.below hb)
  rw [hm1, hm2] at this
  exact this⟩
 have fb := frc_body fd
 obtain ⟨c1, c2⟩ := fb.cmp fh
 have hc : cmpR (bodyB d) h ≤ 0 := by
  rw [c1]
  refine cmpI_le ?_
  rcases Int.lt_or_le Dn 0 with h0 | h0
  ·rw [show (Dn.natAbs : Int) = -Dn by omega]; exact k2
  ·rw [show (Dn.natAbs : Int) = Dn by omega]; exact k1
 have HCR : Aside0 (∀ W, Below w.heap.size w W → Calls Tryz.prog 59 #[.string (bodyB d), .string h] W fun e w' => e = .returned (.tuple #[.int .i64 (cmpR (bodyB d) h), .int .i64 0]) ∧ Below W.heap.size W w') := ⟨fun W hb => by
  have := compareReal_calls (bodyB d) h (Nat.le_trans fb.size (by omega)) (Nat.le_trans fh.size (by omega)) W (hE.below hb)
  rw [c2] at this
  exact this⟩
 have hdp := frc_pos fd
 have hbp := frc_pos fb
 have hne : d.toList.isEmpty = false := by
  have hl : d.data.toList.length = d.size := by simp
  rw [Lib.toList_data]
  cases h : d.data.toList with
  | nil => rw [h, List.length_nil] at hl; omega
  | cons a l => rfl
 have hle : decide (cmpR (bodyB d) h ≤ 0) = true := decide_eq_true hc
 clear hd1 hd2 hm1 hm2 fd fh k1 k2 hx hr hu hE fb c1 c2 hc
 generalize cmpR (bodyB d) h = k at *
 cases hm : minusB d
 ·have hbs := body_self hm
  rw [hbs] at HCR hbp
  have hno := minus_not hm hdp
  obtain ⟨a, ha⟩ : ∃ a : Nat, (d[0]'hdp).toNat = a := ⟨_, rfl⟩
  rw [ha] at hno
  have hx0 : ∀ h : 0 < d.size, ((d[0]'h).toNat : Int) = (a : Int) := fun h => by rw [ha]
  have g2 : ((a : Int) == 45) = false := by rw [beq_eq_false_iff_ne]; omega
  have q1 : (0 < d.size) = True := eq_true hdp
  have q2 : ((0 : Int) < (d.size : Int)) = True := eq_true (by omega)
  clear ha hno hm hbs
  go_enter Tryz.func21, Tryz.ntmps21
  go_wp2_with (first | (go_at_call 15; (with_reducible refine HS.out.mono ?_); rintro e W1 ⟨rfl, hb1⟩; have HB := Aside0.mk hb1; clear hb1) | (go_at_call 16; (with_reducible refine (HM.out _ HB.out).mono ?_); rintro e W2 ⟨rfl, hb2⟩; have HB2 := Aside0.mk (HB.out.trans (hb2.mono HB.out.size)); clear hb2) | (go_at_call 59; (with_reducible refine (HCR.out _ HB2.out).mono ?_); rintro e W3 ⟨rfl, hb3⟩; have HB3 := Aside0.mk (HB2.out.trans (hb3.mono HB2.out.size)); clear hb3))
  go_ret
  exact ⟨rfl, HB3.out⟩
 ·obtain ⟨b, hb⟩ : ∃ b, bodyB d = b := ⟨_, rfl⟩
  obtain ⟨hx, hz, h0⟩ := body_extract hm
  rw [hb] at hx hz HCR hbp
  have hx0 : ∀ h : 0 < d.size, ((d[0]'h).toNat : Int) = 45 := fun h => by have := h0 h; omega
  have q1 : (0 < d.size) = True := eq_true (by omega)
  have q2 : ((0 : Int) < (d.size : Int)) = True := eq_true (by omega)
  have q3 : (1 ≤ d.size) = True := eq_true (by omega)
  clear h0 hz hb hm
  go_enter Tryz.func21, Tryz.ntmps21
  go_wp2_with (first | (go_at_call 15; (with_reducible refine HS.out.mono ?_); rintro e W1 ⟨rfl, hb1⟩; have HB := Aside0.mk hb1; clear hb1) | (go_at_call 16; (with_reducible refine (HM.out _ HB.out).mono ?_); rintro e W2 ⟨rfl, hb2⟩; have HB2 := Aside0.mk (HB.out.trans (hb2.mono HB.out.size)); clear hb2) | (go_at_call 59; (with_reducible refine (HCR.out _ HB2.out).mono ?_); rintro e W3 ⟨rfl, hb3⟩; have HB3 := Aside0.mk (HB2.out.trans (hb3.mono HB2.out.size)); clear hb3))
  go_ret
  exact ⟨rfl, HB3.out⟩
def bThird : ByteArray := ⟨#[49, 47, 51]⟩
def cbX : ByteArray := ⟨#[49, 49, 49, 56, 52, 56, 49, 49, 47, 51, 51, 53, 53, 52, 52, 51, 50]⟩
def cbU : ByteArray := ⟨#[49, 47, 51, 51, 53, 53, 52, 52, 51, 50]⟩
def cbD : ByteArray := ⟨#[49, 47, 49, 48, 48, 54, 54, 51, 50, 57, 54]⟩
def cbH : ByteArray := ⟨#[49, 47, 54, 55, 49, 48, 56, 56, 54, 52]⟩
theorem frc_cbD : Frc cbD 1 100663296 := ⟨by decide +kernel, by decide, by decide +kernel, by unfold Dig; decide +kernel, by unfold Dig; decide +kernel⟩
theorem frc_cbH : Frc cbH 1 67108864 := ⟨by decide +kernel, by decide, by decide +kernel, by unfold Dig; decide +kernel, by unfold Dig; decide +kernel⟩
theorem third_to : toW bThird = 1051372203 ∧ toE bThird = 0 := by decide +kernel
theorem third_fm : fmS 1051372203 = cbX ∧ fmE 1051372203 = 0 ∧ fuS 1051372203 = cbU := by decide +kernel
theorem third_sub : reS ofSub cbX bThird = cbD ∧ reR ofSub cbX bThird = 0 ∧ reS ofMul cbU ⟨#[49, 47, 50]⟩ = cbH ∧ reR ofMul cbU ⟨#[49, 47, 50]⟩ = 0 := by decide +kernel
theorem cobalt_calls (w : World) (hE : EN w) : Calls Tryz.prog 11 #[] w fun e w' => e = .returned (.bool true) ∧ Below w.heap.size w w' := by
 have HT := Aside0.mk (to32_calls bThird (by decide) w hE)
 rw [third_to.1, third_to.2] at HT
 have HF : Aside0 (∀ W, Calls Tryz.prog 18 #[.float .f32 1051372203] W fun e w' => e = .returned (.tuple #[.string cbX, .int .i64 0]) ∧ Below W.heap.size W w') := ⟨fun W => by
  have := from32_any (b := 1051372203) (by decide) W
  rw [third_fm.1, third_fm.2.1] at this
  exact this⟩
 have HU : Aside0 (∀ W, Calls Tryz.prog 19 #[.float .f32 1051372203] W fun e w' => e = .returned (.tuple #[.string cbU, .int .i64 0]) ∧ Below W.heap.size W w') := ⟨fun W => by
  have := unit_calls (b := 1051372203) (by decide) W
  rw [third_fm.2.2, third_fm.2.1] at this
  exact this⟩
 have HH : Aside0 (∀ W, Below w.heap.size w W → Calls Tryz.prog 21 #[.string cbX, .string bThird, .string cbU] W fun e w' => e = .returned (.bool true) ∧ Below W.heap.size W w') := ⟨fun W hb =>
  half_calls third_sub.1 third_sub.2.1 third_sub.2.2.1 third_sub.2.2.2 frc_cbD frc_cbH (by decide) (by decide) (by decide) (by decide) (by decide) W (hE.below hb)⟩
 have h1 : (cbX.toList == [48, 47, 49]) = false := by rw [Lib.toList_data]; decide
 have h2 : (cbU.toList == [48, 47, 49]) = false := by rw [Lib.toList_data]; decide
 clear hE
 have e3 : (⟨#[49, 47, 51]⟩ : ByteArray) = bThird := rfl
 generalize cbX = x at *
 generalize cbU = u at *
 go_enter Tryz.func11, Tryz.ntmps11
 rw [e3]
 clear e3
 generalize bThird = t at *
 go_wp2_with (first
  | (go_at_call 23; (with_reducible refine HT.out.mono ?_); rintro e W1 ⟨rfl, hb1⟩; have HB := Aside0.mk hb1; clear hb1)
  | (go_at_call 18; (with_reducible refine (HF.out _).mono ?_); rintro e W2 ⟨rfl, hb2⟩; have HB2 := Aside0.mk (HB.out.trans (hb2.mono HB.out.size)); clear hb2)
  | (go_at_call 19; (with_reducible refine (HU.out _).mono ?_); rintro e W3 ⟨rfl, hb3⟩; have HB3 := Aside0.mk (HB2.out.trans (hb3.mono HB2.out.size)); clear hb3)
  | (go_at_call 21; (with_reducible refine (HH.out _ HB3.out).mono ?_); rintro e W4 ⟨rfl, hb4⟩; have HB4 := Aside0.mk (HB3.out.trans (hb4.mono HB3.out.size)); clear hb4))
 go_ret
 exact ⟨rfl, HB4.out⟩
theorem run_from32 (b : Int) (w : World) : (callFunc 12 #[.int .u32 b]).run Tryz.prog w = .ok (.value (.float .f32 b.toNat)) w := by
 rw [run_callFunc_extern (e := Extern.MathFloatBits.float32frombits) Tryz.func12 (by kernel_rfl) (by kernel_rfl) (by kernel_rfl) (by kernel_rfl)]
 rfl
end
section
open Ieee
/-- A rung with its sign. -/
def sr (s : Bool) (r : Nat) : Int := if s then -(r : Int) else r
/-- A finite float32 in units of the least number. -/
def uu (r : Nat) : Nat := sg32 r * 2 ^ (pl32 r + 149).toNat
theorem uu_low {r : Nat} (h : r < 8388608) : uu r = r := by unfold uu sg32 pl32; rw [if_pos h, if_pos h]; simp
theorem uu_high {r : Nat} (h : ¬ r < 8388608) : uu r = (8388608 + r % 8388608) * 2 ^ (r / 8388608 - 1) := by
 unfold uu sg32 pl32; rw [if_neg h, if_neg h]
 rw [show ((((r / 8388608 : Nat) : Int) - 150 + 149).toNat) = r / 8388608 - 1 by omega]
theorem uu_mono {r q : Nat} (h : r < q) : uu r < uu q := by
 by_cases hr : r < 8388608
 ·rw [uu_low hr]
  by_cases hq : q < 8388608
  ·rw [uu_low hq]; exact h
  ·rw [uu_high hq]
   have : 8388608 + q % 8388608 ≤ (8388608 + q % 8388608) * 2 ^ (q / 8388608 - 1) := Nat.le_mul_of_pos_right _ (pp _)
   omega
 ·have hq : ¬ q < 8388608 := by omega
  rw [uu_high hr, uu_high hq]
  obtain ⟨X, hX⟩ : ∃ X, r / 8388608 = X := ⟨_, rfl⟩
  obtain ⟨Y, hY⟩ : ∃ Y, q / 8388608 = Y := ⟨_, rfl⟩
  rw [hX, hY]
  by_cases hXY : X = Y
  ·subst hXY
   exact Nat.mul_lt_mul_of_pos_right (by omega) (pp _)
  ·have h1 : (8388608 + r % 8388608) * 2 ^ (X - 1) < 16777216 * 2 ^ (X - 1) := Nat.mul_lt_mul_of_pos_right (by omega) (pp _)
   have h2 : 16777216 * 2 ^ (X - 1) = 8388608 * 2 ^ X := by
    rw [show X = (X - 1) + 1 by omega, Nat.pow_succ, Nat.add_sub_cancel]; omega
   have h3 : 8388608 * 2 ^ X ≤ 8388608 * 2 ^ (Y - 1) := Nat.mul_le_mul_left _ (Nat.pow_le_pow_right (by decide) (by omega))
   have h4 : 8388608 * 2 ^ (Y - 1) ≤ (8388608 + q % 8388608) * 2 ^ (Y - 1) := Nat.mul_le_mul_right _ (by omega)
   omega
theorem uu_zero {r : Nat} : uu r = 0 ↔ r = 0 := by
 constructor
 ·intro h
  rcases Nat.eq_zero_or_pos r with h0 | h0
  ·exact h0
  ·have := uu_mono h0; omega
 ·rintro rfl; decide
theorem scale_lt {x y C a b : Nat} (hC : 0 < C) (h1 : x * C = a) (h2 : y * C = b) : (x < y ↔ a < b) := by
 subst h1 h2
 exact ⟨fun h => Nat.mul_lt_mul_of_pos_right h hC, fun h => Nat.lt_of_mul_lt_mul_right h⟩
theorem uu_lt {r q : Nat} : uu r < uu q ↔ r < q := by
 constructor
 ·intro h
  rcases Nat.lt_trichotomy r q with h1 | h1 | h1
  ·exact h1
  ·subst h1; omega
  ·have := uu_mono h1; omega
 ·exact uu_mono
theorem cmp_signs {s t : Bool} {x y r q : Nat} (h1 : x < y ↔ r < q) (h2 : y < x ↔ q < r) (h3 : x = 0 ↔ r = 0) (h4 : y = 0 ↔ q = 0) : compare (sr s x) (sr t y) = compare (sr s r) (sr t q) := by
 rcases Int.lt_trichotomy (sr s r) (sr t q) with h | h | h
 ·rw [cpi_lt h, cpi_lt]
  unfold sr at *
  cases s <;> cases t <;> simp at * <;> omega
 ·rw [cpi_eq h, cpi_eq]
  unfold sr at *
  cases s <;> cases t <;> simp at * <;> omega
 ·rw [cpi_gt h, cpi_gt]
  unfold sr at *
  cases s <;> cases t <;> simp at * <;> omega
theorem ord32 {s t : Bool} {r q : Nat} (hr : r < 2139095040) (hq : q < 2139095040) : single.order (S32 s + r) (S32 t + q) = some (compare (sr s r) (sr t q)) := by
 unfold Format.order
 rw [read32 s hr, read32 t hq]
 show some (compare (signed s (sg32 r) (pl32 r - min (pl32 r) (pl32 q)).toNat) (signed t (sg32 q) (pl32 q - min (pl32 r) (pl32 q)).toNat)) = _
 have a1 := pl32_ge r
 have a2 := pl32_ge q
 have e1 : sg32 r <<< (pl32 r - min (pl32 r) (pl32 q)).toNat * 2 ^ (min (pl32 r) (pl32 q) + 149).toNat = uu r := by
  rw [Nat.shiftLeft_eq, Nat.mul_assoc, ← Nat.pow_add]
  unfold uu
  congr 2
  omega
 have e2 : sg32 q <<< (pl32 q - min (pl32 r) (pl32 q)).toNat * 2 ^ (min (pl32 r) (pl32 q) + 149).toNat = uu q := by
  rw [Nat.shiftLeft_eq, Nat.mul_assoc, ← Nat.pow_add]
  unfold uu
  congr 2
  omega
 have hC : 0 < 2 ^ (min (pl32 r) (pl32 q) + 149).toNat := pp _
 generalize 2 ^ (min (pl32 r) (pl32 q) + 149).toNat = C at *
 unfold signed
 generalize sg32 r <<< (pl32 r - min (pl32 r) (pl32 q)).toNat = x at *
 generalize sg32 q <<< (pl32 q - min (pl32 r) (pl32 q)).toNat = y at *
 show some (compare (sr s x) (sr t y)) = _
 have z : ∀ {x a : Nat}, x * C = a → (x = 0 ↔ a = 0) := fun {x a} h => by
  subst h
  constructor
  ·rintro rfl; exact Nat.zero_mul _
  ·intro h; rcases Nat.mul_eq_zero.1 h with h | h <;> omega
 rw [cmp_signs ((scale_lt hC e1 e2).trans uu_lt) ((scale_lt hC e2 e1).trans uu_lt) ((z e1).trans uu_zero) ((z e2).trans uu_zero)]
/-- Words that stand for finite numbers. -/
def sw (b : Nat) : Int := sr (neg32 b) (b % 2147483648)
theorem ord32_w {a b : Nat} (ha : a < 4294967296) (hb : b < 4294967296) (fa : fin32 a = true) (fb : fin32 b = true) : FloatKind.f32.format.order a b = some (compare (sw a) (sw b)) := by
 have h := ord32 (s := neg32 a) (t := neg32 b) (of_decide_eq_true fa) (of_decide_eq_true fb)
 rw [← split32 ha, ← split32 hb] at h
 exact h
end
section
open Go.Proofs.YtnjbinpbkjdjpaaGreatDoor.Rf Go.Proofs.YtnjbinpbkjdjpaaGreatDoorW.PrintLast Go.Proofs.YtnjbinpbkjdjpaaGreatDoorW.PrintMore Go.Proofs.YtnjbinpbkjdjpaaGreatDoorW.PrintWords Go.RowKit Go.Shelf Ieee
/-- The table of operations in memory. -/
def OpsAt (W : World) (b : Nat) : Prop := W.heap[b]? = some (.cells #[.int .i64 16, .func (.func 118) #[] #[], .int .i64 17, .func (.func 80) #[] #[], .int .i64 18, .func (.func 129) #[] #[], .int .i64 19, .func (.func 117) #[] #[]] 95 (0, 0))
theorem OpsAt.lt {W : World} {b : Nat} (h : OpsAt W b) : b < W.heap.size := (Array.getElem?_eq_some_iff.1 h).1
theorem OpsAt.below {W X : World} {b : Nat} (h : OpsAt W b) (hb : Below W.heap.size W X) : OpsAt X b := (hb.block b h.lt).trans h
theorem OpsAt.cell {W : World} {b : Nat} (h : OpsAt W b) (i : Nat) : W.cell? ⟨b, i, none⟩ = (#[.int .i64 16, .func (.func 118) #[] #[], .int .i64 17, .func (.func 80) #[] #[], .int .i64 18, .func (.func 129) #[] #[], .int .i64 19, .func (.func 117) #[] #[]] : Array Value)[i]? := by rw [Lib.cell_of_heap h]
theorem operations_calls (w : World) : Calls Tryz.prog 61 #[] w fun e w' => ∃ b, e = .returned (.slice (some ⟨b, 0, none⟩) 4 4) ∧ OpsAt w' b ∧ Below w.heap.size w w' := by
 go_enter Tryz.func61, Tryz.ntmps61
 go_wp2
 go_ret
 exact ⟨w.heap.size, rfl, heap_alloc_new w _, below_alloc (Below.refl _ _) _⟩
/-- The place of an operation. -/
def opI (op : Int) : Int := if op = 16 then 0 else if op = 17 then 1 else if op = 18 then 2 else if op = 19 then 3 else -1
theorem index_calls {w : World} {b p : Nat} {op : Int} (ho : OpsAt w b) (hc : w.cell? ⟨p, 0, none⟩ = some (.int .i64 op)) (hp : p < w.heap.size) :
 Calls Tryz.prog 60 #[.slice (some ⟨b, 0, none⟩) 4 4, .func (.func 62) #[] #[.pointer (some ⟨p, 0, none⟩)]] w fun e w' => e = .returned (.int .i64 (opI op)) ∧ Below w.heap.size w w' := by
 have HO := Aside0.mk ho
 have HC := Aside0.mk (And.intro hc hp)
 clear ho hc hp
 go_enter Tryz.func60, Tryz.ntmps60
 go_wp2_with fail
 go_loopw [8] (fun v8 W => ∃ i : Nat, v8 = .int .i64 (i : Int) ∧ i ≤ 4 ∧ Aside0 (∀ j : Nat, j < i → op ≠ 16 + (j : Int)) ∧ Aside0 (Below w.heap.size w W)) (fun v8 _ => 4 - (intOf v8).toNat)
 case atStart => exact ⟨0, rfl, by omega, ⟨fun j hj => by omega⟩, ⟨Below.refl _ _⟩⟩
 case round =>
  obtain ⟨i, rfl, hi, hz, HB⟩ := hrel
  by_cases hlt : i < 4
  ·have ho2 := HO.out.below HB.out
   have q0 := ho2.cell (2 * i)
   have q1 := ho2.cell (2 * i + 1)
   clear ho2
   have qp : wr.cell? ⟨p, 0, none⟩ = some (.int .i64 op) := (HB.out.cell (p := ⟨p, 0, none⟩) HC.out.2).trans HC.out.1
   have hplt : p < wr.heap.size := Nat.lt_of_lt_of_le HC.out.2 HB.out.size
   have hstep : op ≠ 16 + (i : Int) → Aside0 (∀ j : Nat, j < i + 1 → op ≠ 16 + (j : Int)) := fun h => ⟨fun j hj => by
    rcases Nat.lt_or_eq_of_le (Nat.le_of_lt_succ hj) with h1 | h1
    ·exact hz.out j h1
    ·subst h1; exact h⟩
   obtain rfl | rfl | rfl | rfl : i = 0 ∨ i = 1 ∨ i = 2 ∨ i = 3 := by omega
   ·skip
    simp only [Nat.reduceMul, Nat.reduceAdd] at q0 q1
    by_cases hop : op = 16
    ·have hb : ((16 : Int) == op) = true := by rw [beq_iff_eq]; omega
     clear hstep
     go_wp2
     go_ret
     exact ⟨by rw [hop]; rfl, HB.out.trans ((below_alloc (Below.refl _ _) _).mono HB.out.size)⟩
    ·have hb : ((16 : Int) == op) = false := by rw [beq_eq_false_iff_ne]; omega
     have HS := hstep (by omega)
     clear hstep
     go_wp2
     go_roundw
     case rel => exact ⟨1, by first | rfl | go_num, by omega, HS, ⟨HB.out.trans ((below_alloc (Below.refl _ _) _).mono HB.out.size)⟩⟩
     case measure => simp [intOf]
   ·skip
    simp only [Nat.reduceMul, Nat.reduceAdd] at q0 q1
    by_cases hop : op = 17
    ·have hb : ((17 : Int) == op) = true := by rw [beq_iff_eq]; omega
     clear hstep
     go_wp2
     go_ret
     exact ⟨by rw [hop]; rfl, HB.out.trans ((below_alloc (Below.refl _ _) _).mono HB.out.size)⟩
    ·have hb : ((17 : Int) == op) = false := by rw [beq_eq_false_iff_ne]; omega
     have HS := hstep (by omega)
     clear hstep
     go_wp2
     go_roundw
     case rel => exact ⟨2, by first | rfl | go_num, by omega, HS, ⟨HB.out.trans ((below_alloc (Below.refl _ _) _).mono HB.out.size)⟩⟩
     case measure => simp [intOf]
   ·skip
    simp only [Nat.reduceMul, Nat.reduceAdd] at q0 q1
    by_cases hop : op = 18
    ·have hb : ((18 : Int) == op) = true := by rw [beq_iff_eq]; omega
     clear hstep
     go_wp2
     go_ret
     exact ⟨by rw [hop]; rfl, HB.out.trans ((below_alloc (Below.refl _ _) _).mono HB.out.size)⟩
    ·have hb : ((18 : Int) == op) = false := by rw [beq_eq_false_iff_ne]; omega
     have HS := hstep (by omega)
     clear hstep
     go_wp2
     go_roundw
     case rel => exact ⟨3, by first | rfl | go_num, by omega, HS, ⟨HB.out.trans ((below_alloc (Below.refl _ _) _).mono HB.out.size)⟩⟩
     case measure => simp [intOf]
   ·skip
    simp only [Nat.reduceMul, Nat.reduceAdd] at q0 q1
    by_cases hop : op = 19
    ·have hb : ((19 : Int) == op) = true := by rw [beq_iff_eq]; omega
     clear hstep
     go_wp2
     go_ret
     exact ⟨by rw [hop]; rfl, HB.out.trans ((below_alloc (Below.refl _ _) _).mono HB.out.size)⟩
    ·have hb : ((19 : Int) == op) = false := by rw [beq_eq_false_iff_ne]; omega
     have HS := hstep (by omega)
     clear hstep
     go_wp2
     go_roundw
     case rel => exact ⟨4, by first | rfl | go_num, by omega, HS, ⟨HB.out.trans ((below_alloc (Below.refl _ _) _).mono HB.out.size)⟩⟩
     case measure => simp [intOf]
  ·obtain rfl : i = 4 := by omega
   go_wp2
   go_ret
   refine ⟨?_, HB.out⟩
   have h0 := hz.out 0 (by omega)
   have h1 := hz.out 1 (by omega)
   have h2 := hz.out 2 (by omega)
   have h3 := hz.out 3 (by omega)
   unfold opI
   rw [if_neg (by omega), if_neg (by omega), if_neg (by omega), if_neg (by omega)]
   rfl
end
end Go.Proofs.YtnjbinpbkjdjpaaGreatDoor.Nm
