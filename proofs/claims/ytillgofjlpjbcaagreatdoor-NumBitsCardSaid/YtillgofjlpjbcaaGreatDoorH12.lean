import Derived.Test.YtillgofjlpjbcaaGreatDoorH11
import Derived.Test.YtillgofjlpjbcaaGreatDoorH8
import Derived.Deep.CutBlock
import Derived.Test.YtillgofjlpjbcaaGreatDoorRows
import Derived.Deep.DeepHandedRow
import Derived.Deep.DeepWitnessRowRef
import Derived.Lib.LaidTab
import Derived.Lib.LaidU8
import Derived.Lib.LaidIn
import Derived.LaidHandle
import Derived.LaidMore
import Derived.ProofKit
import Derived.SizedLaws
import Derived.OpenShut
import Derived.Carry
/- Own text: contracts and laws on which the card rests (RbS RbT RbU NoG NoH NiB NbC NoK). -/
set_option linter.unusedVariables false
set_option linter.unusedSimpArgs false
set_option maxRecDepth 1000000
set_option maxHeartbeats 16000000
namespace Go.Proofs.YtillgofjlpjbcaaGreatDoor.Nm
section
open Go.Proofs.YtillgofjlpjbcaaGreatDoorW.PrintLast Go.Proofs.YtillgofjlpjbcaaGreatDoorW.PrintMore Go.Proofs.YtillgofjlpjbcaaGreatDoorW.PrintWords Go.RowKit Go.Shelf
/-- The number that the reference reduces at the end. -/
def btZ (op n x y : Nat) : Int :=
 match op with
 | 0 => ((x + y : Nat) : Int)
 | 1 => (x : Int) - (y : Int)
 | 2 => ((x * y : Nat) : Int)
 | 3 => ((x / y : Nat) : Int)
 | 4 => ((x % y : Nat) : Int)
 | 8 => ((x * 2 ^ (if n ≤ y then n else y) : Nat) : Int)
 | 9 => ((x / 2 ^ (if n ≤ y then n else y) : Nat) : Int)
 | op => ((bitF op x y : Nat) : Int)
theorem btZ_law {op n x y : Nat} (hop : op < 10) (hn : n ≤ 64) (hx : x < 2 ^ n) (hy : y < 2 ^ n) : btZ op n x y % 2 ^ n = ((btV op n x y : Nat) : Int) := by
 have hd : 2 ^ n ∣ 18446744073709551616 := by
  have h : (2 : Nat) ^ n ∣ 2 ^ 64 := Nat.pow_dvd_pow 2 hn
  exact h
 have hy64 : y < 18446744073709551616 := Nat.lt_of_lt_of_le hy (Nat.le_of_dvd (by decide) hd)
 have hc : ((2 : Int) ^ n) = ((2 ^ n : Nat) : Int) := by rw [Int.natCast_pow]; rfl
 have key : ∀ z : Nat, ((z : Nat) : Int) % 2 ^ n = ((z % 2 ^ n : Nat) : Int) := fun z => by rw [hc, ← Int.natCast_emod]
 have no89 : ∀ k : Nat, k < 8 → btV k n x y = bitF k x y % 2 ^ n := fun k hk => if_neg (fun h => by omega)
 match op, hop with
 | 0, _ => rw [no89 0 (by decide)]; show ((x + y : Nat) : Int) % 2 ^ n = _; rw [key]; show _ = (((x + y) % 18446744073709551616 % 2 ^ n : Nat) : Int); rw [Nat.mod_mod_of_dvd _ hd]
 | 1, _ =>
   rw [no89 1 (by decide)]
   show ((x : Int) - (y : Int)) % 2 ^ n = (((18446744073709551616 + x - y) % 18446744073709551616 % 2 ^ n : Nat) : Int)
   rw [Nat.mod_mod_of_dvd _ hd, Int.natCast_emod, ← hc]
   obtain ⟨q, hq⟩ := hd
   have h1 : ((18446744073709551616 + x - y : Nat) : Int) = ((x : Int) - (y : Int)) + (2 ^ n) * (q : Int) := by
    rw [hc, ← Int.natCast_mul, ← hq]; omega
   rw [h1, Int.add_mul_emod_self_left]
 | 2, _ => rw [no89 2 (by decide)]; show ((x * y : Nat) : Int) % 2 ^ n = _; rw [key]; show _ = ((x * y % 18446744073709551616 % 2 ^ n : Nat) : Int); rw [Nat.mod_mod_of_dvd _ hd]
 | 3, _ => rw [no89 3 (by decide)]; exact key _
 | 4, _ => rw [no89 4 (by decide)]; exact key _
 | 5, _ => rw [no89 5 (by decide)]; exact key _
 | 6, _ => rw [no89 6 (by decide)]; exact key _
 | 7, _ => rw [no89 7 (by decide)]; exact key _
 | 8, _ =>
   show ((x * 2 ^ (if n ≤ y then n else y) : Nat) : Int) % 2 ^ n = _
   rw [key]
   by_cases h : n ≤ y
   ·rw [if_pos h, show btV 8 n x y = 0 from if_pos ⟨.inl rfl, h⟩, Nat.mul_mod_left]
   ·rw [if_neg h, show btV 8 n x y = bitF 8 x y % 2 ^ n from if_neg (fun g => h g.2)]
    show _ = ((x * 2 ^ (min y 64) % 18446744073709551616 % 2 ^ n : Nat) : Int)
    rw [Nat.mod_mod_of_dvd _ hd, show min y 64 = y by omega]
 | 9, _ =>
   show ((x / 2 ^ (if n ≤ y then n else y) : Nat) : Int) % 2 ^ n = _
   rw [key]
   by_cases h : n ≤ y
   ·rw [if_pos h, show btV 9 n x y = 0 from if_pos ⟨.inr rfl, h⟩, Nat.div_eq_of_lt hx, Nat.zero_mod]
   ·rw [if_neg h, show btV 9 n x y = bitF 9 x y % 2 ^ n from if_neg (fun g => h g.2)]
    show _ = ((x / 2 ^ (min y 64) % 2 ^ n : Nat) : Int)
    rw [show min y 64 = y by omega]
theorem btZ_small {op n x y : Nat} (hop : op < 10) (hn : n ≤ 64) (hx : x < 2 ^ n) (hy : y < 2 ^ n) : Dig 120 (btZ op n x y) := by
 have hM : (2 : Nat) ^ n ≤ 18446744073709551616 := by
  have h : (2 : Nat) ^ n ≤ 2 ^ 64 := Nat.pow_le_pow_right (by decide) hn
  exact h
 have h2 : ∀ z : Nat, z < 18446744073709551616 * 18446744073709551616 → Dig 120 ((z : Nat) : Int) := fun z hz => by
  unfold Dig
  exact Nat.lt_trans (show ((z : Nat) : Int).natAbs < 18446744073709551616 * 18446744073709551616 by omega) (by decide +kernel)
 have hxy : x * y < 18446744073709551616 * 18446744073709551616 := Nat.mul_lt_mul'' (by omega) (by omega)
 have hbf : ∀ k : Nat, bitF k x y < 18446744073709551616 := fun k => bitF_lt (by omega) (by omega)
 have hsh : ∀ k : Nat, k ≤ n → x * 2 ^ k < 18446744073709551616 * 18446744073709551616 := fun k hk => by
  have h1 : (2 : Nat) ^ k ≤ 2 ^ n := Nat.pow_le_pow_right (by decide) hk
  have h0 : 0 < (2 : Nat) ^ k := Nat.pow_pos (by decide)
  exact Nat.lt_of_lt_of_le (Nat.mul_lt_mul_of_pos_right (show x < 18446744073709551616 by omega) h0) (Nat.mul_le_mul_left _ (by omega))
 match op, hop with
 | 0, _ => exact h2 _ (by omega)
 | 1, _ =>
   show Dig 120 ((x : Int) - (y : Int))
   unfold Dig
   exact Nat.lt_trans (show ((x : Int) - (y : Int)).natAbs < 18446744073709551616 * 18446744073709551616 by omega) (by decide +kernel)
 | 2, _ => exact h2 _ hxy
 | 3, _ => exact h2 _ (Nat.lt_of_le_of_lt (Nat.div_le_self x y) (by omega))
 | 4, _ => exact h2 _ (Nat.lt_of_le_of_lt (Nat.mod_le x y) (by omega))
 | 5, _ => exact h2 _ (by have := hbf 5; omega)
 | 6, _ => exact h2 _ (by have := hbf 6; omega)
 | 7, _ => exact h2 _ (by have := hbf 7; omega)
 | 8, _ => exact h2 _ (hsh _ (by split <;> omega))
 | 9, _ => exact h2 _ (Nat.lt_of_le_of_lt (Nat.div_le_self x _) (by omega))
/-- The two numbers and the result in memory. -/
structure BT (w : World) (r : Nat) (A1 : Option Addr) (L1 c1 x : Nat) (A2 : Option Addr) (L2 c2 y : Nat) (W : World) : Prop where
 b0 : BG W r false A1 L1 c1
 b1 : BG W (r + 1) false A2 L2 c2
 b2 : BG W (r + 1 + 1) false none 0 0
 k1 : L1 ≤ c1
 k2 : L2 ≤ c2
 m1 : RM W A1 L1 x
 m2 : RM W A2 L2 y
 bl : Below w.heap.size w W
 r0 : w.heap.size ≤ r
theorem BT.below {w W X : World} {r : Nat} {A1 : Option Addr} {L1 c1 x : Nat} {A2 : Option Addr} {L2 c2 y : Nat} (h : BT w r A1 L1 c1 x A2 L2 c2 y W) (hb : Below W.heap.size W X) : BT w r A1 L1 c1 x A2 L2 c2 y X :=
 ⟨h.b0.below hb, h.b1.below hb, h.b2.below hb, h.k1, h.k2, h.m1.below hb, h.m2.below hb, h.bl.trans (hb.mono h.bl.size), h.r0⟩
/-- A result in memory. -/
def OUT (w : World) (r : Nat) (Z : Int) (W : World) : Prop := ∃ A k c, BG W r (decide (Z < 0)) A k c ∧ k ≤ c ∧ RM W A k Z.natAbs ∧ Below w.heap.size w W
theorem OUT.put {w W : World} {r : Nat} {g0 : Bool} {A0 : Option Addr} {k0 c0 : Nat} {A : Option Addr} {k c : Nat} {Z : Int} (hb : BG W r g0 A0 k0 c0) (hr : w.heap.size ≤ r) (hbl : Below w.heap.size w W) {g : Bool} (hg : g = decide (Z < 0)) (hk : k ≤ c) {n : Nat} (hn : n = Z.natAbs) (hm : RM W A k n) : OUT w r Z ((W.setCell ⟨r, 0, none⟩ (.bool g)).setCell ⟨r, 1, none⟩ (.slice A k c)) := by
 subst hg hn
 exact ⟨A, k, c, (hb.put0 _).put1 _ _ _, hk, (hm.bg hb 0 _).bg (hb.put0 _) 1 _, (hbl.setCell (p := ⟨r, 0, none⟩) hr _).setCell (p := ⟨r, 1, none⟩) hr _⟩
theorem rminus_nat {m n : Nat} (hm : m < QQ ^ 250) (hn : n < QQ ^ 250) : Aside0 (∀ W A k c A' k' c', RM W A k m → RM W A' k' n → k' ≤ c' → Calls Tryz.prog 84 #[.agg #[.bool false, .slice A k c], .agg #[.bool false, .slice A' k' c']] W fun e w' => ∃ A k c, e = .returned (.agg #[.bool (decide ((m : Int) - (n : Int) < 0)), .slice A k c]) ∧ k ≤ c ∧ RM w' A k ((m : Int) - (n : Int)).natAbs ∧ Below W.heap.size W w') :=
 ⟨fun W A k c A' k' c' h1 h2 h3 => by
  have h := rMinus_calls (w := W) (A1 := A) (A2 := A') (L1 := k) (L2 := k') (c1 := c) (c2 := c') (x := (m : Int)) (y := (n : Int)) h1 h2 h3 (Nat.le_trans (h1.bound hm) (by omega)) (Nat.le_trans (h2.bound hn) (by omega))
  unfold RX rV at h
  rwa [decide_eq_false (show ¬ (m : Int) < 0 by omega), decide_eq_false (show ¬ (n : Int) < 0 by omega)] at h⟩
theorem rtimes_nat {m n : Nat} (hm : m < QQ ^ 250) (hn : n < QQ ^ 250) : Aside0 (∀ W A k c A' k' c', RM W A k m → RM W A' k' n → Calls Tryz.prog 86 #[.agg #[.bool false, .slice A k c], .agg #[.bool false, .slice A' k' c']] W fun e w' => NX W (m * n) e w') :=
 ⟨fun W A k c A' k' c' h1 h2 => by
  have e1 := h1.bound hm
  have e2 := h2.bound hn
  refine (rTimes_abs h1 h2 (by omega)).mono fun e w' ⟨A, k, c, g1, g2, g3, g4⟩ => ⟨A, k, c, ?_, g2, g3, g4⟩
  rw [g1]; simp⟩
theorem rover_nat2 {m n : Nat} (hm : m < QQ ^ 250) (hn : n < QQ ^ 250) (h0 : 0 < n) : Aside0 (∀ W A1 k1 c1 A2 k2 c2, RM W A1 k1 m → RM W A2 k2 n → Calls Tryz.prog 92 #[.agg #[.bool false, .slice A1 k1 c1], .agg #[.bool false, .slice A2 k2 c2]] W fun e w' => ∃ A k c A' k' c', e = .returned (.tuple #[.agg #[.bool false, .slice A k c], .agg #[.bool false, .slice A' k' c']]) ∧ k ≤ c ∧ k' ≤ c' ∧ RM w' A k (m / n) ∧ RM w' A' k' (m % n) ∧ Below W.heap.size W w') :=
 ⟨fun W A1 k1 c1 A2 k2 c2 m1 m2 => (rOver_plain m1 m2 h0 (Nat.le_trans (m1.bound hm) (by omega)) (Nat.le_trans (m2.bound hn) (by omega)) (.inl rfl)).mono fun e w' h => h⟩
theorem OUT.nat {w W : World} {r : Nat} {g0 : Bool} {A0 : Option Addr} {k0 c0 : Nat} {A : Option Addr} {k c m : Nat} {Z : Int} (hb : BG W r g0 A0 k0 c0) (hr : w.heap.size ≤ r) (hbl : Below w.heap.size w W) (hZ : ((m : Nat) : Int) = Z) (hk : k ≤ c) (hm : RM W A k m) : OUT w r Z ((W.setCell ⟨r, 0, none⟩ (.bool false)).setCell ⟨r, 1, none⟩ (.slice A k c)) :=
 OUT.put hb hr hbl (by subst hZ; exact (decide_eq_false (by omega)).symm) hk (by subst hZ; rfl) hm
theorem al_new {w X : World} (h : Aside0 (Below w.heap.size w X)) : ∃ p Y, X.heap.size = p ∧ X.alloc (.cells #[.bool false, .slice none 0 0] 77) = Y ∧ Aside0 (BG Y p false none 0 0 ∧ w.heap.size ≤ p) ∧ Below X.heap.size X Y :=
 ⟨_, _, rfl, rfl, ⟨BG.new _ _ _ _ _, h.out.size⟩, below_alloc (Below.refl _ _) _⟩
theorem st_one {w X : World} {p q : Nat} {A : Option Addr} {k n : Nat} {g : Bool} {B : Option Addr} {l d : Nat} (h1 : Aside0 (BG X p false none 0 0 ∧ w.heap.size ≤ p)) (h2 : Aside0 (BG X q false none 0 0 ∧ w.heap.size ≤ q)) (hne : p ≠ q) (hm : Aside0 (RM X A k n)) (hB : Aside0 (Below w.heap.size w X)) : ∃ Y, (X.setCell ⟨p, 0, none⟩ (.bool g)).setCell ⟨p, 1, none⟩ (.slice B l d) = Y ∧ Aside0 (BG Y q false none 0 0 ∧ w.heap.size ≤ q) ∧ Aside0 (RM Y A k n) ∧ Aside0 (Below w.heap.size w Y) :=
 ⟨_, rfl, ⟨(h2.out.1.other (Ne.symm hne) 0 _).other (Ne.symm hne) 1 _, h2.out.2⟩, ⟨(hm.out.bg h1.out.1 0 _).bg (h1.out.1.put0 _) 1 _⟩, ⟨(hB.out.setCell (p := ⟨p, 0, none⟩) h1.out.2 _).setCell (p := ⟨p, 1, none⟩) h1.out.2 _⟩⟩
theorem st_two {w X : World} {q : Nat} {A : Option Addr} {k c n : Nat} (h2 : Aside0 (BG X q false none 0 0 ∧ w.heap.size ≤ q)) (hm : Aside0 (RM X A k n)) (hB : Aside0 (Below w.heap.size w X)) : ∃ Y, (X.setCell ⟨q, 0, none⟩ (.bool false)).setCell ⟨q, 1, none⟩ (.slice A k c) = Y ∧ Aside0 (BG Y q false A k c ∧ RM Y A k n) ∧ Aside0 (Below w.heap.size w Y) :=
 ⟨_, rfl, ⟨(h2.out.1.put0 _).put1 _ _ _, (hm.out.bg h2.out.1 0 _).bg (h2.out.1.put0 _) 1 _⟩, ⟨(hB.out.setCell (p := ⟨q, 0, none⟩) h2.out.2 _).setCell (p := ⟨q, 1, none⟩) h2.out.2 _⟩⟩
theorem zero_int (op n x y : Nat) (h : (op = 3 ∨ op = 4) ∧ y = 0 → False) (h3 : op = 3 ∨ op = 4) : 0 < y := by
 rcases Nat.eq_zero_or_pos y with hy | hy
 ·exact (h ⟨h3, hy⟩).elim
 ·exact hy
theorem rBits_ok (op n : Nat) (a b : ByteArray) (ha : a.size ≤ 90000) (hb : b.size ≤ 90000) (hop : op < 10) (h1 : 1 ≤ n) (h2 : n ≤ 64) (hz : btE1 op n a b = 0) (w : World) :
 Calls Tryz.prog 48 #[.int .i64 (op : Int), .int .i64 (n : Int), .string a, .string b] w fun e w' => e = .returned (.tuple #[.string (strI (btV op n (vecV a n) (vecV b n) : Nat)), .int .i64 0]) ∧ Below w.heap.size w w' := by
 unfold btE1 at hz
 obtain ⟨z1, z2, z3⟩ := first3_zero hz
 obtain ⟨ca, a0, a2⟩ := vecE_zero z1
 obtain ⟨cb, b0, b2⟩ := vecE_zero z2
 have hxa : vecV a n = (intI a).toNat := if_pos z1
 have hxb : vecV b n = (intI b).toNat := if_pos z2
 obtain ⟨x, hx⟩ : ∃ x, (intI a).toNat = x := ⟨_, rfl⟩
 obtain ⟨y, hy⟩ : ∃ y, (intI b).toNat = y := ⟨_, rfl⟩
 rw [hxa, hx, hxb, hy]
 rw [hxb, hy] at z3
 have ex : intI a = (x : Int) := by omega
 have ey : intI b = (y : Int) := by omega
 have hc : ((2 : Int) ^ n) = ((2 ^ n : Nat) : Int) := by rw [Int.natCast_pow]; rfl
 have hx2 : x < 2 ^ n := by rw [ex, hc] at a2; omega
 have hy2 : y < 2 ^ n := by rw [ey, hc] at b2; omega
 have h64 : (2 : Nat) ^ n ≤ 2 ^ 64 := Nat.pow_le_pow_right (by decide) h2
 have hx6 : x < 2 ^ 64 := by omega
 have hy6 : y < 2 ^ 64 := by omega
 have hxq : x < QQ ^ 250 := Nat.lt_trans hx6 (two_small (i := 64) (by omega))
 have hyq : y < QQ ^ 250 := Nat.lt_trans hy6 (two_small (i := 64) (by omega))
 have HL := btZ_law hop h2 hx2 hy2
 have HD := btZ_small hop h2 hx2 hy2
 obtain ⟨V, hV⟩ : ∃ V : Nat, btV op n x y = V := ⟨_, rfl⟩
 obtain ⟨Z, hZ⟩ : ∃ Z, btZ op n x y = Z := ⟨_, rfl⟩
 rw [hV, hZ] at HL
 rw [hZ] at HD
 rw [hV]
 have HZ := Aside0.mk hZ
 have HLD := Aside0.mk (And.intro HL HD)
 have HKa := Aside0.mk (fun W => rcheckBits_calls a ha n h2 W)
 have HKb := Aside0.mk (fun W => rcheckBits_calls b hb n h2 W)
 rw [z1] at HKa
 rw [z2] at HKb
 have HRa := Aside0.mk (fun W => rRead_calls a ha (check_digits ca) W)
 have HRb := Aside0.mk (fun W => rRead_calls b hb (check_digits cb) W)
 unfold RX rV at HRa HRb
 rw [ex, decide_eq_false (show ¬ (x : Int) < 0 by omega), Int.natAbs_natCast] at HRa
 rw [ey, decide_eq_false (show ¬ (y : Int) < 0 by omega), Int.natAbs_natCast] at HRb
 have hzs : (b.toList == [48]) = decide (intI b = 0) := zero_str cb
 rw [ey] at hzs
 have HZ3 : Aside0 (op = 3 ∨ op = 4 → 0 < y) := ⟨fun h3 => zero_int op n x y (fun h => by rw [if_pos h] at z3; omega) h3⟩
 have HW8 := Aside0.mk (fun W => rwhen_calls false 8 W)
 have HW3 := Aside0.mk (fun W => rwhen_calls false 3 W)
 have HW30 := Aside0.mk (fun W => rwhen_calls false 30 W)
 have HF2 := Aside0.mk (fun (W : World) (g : Nat) (hg : g = W.heap.size) (t : TypeId) => rfirst2_ret 0 0 0 rfl W g hg t)
 have HF3 := Aside0.mk (fun (W : World) (g : Nat) (hg : g = W.heap.size) (t : TypeId) => rfirst3_ret 0 0 0 0 rfl W g hg t)
 have HB := Aside0.mk (Below.refl w.heap.size w)
 have q1 : decide ((op : Int) < 0) = false := decide_eq_false (by omega)
 have q2 : decide ((10 : Int) ≤ (op : Int)) = false := decide_eq_false (by omega)
 have q3 : decide ((n : Int) < 1) = false := decide_eq_false (by omega)
 have q4 : decide ((64 : Int) < (n : Int)) = false := decide_eq_false (by omega)
 have HN := Aside0.mk (And.intro h1 h2)
 have HXY := Aside0.mk (And.intro hxq (And.intro hyq (And.intro hx6 hy6)))
 clear hz z1 z2 z3 ca cb a0 a2 b0 b2 hxa hxb hx hy ex ey hc hx2 hy2 h64 hx6 hy6 hxq hyq HL HD hV hZ ha hb h1 h2
 go_enter Tryz.func48, Tryz.ntmps48
 go_upto_region 4 with (first | (go_at_call 67; (with_reducible refine (HW8.out _).mono ?_); rintro e wy ⟨rfl, hwy⟩; rw [hwy]; clear hwy wy) | (go_at_call 67; (with_reducible refine (HW3.out _).mono ?_); rintro e wy ⟨rfl, hwy⟩; rw [hwy]; clear hwy wy) | (go_at_call 81; (with_reducible refine (HF2.out _ _ rfl _).mono ?_); rintro e wx ⟨rfl, hwx⟩; rw [hwx]; clear hwx wx; have HB2 := Aside0.mk (below_alloc HB.out (.cells #[.int .i64 0, .int .i64 0] 3)); clear HB; have HB := HB2; clear HB2))
 go_cut [11] (fun v W => v = .int .i64 0 ∧ Aside0 (Below w.heap.size w W))
 case first =>
  by_cases h3 : op = 3 ∨ op = 4
  ·have hyp := HZ3.out h3
   have hz0 : decide ((y : Int) = 0) = false := decide_eq_false (by omega)
   rw [hz0] at hzs
   rcases h3 with rfl | rfl
   ·go_wp2_with (first | (go_at_call 113; (with_reducible refine (HKa.out _).mono ?_); rintro e wx ⟨rfl, hbx⟩; have HB2 := Aside0.mk (HB.out.trans (hbx.mono HB.out.size)); clear HB; have HB := HB2; clear HB2; clear hbx) | (go_at_call 113; (with_reducible refine (HKb.out _).mono ?_); rintro e wx ⟨rfl, hbx⟩; have HB2 := Aside0.mk (HB.out.trans (hbx.mono HB.out.size)); clear HB; have HB := HB2; clear HB2; clear hbx) | (go_at_call 67; (with_reducible refine (HW30.out _).mono ?_); rintro e wy ⟨rfl, hwy⟩; rw [hwy]; clear hwy wy) | (go_at_call 81; (with_reducible refine (HF3.out _ _ rfl _).mono ?_); rintro e wx ⟨rfl, hwx⟩; rw [hwx]; clear hwx wx; have HB2 := Aside0.mk (below_alloc HB.out (.cells #[.int .i64 0, .int .i64 0, .int .i64 0] 3)); clear HB; have HB := HB2; clear HB2))
    go_meet
    case rel => exact ⟨rfl, HB⟩
   ·go_wp2_with (first | (go_at_call 113; (with_reducible refine (HKa.out _).mono ?_); rintro e wx ⟨rfl, hbx⟩; have HB2 := Aside0.mk (HB.out.trans (hbx.mono HB.out.size)); clear HB; have HB := HB2; clear HB2; clear hbx) | (go_at_call 113; (with_reducible refine (HKb.out _).mono ?_); rintro e wx ⟨rfl, hbx⟩; have HB2 := Aside0.mk (HB.out.trans (hbx.mono HB.out.size)); clear HB; have HB := HB2; clear HB2; clear hbx) | (go_at_call 67; (with_reducible refine (HW30.out _).mono ?_); rintro e wy ⟨rfl, hwy⟩; rw [hwy]; clear hwy wy) | (go_at_call 81; (with_reducible refine (HF3.out _ _ rfl _).mono ?_); rintro e wx ⟨rfl, hwx⟩; rw [hwx]; clear hwx wx; have HB2 := Aside0.mk (below_alloc HB.out (.cells #[.int .i64 0, .int .i64 0, .int .i64 0] 3)); clear HB; have HB := HB2; clear HB2))
    go_meet
    case rel => exact ⟨rfl, HB⟩
  ·have e3 : ((op : Int) == 3) = false := by rw [beq_eq_false_iff_ne]; omega
   have e4 : ((op : Int) == 4) = false := by rw [beq_eq_false_iff_ne]; omega
   go_wp2_with (first | (go_at_call 113; (with_reducible refine (HKa.out _).mono ?_); rintro e wx ⟨rfl, hbx⟩; have HB2 := Aside0.mk (HB.out.trans (hbx.mono HB.out.size)); clear HB; have HB := HB2; clear HB2; clear hbx) | (go_at_call 113; (with_reducible refine (HKb.out _).mono ?_); rintro e wx ⟨rfl, hbx⟩; have HB2 := Aside0.mk (HB.out.trans (hbx.mono HB.out.size)); clear HB; have HB := HB2; clear HB2; clear hbx) | (go_at_call 67; (with_reducible refine (HW30.out _).mono ?_); rintro e wy ⟨rfl, hwy⟩; rw [hwy]; clear hwy wy) | (go_at_call 81; (with_reducible refine (HF3.out _ _ rfl _).mono ?_); rintro e wx ⟨rfl, hwx⟩; rw [hwx]; clear hwx wx; have HB2 := Aside0.mk (below_alloc HB.out (.cells #[.int .i64 0, .int .i64 0, .int .i64 0] 3)); clear HB; have HB := HB2; clear HB2))
   go_meet
   case rel => exact ⟨rfl, HB⟩
 case rest =>
  revert wc
  intro W0 hcut
  obtain ⟨rfl, HB0⟩ := hcut
  clear HB
  have HB := HB0
  clear HB0
  go_upto_block 0 with (first | (go_at_call 72; (with_reducible refine (HRa.out _).mono ?_); rintro e W1 ⟨A1, k1, c1, rfl, hk1, hm1, hbx⟩; have HM1 := Aside0.mk (And.intro hk1 hm1); have HB2 := Aside0.mk (HB.out.trans (hbx.mono HB.out.size)); clear HB; have HB := HB2; clear HB2; clear hbx hk1 hm1) | (go_at_call 72; (with_reducible refine (HRb.out _).mono ?_); rintro e W2 ⟨A2, k2, c2, rfl, hk2, hm2, hbx⟩; have HM2 := Aside0.mk (And.intro hk2 hm2); have HM1 := Aside0.mk (And.intro HM1.out.1 (HM1.out.2.below hbx)); have HB2 := Aside0.mk (HB.out.trans (hbx.mono HB.out.size)); clear HB; have HB := HB2; clear HB2; clear hbx hk2 hm2))
  obtain ⟨Y, hY⟩ : ∃ Y, ((W2.alloc (.cells #[.bool false, .slice A1 k1 c1] 77)).alloc (.cells #[.bool false, .slice A2 k2 c2] 77)).alloc (.cells #[.bool false, .slice none 0 0] 77) = Y := ⟨_, rfl⟩
  have HT : Aside0 (BT w W2.heap.size A1 k1 c1 x A2 k2 c2 y Y) := ⟨by
   subst hY
   have hbb : Below W2.heap.size W2 (((W2.alloc (.cells #[.bool false, .slice A1 k1 c1] 77)).alloc (.cells #[.bool false, .slice A2 k2 c2] 77)).alloc (.cells #[.bool false, .slice none 0 0] 77)) := by repeat (first | exact Below.refl _ _ | apply below_alloc)
   have q := QR.new W2 false A1 k1 c1 false A2 k2 c2
   exact ⟨q.1.alloc _, q.2.alloc _, by have h := BG.new ((W2.alloc (.cells #[.bool false, .slice A1 k1 c1] 77)).alloc (.cells #[.bool false, .slice A2 k2 c2] 77)) false none 0 0; simpa using h, HM1.out.1, HM2.out.1, HM1.out.2.below hbb, HM2.out.2.below hbb, HB.out.trans (hbb.mono HB.out.size), HB.out.size⟩⟩
  rw [hY]
  clear hY HM1 HM2 HB
  generalize W2.heap.size = r at *
  have x0 := HT.out.b0.cell0; have x1 := HT.out.b0.cell1; have x2 := HT.out.b1.cell0; have x3 := HT.out.b1.cell1; have x4 := HT.out.b2.cell0; have x5 := HT.out.b2.cell1; have y0 := HT.out.b0.fr 0; have y1 := HT.out.b0.fr 1; have y2 := HT.out.b1.fr 0; have y3 := HT.out.b1.fr 1; have y4 := HT.out.b2.fr 0; have y5 := HT.out.b2.fr 1
  have HPW := Aside0.mk (fun W => rPower_calls n (by have := HN.out.2; omega) W)
  go_cut [] (fun W => OUT w (r + 1 + 1) Z W)
  case first =>
   have hr : w.heap.size ≤ r + 1 + 1 := Nat.le_trans HT.out.r0 (by omega)
   have hcs : op = 0 ∨ op = 1 ∨ op = 2 ∨ op = 3 ∨ op = 4 ∨ op = 8 ∨ op = 9 ∨ (op = 5 ∨ op = 6 ∨ op = 7) := by omega
   rcases hcs with rfl | rfl | rfl | rfl | rfl | rfl | rfl | h567
   ·have HOP := rplus_nat HXY.out.1 HXY.out.2.1
    go_wp2_with (first | (go_at_call 82; (with_reducible refine (HOP.out _ _ _ _ _ _ _ HT.out.m1 HT.out.m2).mono ?_); rintro e W3 ⟨A3, k3, c3, rfl, hk3, hm3, hbx⟩; have HM3 := Aside0.mk (And.intro hk3 hm3); have HT2 := Aside0.mk (HT.out.below hbx); clear x0 x1 x2 x3 x4 x5 y0 y1 y2 y3 y4 y5; clear HT; have HT := HT2; clear HT2; have x0 := HT.out.b0.cell0; have x1 := HT.out.b0.cell1; have x2 := HT.out.b1.cell0; have x3 := HT.out.b1.cell1; have x4 := HT.out.b2.cell0; have x5 := HT.out.b2.cell1; have y0 := HT.out.b0.fr 0; have y1 := HT.out.b0.fr 1; have y2 := HT.out.b1.fr 0; have y3 := HT.out.b1.fr 1; have y4 := HT.out.b2.fr 0; have y5 := HT.out.b2.fr 1; clear hbx hk3 hm3))
    go_meet
    case rel => exact OUT.nat HT.out.b2 hr HT.out.bl HZ.out HM3.out.1 HM3.out.2
   ·have HOP := rminus_nat HXY.out.1 HXY.out.2.1
    have hz : (x : Int) - (y : Int) = Z := HZ.out
    obtain ⟨g, hg⟩ : ∃ g, decide (Z < 0) = g := ⟨_, rfl⟩
    simp only [hz, hg] at HOP
    go_wp2_with (first | (go_at_call 84; (with_reducible refine (HOP.out _ _ _ _ _ _ _ HT.out.m1 HT.out.m2 HT.out.k2).mono ?_); rintro e W3 ⟨A3, k3, c3, rfl, hk3, hm3, hbx⟩; have HM3 := Aside0.mk (And.intro hk3 hm3); have HT2 := Aside0.mk (HT.out.below hbx); clear x0 x1 x2 x3 x4 x5 y0 y1 y2 y3 y4 y5; clear HT; have HT := HT2; clear HT2; have x0 := HT.out.b0.cell0; have x1 := HT.out.b0.cell1; have x2 := HT.out.b1.cell0; have x3 := HT.out.b1.cell1; have x4 := HT.out.b2.cell0; have x5 := HT.out.b2.cell1; have y0 := HT.out.b0.fr 0; have y1 := HT.out.b0.fr 1; have y2 := HT.out.b1.fr 0; have y3 := HT.out.b1.fr 1; have y4 := HT.out.b2.fr 0; have y5 := HT.out.b2.fr 1; clear hbx hk3 hm3))
    go_meet
    case rel => exact OUT.put HT.out.b2 hr HT.out.bl hg.symm HM3.out.1 rfl HM3.out.2
   ·have HOP := rtimes_nat HXY.out.1 HXY.out.2.1
    go_wp2_with (first | (go_at_call 86; (with_reducible refine (HOP.out _ _ _ _ _ _ _ HT.out.m1 HT.out.m2).mono ?_); rintro e W3 ⟨A3, k3, c3, rfl, hk3, hm3, hbx⟩; have HM3 := Aside0.mk (And.intro hk3 hm3); have HT2 := Aside0.mk (HT.out.below hbx); clear x0 x1 x2 x3 x4 x5 y0 y1 y2 y3 y4 y5; clear HT; have HT := HT2; clear HT2; have x0 := HT.out.b0.cell0; have x1 := HT.out.b0.cell1; have x2 := HT.out.b1.cell0; have x3 := HT.out.b1.cell1; have x4 := HT.out.b2.cell0; have x5 := HT.out.b2.cell1; have y0 := HT.out.b0.fr 0; have y1 := HT.out.b0.fr 1; have y2 := HT.out.b1.fr 0; have y3 := HT.out.b1.fr 1; have y4 := HT.out.b2.fr 0; have y5 := HT.out.b2.fr 1; clear hbx hk3 hm3))
    go_meet
    case rel => exact OUT.nat HT.out.b2 hr HT.out.bl HZ.out HM3.out.1 HM3.out.2
   ·have HOP := rover_nat2 HXY.out.1 HXY.out.2.1 (HZ3.out (.inl rfl))
    go_wp2_with (first | (go_at_call 92; (with_reducible refine (HOP.out _ _ _ _ _ _ _ HT.out.m1 HT.out.m2).mono ?_); rintro e W3 ⟨A3, k3, c3, A4, k4, c4, rfl, hk3, hk4, hm3, hm4, hbx⟩; have HM3 := Aside0.mk (And.intro hk3 hm3); have HT2 := Aside0.mk (HT.out.below hbx); clear x0 x1 x2 x3 x4 x5 y0 y1 y2 y3 y4 y5; clear HT; have HT := HT2; clear HT2; have x0 := HT.out.b0.cell0; have x1 := HT.out.b0.cell1; have x2 := HT.out.b1.cell0; have x3 := HT.out.b1.cell1; have x4 := HT.out.b2.cell0; have x5 := HT.out.b2.cell1; have y0 := HT.out.b0.fr 0; have y1 := HT.out.b0.fr 1; have y2 := HT.out.b1.fr 0; have y3 := HT.out.b1.fr 1; have y4 := HT.out.b2.fr 0; have y5 := HT.out.b2.fr 1; clear hbx hk3 hm3 hk4 hm4))
    go_meet
    case rel => exact OUT.nat HT.out.b2 hr HT.out.bl HZ.out HM3.out.1 HM3.out.2
   ·have HOP := rover_nat2 HXY.out.1 HXY.out.2.1 (HZ3.out (.inr rfl))
    go_wp2_with (first | (go_at_call 92; (with_reducible refine (HOP.out _ _ _ _ _ _ _ HT.out.m1 HT.out.m2).mono ?_); rintro e W3 ⟨A3, k3, c3, A4, k4, c4, rfl, hk3, hk4, hm3, hm4, hbx⟩; have HM3 := Aside0.mk (And.intro hk4 hm4); have HT2 := Aside0.mk (HT.out.below hbx); clear x0 x1 x2 x3 x4 x5 y0 y1 y2 y3 y4 y5; clear HT; have HT := HT2; clear HT2; have x0 := HT.out.b0.cell0; have x1 := HT.out.b0.cell1; have x2 := HT.out.b1.cell0; have x3 := HT.out.b1.cell1; have x4 := HT.out.b2.cell0; have x5 := HT.out.b2.cell1; have y0 := HT.out.b0.fr 0; have y1 := HT.out.b0.fr 1; have y2 := HT.out.b1.fr 0; have y3 := HT.out.b1.fr 1; have y4 := HT.out.b2.fr 0; have y5 := HT.out.b2.fr 1; clear hbx hk3 hm3 hk4 hm4))
    go_meet
    case rel => exact OUT.nat HT.out.b2 hr HT.out.bl HZ.out HM3.out.1 HM3.out.2
   ·have HSH : Aside0 (∀ W A k c, RM W A k y → k ≤ c → Calls Tryz.prog 114 #[.agg #[.bool false, .slice A k c], .int .i64 (n : Int)] W fun e w' => e = .returned (.int .i64 ((if n ≤ y then n else y : Nat) : Int)) ∧ Below W.heap.size W w') := ⟨fun W A k c hm hk => rshift_calls hm hk HXY.out.2.1 HN.out.2⟩
    obtain ⟨s, hs⟩ : ∃ s, (if n ≤ y then n else y) = s := ⟨_, rfl⟩
    have hZ : ((x * 2 ^ s : Nat) : Int) = Z := by rw [← hs]; exact HZ.out
    have hsn : s ≤ 64 := by have := HN.out.2; rw [← hs]; split <;> omega
    rw [hs] at HSH
    have HPS := Aside0.mk (fun W => rPower_calls s (by omega) W)
    have HOP := rtimes_nat HXY.out.1 (two_small (i := s) (by omega))
    have HZ8 := Aside0.mk hZ
    clear hs hZ hsn HPW
    go_upto_region 22 with fail
    have HX : Aside0 (Y.cell? ⟨r, 0, none⟩ = some (.bool false) ∧ Y.cell? ⟨r, 1, none⟩ = some (.slice A1 k1 c1) ∧ Y.cell? ⟨r + 1, 0, none⟩ = some (.bool false) ∧ Y.cell? ⟨r + 1, 1, none⟩ = some (.slice A2 k2 c2)) := ⟨x0, x1, x2, x3⟩; have KP : Aside0 (∀ V, Below Y.heap.size Y V → V.cell? ⟨r, 0, none⟩ = some (.bool false) ∧ V.cell? ⟨r, 1, none⟩ = some (.slice A1 k1 c1) ∧ V.cell? ⟨r + 1, 0, none⟩ = some (.bool false) ∧ V.cell? ⟨r + 1, 1, none⟩ = some (.slice A2 k2 c2)) := ⟨fun V hBB => ⟨keepB2 hBB HX.out.1, keepB2 hBB HX.out.2.1, keepB2 hBB HX.out.2.2.1, keepB2 hBB HX.out.2.2.2⟩⟩; have hn0 : r ≠ r + 1 + 1 := (by omega); have hn1 : r + 1 ≠ r + 1 + 1 := (by omega); clear x0 x1 x2 x3 x4 x5 y0 y1 y2 y3 y4 y5
    refine wq KP fun hHeld => ?_
    (obtain ⟨Z0, hZ0⟩ : ∃ Z0, Y.drew = Z0 := ⟨_, rfl⟩; have HBV : Aside0 (Below Y.heap.size Y Z0) := ⟨by subst hZ0; exact below_drew1 (Below.refl _ _)⟩; rw [hZ0] at hHeld ⊢; clear hZ0)
    refine tp 0 ?_
    try simp only [PU]
    refine tp 1 ?_
    try simp only [PU]
    refine tp 2 ?_
    try simp only [PU]
    refine tc 3 fun K hK => ?_
    go_simp
    (go_at_call 114; (with_reducible refine (HSH.out _ _ _ _ (HT.out.m2.below HBV.out) HT.out.k2).mono ?_); rintro e wm ⟨rfl, hbq⟩; have HBV := Aside0.mk (HBV.out.trans (hbq.mono HBV.out.size)); clear hbq)
    refine hK.out _ _ ?_ fun hHeld => ?_
    ·(first | exact KP.out _ HBV.out | exact ⟨cell_far2 hHeld.1 hn0, cell_far2 hHeld.2.1 hn0, cell_far2 hHeld.2.2.1 hn1, cell_far2 hHeld.2.2.2 hn1⟩)
    clear hK K; try simp only [PU]
    refine tc 4 fun K hK => ?_
    go_simp
    (go_at_call 111; (with_reducible refine (HPS.out _).mono ?_); rintro e wm ⟨A5, k5, c5, rfl, hk5, hm5, hbq⟩; have HM5 := Aside0.mk hm5; have HBV := Aside0.mk (HBV.out.trans (hbq.mono HBV.out.size)); clear hbq hk5 hm5)
    refine hK.out _ _ ?_ fun hHeld => ?_
    ·(first | exact KP.out _ HBV.out | exact ⟨cell_far2 hHeld.1 hn0, cell_far2 hHeld.2.1 hn0, cell_far2 hHeld.2.2.1 hn1, cell_far2 hHeld.2.2.2 hn1⟩)
    clear hK K; try simp only [PU]
    refine tc 5 fun K hK => ?_
    go_simp
    (go_at_call 86; (with_reducible refine (HOP.out _ _ _ _ _ _ _ (HT.out.m1.below HBV.out) HM5.out).mono ?_); rintro e W3 ⟨A3, k3, c3, rfl, hk3, hm3, hbq⟩; have HM3 := Aside0.mk (And.intro hk3 hm3); clear hk3 hm3; have HBV := Aside0.mk (HBV.out.trans (hbq.mono HBV.out.size)); clear hbq; have HT3 := Aside0.mk (HT.out.below HBV.out); have p4 := HT3.out.b2.cell0; have p5 := HT3.out.b2.cell1; have r4 := HT3.out.b2.fr 0; have r5 := HT3.out.b2.fr 1)
    refine hK.out _ _ ?_ fun hHeld => ?_
    ·(first | exact KP.out _ HBV.out | exact ⟨cell_far2 hHeld.1 hn0, cell_far2 hHeld.2.1 hn0, cell_far2 hHeld.2.2.1 hn1, cell_far2 hHeld.2.2.2 hn1⟩)
    clear hK K; try simp only [PU]
    refine tc 6 fun K hK => ?_
    go_simp
    refine hK.out _ _ ?_ fun hHeld => ?_
    ·(first | exact KP.out _ HBV.out | exact ⟨cell_far2 hHeld.1 hn0, cell_far2 hHeld.2.1 hn0, cell_far2 hHeld.2.2.1 hn1, cell_far2 hHeld.2.2.2 hn1⟩)
    clear hK K; try simp only [PU]
    refine wpAnyH_done (by kernel_rfl) ?_ _
    go_wp2_with fail
    go_meet
    case rel => exact OUT.nat HT3.out.b2 hr HT3.out.bl HZ8.out HM3.out.1 HM3.out.2
   ·have HSH : Aside0 (∀ W A k c, RM W A k y → k ≤ c → Calls Tryz.prog 114 #[.agg #[.bool false, .slice A k c], .int .i64 (n : Int)] W fun e w' => e = .returned (.int .i64 ((if n ≤ y then n else y : Nat) : Int)) ∧ Below W.heap.size W w') := ⟨fun W A k c hm hk => rshift_calls hm hk HXY.out.2.1 HN.out.2⟩
    obtain ⟨s, hs⟩ : ∃ s, (if n ≤ y then n else y) = s := ⟨_, rfl⟩
    have hZ : ((x / 2 ^ s : Nat) : Int) = Z := by rw [← hs]; exact HZ.out
    have hsn : s ≤ 64 := by have := HN.out.2; rw [← hs]; split <;> omega
    rw [hs] at HSH
    have HPS := Aside0.mk (fun W => rPower_calls s (by omega) W)
    have HOP := rover_nat2 HXY.out.1 (two_small (i := s) (by omega)) (Nat.pow_pos (by decide))
    have HZ8 := Aside0.mk hZ
    clear hs hZ hsn HPW
    go_upto_region 24 with fail
    have HX : Aside0 (Y.cell? ⟨r, 0, none⟩ = some (.bool false) ∧ Y.cell? ⟨r, 1, none⟩ = some (.slice A1 k1 c1) ∧ Y.cell? ⟨r + 1, 0, none⟩ = some (.bool false) ∧ Y.cell? ⟨r + 1, 1, none⟩ = some (.slice A2 k2 c2)) := ⟨x0, x1, x2, x3⟩; have KP : Aside0 (∀ V, Below Y.heap.size Y V → V.cell? ⟨r, 0, none⟩ = some (.bool false) ∧ V.cell? ⟨r, 1, none⟩ = some (.slice A1 k1 c1) ∧ V.cell? ⟨r + 1, 0, none⟩ = some (.bool false) ∧ V.cell? ⟨r + 1, 1, none⟩ = some (.slice A2 k2 c2)) := ⟨fun V hBB => ⟨keepB2 hBB HX.out.1, keepB2 hBB HX.out.2.1, keepB2 hBB HX.out.2.2.1, keepB2 hBB HX.out.2.2.2⟩⟩; have hn0 : r ≠ r + 1 + 1 := (by omega); have hn1 : r + 1 ≠ r + 1 + 1 := (by omega); clear x0 x1 x2 x3 x4 x5 y0 y1 y2 y3 y4 y5
    refine wq KP fun hHeld => ?_
    (obtain ⟨Z0, hZ0⟩ : ∃ Z0, Y.drew = Z0 := ⟨_, rfl⟩; have HBV : Aside0 (Below Y.heap.size Y Z0) := ⟨by subst hZ0; exact below_drew1 (Below.refl _ _)⟩; rw [hZ0] at hHeld ⊢; clear hZ0)
    refine tp 0 ?_
    try simp only [PU]
    refine tp 1 ?_
    try simp only [PU]
    refine tp 2 ?_
    try simp only [PU]
    refine tc 3 fun K hK => ?_
    go_simp
    (go_at_call 114; (with_reducible refine (HSH.out _ _ _ _ (HT.out.m2.below HBV.out) HT.out.k2).mono ?_); rintro e wm ⟨rfl, hbq⟩; have HBV := Aside0.mk (HBV.out.trans (hbq.mono HBV.out.size)); clear hbq)
    refine hK.out _ _ ?_ fun hHeld => ?_
    ·(first | exact KP.out _ HBV.out | exact ⟨cell_far2 hHeld.1 hn0, cell_far2 hHeld.2.1 hn0, cell_far2 hHeld.2.2.1 hn1, cell_far2 hHeld.2.2.2 hn1⟩)
    clear hK K; try simp only [PU]
    refine tc 4 fun K hK => ?_
    go_simp
    (go_at_call 111; (with_reducible refine (HPS.out _).mono ?_); rintro e wm ⟨A5, k5, c5, rfl, hk5, hm5, hbq⟩; have HM5 := Aside0.mk hm5; have HBV := Aside0.mk (HBV.out.trans (hbq.mono HBV.out.size)); clear hbq hk5 hm5)
    refine hK.out _ _ ?_ fun hHeld => ?_
    ·(first | exact KP.out _ HBV.out | exact ⟨cell_far2 hHeld.1 hn0, cell_far2 hHeld.2.1 hn0, cell_far2 hHeld.2.2.1 hn1, cell_far2 hHeld.2.2.2 hn1⟩)
    clear hK K; try simp only [PU]
    refine tc 5 fun K hK => ?_
    go_simp
    (go_at_call 92; (with_reducible refine (HOP.out _ _ _ _ _ _ _ (HT.out.m1.below HBV.out) HM5.out).mono ?_); rintro e W3 ⟨A3, k3, c3, A4, k4, c4, rfl, hk3, hk4, hm3, hm4, hbq⟩; have HM3 := Aside0.mk (And.intro hk3 hm3); clear hk3 hm3 hk4 hm4; have HBV := Aside0.mk (HBV.out.trans (hbq.mono HBV.out.size)); clear hbq; have HT3 := Aside0.mk (HT.out.below HBV.out); have p4 := HT3.out.b2.cell0; have p5 := HT3.out.b2.cell1; have r4 := HT3.out.b2.fr 0; have r5 := HT3.out.b2.fr 1)
    refine hK.out _ _ ?_ fun hHeld => ?_
    ·(first | exact KP.out _ HBV.out | exact ⟨cell_far2 hHeld.1 hn0, cell_far2 hHeld.2.1 hn0, cell_far2 hHeld.2.2.1 hn1, cell_far2 hHeld.2.2.2 hn1⟩)
    clear hK K; try simp only [PU]
    refine tp 6 ?_
    try simp only [PU]
    refine tp 7 ?_
    try simp only [PU]
    refine tp 8 ?_
    try simp only [PU]
    refine tc 9 fun K hK => ?_
    go_simp
    refine hK.out _ _ ?_ fun hHeld => ?_
    ·(first | exact KP.out _ HBV.out | exact ⟨cell_far2 hHeld.1 hn0, cell_far2 hHeld.2.1 hn0, cell_far2 hHeld.2.2.1 hn1, cell_far2 hHeld.2.2.2 hn1⟩)
    clear hK K; try simp only [PU]
    refine wpAnyH_done (by kernel_rfl) ?_ _
    go_wp2_with fail
    go_meet
    case rel => exact OUT.nat HT3.out.b2 hr HT3.out.bl HZ8.out HM3.out.1 HM3.out.2
   ·have HOP : Aside0 (∀ W A1 k1 c1 A2 k2 c2, RM W A1 k1 x → RM W A2 k2 y → k1 ≤ c1 → k2 ≤ c2 → Calls Tryz.prog 115 #[.int .i64 (op : Int), .agg #[.bool false, .slice A1 k1 c1], .agg #[.bool false, .slice A2 k2 c2]] W fun e w' => NX W (bitF op x y) e w') := ⟨fun W A1 k1 c1 A2 k2 c2 m1 m2 l1 l2 => rbitwise_calls m1 m2 l1 l2 HXY.out.2.2.1 HXY.out.2.2.2 h567⟩
    have hZ : ((bitF op x y : Nat) : Int) = Z := by rcases h567 with rfl | rfl | rfl <;> exact HZ.out
    have HZ8 := Aside0.mk hZ
    have e0 : ((op : Int) == 0) = false := by rw [beq_eq_false_iff_ne]; omega
    have e1 : ((op : Int) == 1) = false := by rw [beq_eq_false_iff_ne]; omega
    have e2 : ((op : Int) == 2) = false := by rw [beq_eq_false_iff_ne]; omega
    have e3 : ((op : Int) == 3) = false := by rw [beq_eq_false_iff_ne]; omega
    have e4 : ((op : Int) == 4) = false := by rw [beq_eq_false_iff_ne]; omega
    have e8 : ((op : Int) == 8) = false := by rw [beq_eq_false_iff_ne]; omega
    have e9 : ((op : Int) == 9) = false := by rw [beq_eq_false_iff_ne]; omega
    clear h567 hZ
    go_wp2_with (first | (go_at_call 115; (with_reducible refine (HOP.out _ _ _ _ _ _ _ HT.out.m1 HT.out.m2 HT.out.k1 HT.out.k2).mono ?_); rintro e W3 ⟨A3, k3, c3, rfl, hk3, hm3, hbx⟩; have HM3 := Aside0.mk (And.intro hk3 hm3); have HT2 := Aside0.mk (HT.out.below hbx); clear x0 x1 x2 x3 x4 x5 y0 y1 y2 y3 y4 y5; clear HT; have HT := HT2; clear HT2; have x0 := HT.out.b0.cell0; have x1 := HT.out.b0.cell1; have x2 := HT.out.b1.cell0; have x3 := HT.out.b1.cell1; have x4 := HT.out.b2.cell0; have x5 := HT.out.b2.cell1; have y0 := HT.out.b0.fr 0; have y1 := HT.out.b0.fr 1; have y2 := HT.out.b1.fr 0; have y3 := HT.out.b1.fr 1; have y4 := HT.out.b2.fr 0; have y5 := HT.out.b2.fr 1; clear hbx hk3 hm3))
    go_meet
    case rel => exact OUT.nat HT.out.b2 hr HT.out.bl HZ8.out HM3.out.1 HM3.out.2
  case rest =>
   revert wc
   intro W4 hcut
   obtain ⟨A5, k5, c5, hb5, hk5, hm5, hbl⟩ := hcut
   obtain ⟨g, hg⟩ : ∃ g, decide (Z < 0) = g := ⟨_, rfl⟩
   have HOV := rover_two (x := Z) (n := n) (HLD.out.2.more (by omega)) HN.out.2
   have HRS := Aside0.mk (fun W A k c (hm : RM W A k ((V : Int)).natAbs) => rresult_calls (w := W) (A := A) (L := k) (c := c) (x := (V : Int)) hm (by rw [← HLD.out.1]; exact (Dig.emod (rtwo_dig HN.out.2) (fun e => by have : (0 : Int) < 2 ^ n := Int.pow_pos (by decide); omega)).more (by omega)))
   have dr : Dig 120 (V : Int) := by rw [← HLD.out.1]; exact Dig.emod (rtwo_dig HN.out.2) (fun e => by have : (0 : Int) < 2 ^ n := Int.pow_pos (by decide); omega)
   rw [(wr_dig dr).1, (wr_dig dr).2] at HRS
   unfold OvPost at HOV
   unfold rV at HOV HRS
   have hv0 : decide ((V : Int) < 0) = false := decide_eq_false (by omega)
   simp only [HLD.out.1, hg, hv0, Int.natAbs_natCast] at HOV HRS
   rw [hg] at hb5
   generalize decide (Z / 2 ^ n < 0) = gq at *
   have HM5 := Aside0.mk hm5
   have HBL := Aside0.mk hbl
   have hr : w.heap.size ≤ r + 1 + 1 := Nat.le_trans HT.out.r0 (by omega)
   clear x0 x1 x2 x3 x4 x5 y0 y1 y2 y3 y4 y5
   clear HT HKa HKb HRa HRb HW8 HW3 HW30 HF2 HF3 HZ3 hzs hm5 hbl dr hv0 hg q1 q2 q3 q4
   go_upto_region 25 with fail
   go_cut [16] (fun v W => ∃ p A k c, v = .pointer (some ⟨p, 0, none⟩) ∧ Aside0 (BG W p false A k c ∧ RM W A k V ∧ Below w.heap.size w W))
   case first =>
    rename_i J K hJ hK
    have KP : Aside0 (∀ X, Below W4.heap.size W4 X → X.cell? ⟨r + 1 + 1, 0, none⟩ = some (.bool g) ∧ X.cell? ⟨r + 1 + 1, 1, none⟩ = some (.slice A5 k5 c5)) := ⟨fun X hBB => ⟨keepB2 hBB hb5.cell0, keepB2 hBB hb5.cell1⟩⟩
    refine wq KP fun hHeld => ?_
    (obtain ⟨Z0, hZ0⟩ : ∃ Z0, W4.drew = Z0 := ⟨_, rfl⟩; have HBV : Aside0 (Below W4.heap.size W4 Z0) := ⟨by subst hZ0; exact below_drew1 (Below.refl _ _)⟩; rw [hZ0] at hHeld ⊢; clear hZ0)
    repeat' (first
     | (refine fun (_ : Tg 2) K hK => ?_; go_simp; (go_at_call 111; (with_reducible refine (HPW.out _).mono ?_); rintro e wm ⟨A6, k6, c6, rfl, hk6, hm6, hbq⟩; (try have H15 := Aside0.mk (And.intro (H15.out.1.below hbq) H15.out.2)); (try have H16 := Aside0.mk (And.intro (H16.out.1.below hbq) H16.out.2)); (try have HM6 := Aside0.mk (HM6.out.below hbq)); (try have HM8 := Aside0.mk (HM8.out.below hbq)); have HBV := Aside0.mk (HBV.out.trans (hbq.mono HBV.out.size)); have HM6 := Aside0.mk hm6; clear hbq hk6 hm6; (try have s0 := H15.out.1.cell0); (try have s1 := H15.out.1.cell1); (try have s2 := H15.out.1.fr 0); (try have s3 := H15.out.1.fr 1); (try have s4 := H16.out.1.cell0); (try have s5 := H16.out.1.cell1); (try have s6 := H16.out.1.fr 0); (try have s7 := H16.out.1.fr 1)); refine hK.out _ _ ?_ fun hHeld => ?_; (exact KP.out _ HBV.out); clear hK K; try simp only [PU])
     | (refine fun (_ : Tg 3) K hK => ?_; go_simp; (go_at_call 92; (with_reducible refine (HOV.out _ _ _ _ _ _ _ (HM5.out.below HBV.out) HM6.out).mono ?_); rintro e wm ⟨A7, k7, c7, A8, k8, c8, rfl, hk7, hk8, hm7, hm8, hbq⟩; (try have H15 := Aside0.mk (And.intro (H15.out.1.below hbq) H15.out.2)); (try have H16 := Aside0.mk (And.intro (H16.out.1.below hbq) H16.out.2)); (try have HM6 := Aside0.mk (HM6.out.below hbq)); (try have HM8 := Aside0.mk (HM8.out.below hbq)); have HBV := Aside0.mk (HBV.out.trans (hbq.mono HBV.out.size)); have HM8 := Aside0.mk hm8; clear hbq hk7 hk8 hm7 hm8; (try have s0 := H15.out.1.cell0); (try have s1 := H15.out.1.cell1); (try have s2 := H15.out.1.fr 0); (try have s3 := H15.out.1.fr 1); (try have s4 := H16.out.1.cell0); (try have s5 := H16.out.1.cell1); (try have s6 := H16.out.1.fr 0); (try have s7 := H16.out.1.fr 1)); refine hK.out _ _ ?_ fun hHeld => ?_; (exact KP.out _ HBV.out); clear hK K; try simp only [PU])
     | (refine fun (_ : Tg 7) K hK => ?_; go_simp; (obtain ⟨p15, Y7, hp, hY, H15, hbq⟩ := al_new HBV; (try have hne := Nat.ne_of_gt (Nat.lt_of_lt_of_eq H16.out.1.lt hp)); (try have H16 := Aside0.mk (And.intro (H16.out.1.below hbq) H16.out.2)); (try have HM6 := Aside0.mk (HM6.out.below hbq)); (try have HM8 := Aside0.mk (HM8.out.below hbq)); have HBV := Aside0.mk (HBV.out.trans (hbq.mono HBV.out.size)); rw [hp, hY]; clear hp hY hbq; (try have s0 := H15.out.1.cell0); (try have s1 := H15.out.1.cell1); (try have s2 := H15.out.1.fr 0); (try have s3 := H15.out.1.fr 1); (try have s4 := H16.out.1.cell0); (try have s5 := H16.out.1.cell1); (try have s6 := H16.out.1.fr 0); (try have s7 := H16.out.1.fr 1)); refine hK.out _ _ ?_ fun hHeld => ?_; (exact KP.out _ HBV.out); clear hK K; try simp only [PU])
     | (refine fun (_ : Tg 8) K hK => ?_; go_simp; (obtain ⟨p16, Y8, hp, hY, H16, hbq⟩ := al_new HBV; (try have hne := Nat.ne_of_lt (Nat.lt_of_lt_of_eq H15.out.1.lt hp)); (try have H15 := Aside0.mk (And.intro (H15.out.1.below hbq) H15.out.2)); (try have HM6 := Aside0.mk (HM6.out.below hbq)); (try have HM8 := Aside0.mk (HM8.out.below hbq)); have HBV := Aside0.mk (HBV.out.trans (hbq.mono HBV.out.size)); rw [hp, hY]; clear hp hY hbq; (try have s0 := H15.out.1.cell0); (try have s1 := H15.out.1.cell1); (try have s2 := H15.out.1.fr 0); (try have s3 := H15.out.1.fr 1); (try have s4 := H16.out.1.cell0); (try have s5 := H16.out.1.cell1); (try have s6 := H16.out.1.fr 0); (try have s7 := H16.out.1.fr 1)); refine hK.out _ _ ?_ fun hHeld => ?_; (exact KP.out _ HBV.out); clear hK K; try simp only [PU])
     | (refine fun (_ : Tg 9) K hK => ?_; go_simp; (obtain ⟨Y9, hY, H16, HM8, HBV⟩ := st_one (g := gq) (B := A7) (l := k7) (d := c7) H15 H16 hne HM8 HBV; rw [hY]; clear hY; (try have s0 := H15.out.1.cell0); (try have s1 := H15.out.1.cell1); (try have s2 := H15.out.1.fr 0); (try have s3 := H15.out.1.fr 1); (try have s4 := H16.out.1.cell0); (try have s5 := H16.out.1.cell1); (try have s6 := H16.out.1.fr 0); (try have s7 := H16.out.1.fr 1)); refine hK.out _ _ ?_ fun hHeld => ?_; (exact KP.out _ HBV.out); clear hK K; try simp only [PU])
     | (refine fun (_ : Tg 10) K hK => ?_; go_simp; (obtain ⟨Y10, hY, HFIN, HBV⟩ := st_two (c := c8) H16 HM8 HBV; rw [hY]; clear hY); refine hK.out _ _ ?_ fun hHeld => ?_; (exact KP.out _ HBV.out); clear hK K; try simp only [PU])
     | (refine tq 0 ?_; try simp only [PU])
     | (refine tq 1 ?_; try simp only [PU])
     | (refine tq 4 ?_; try simp only [PU])
     | (refine tq 5 ?_; try simp only [PU])
     | (refine tq 6 ?_; try simp only [PU])
     | refine t1 8 ?_
     | refine t1 9 ?_
     | refine t1 10 ?_
     | refine t1 7 ?_
     | refine t1 3 ?_
     | refine t1 2 ?_
     | refine t3 2 7 8 ?_ ?_ ?_
     | refine t3 3 7 8 ?_ ?_ ?_
     | refine t2 7 8 ?_ ?_
     | refine t2 3 8 ?_ ?_
     | refine t2 3 7 ?_ ?_
     | refine t2 2 8 ?_ ?_
     | refine t2 2 7 ?_ ?_
     | fail)
    all_goals
     refine wpAnyH_done (by kernel_rfl) ?_ _
     (refine hK _ _ ?_; go_meet; (case rel => exact ⟨p16, A8, k8, c8, rfl, ⟨HFIN.out.1, HFIN.out.2, HBL.out.trans (HBV.out.mono HBL.out.size)⟩⟩))
   case rest =>
    revert wc
    intro W6 hcut
    obtain ⟨p, A8, k8, c8, rfl, HF⟩ := hcut
    have x0 := HF.out.1.cell0
    have x1 := HF.out.1.cell1
    go_wp2_with (first | (go_at_call 77; (with_reducible refine (HRS.out _ _ _ _ HF.out.2.1).mono ?_); rintro e W5 ⟨rfl, hbx⟩))
    go_ret2
    exact ⟨rfl, HF.out.2.2.trans (hbx.mono HF.out.2.2.size)⟩
theorem rBits_bad0 (op n : Int) (a b : ByteArray) (hz : btE0 op n ≠ 0) (w : World) :
 Calls Tryz.prog 48 #[.int .i64 op, .int .i64 n, .string a, .string b] w fun e w' => e = .returned (.tuple #[.string ⟨#[]⟩, .int .i64 (btE0 op n)]) ∧ Below w.heap.size w w' := by
 obtain ⟨E, hEE⟩ : ∃ E, btE0 op n = E := ⟨_, rfl⟩
 rw [hEE] at hz ⊢
 unfold btE0 at hEE
 have hbe : (E != 0) = true := by simp [hz]
 have HB := Aside0.mk (Below.refl w.heap.size w)
 obtain ⟨p1, hp1⟩ : ∃ b, decide (op < 0) = b := ⟨_, rfl⟩
 obtain ⟨p2, hp2⟩ : ∃ b, decide (10 ≤ op) = b := ⟨_, rfl⟩
 obtain ⟨q1, hq1⟩ : ∃ b, decide (n < 1) = b := ⟨_, rfl⟩
 obtain ⟨q2, hq2⟩ : ∃ b, decide (64 < n) = b := ⟨_, rfl⟩
 have hF : firstI [if (p1 || p2) = true then 8 else 0, if (q1 || q2) = true then 3 else 0] = E := by
  rw [← hEE, ← hp1, ← hp2, ← hq1, ← hq2]
  simp only [Bool.or_eq_true, decide_eq_true_eq]
 have HW8 := Aside0.mk (fun W => rwhen_calls (p1 || p2) 8 W)
 have HW3 := Aside0.mk (fun W => rwhen_calls (q1 || q2) 3 W)
 have HF2 := Aside0.mk (fun (W : World) (g : Nat) (hg : g = W.heap.size) (t : TypeId) => rfirst2_ret _ _ E hF W g hg t)
 clear hEE
 cases p1 <;> cases p2 <;> cases q1 <;> cases q2
 all_goals
  first
   | exact absurd (show firstI [0, 0] = E from hF).symm hz
   | skip
 all_goals
  simp only [Bool.or_true, Bool.true_or, Bool.or_self, Bool.or_false, Bool.false_or, if_true, if_false, reduceIte, Bool.false_eq_true] at HF2 HW8 HW3
  clear hF hz
  go_enter Tryz.func48, Tryz.ntmps48
  go_wp2_with (first | (go_at_call 67; (with_reducible refine (HW8.out _).mono ?_); rintro e wy ⟨rfl, hwy⟩; rw [hwy]; clear hwy wy) | (go_at_call 67; (with_reducible refine (HW3.out _).mono ?_); rintro e wy ⟨rfl, hwy⟩; rw [hwy]; clear hwy wy) | (go_at_call 81; (with_reducible refine (HF2.out _ _ rfl _).mono ?_); rintro e wx ⟨rfl, hwx⟩; rw [hwx]; clear hwx wx))
  go_ret2
  exact ⟨rfl, below_alloc HB.out _⟩
theorem bt_first (op n : Nat) (a b : ByteArray) : firstI [vecE a n, vecE b n, if op = 3 ∨ op = 4 then (if (b.toList == [48]) = true then 30 else 0) else 0] = btE1 op n a b := by
 unfold btE1
 by_cases h1 : vecE a n = 0
 ·by_cases h2 : vecE b n = 0
  ·obtain ⟨cb, b0, b2⟩ := vecE_zero h2
   have hv : vecV b n = (intI b).toNat := if_pos h2
   rw [zero_str cb, hv]
   by_cases h3 : op = 3 ∨ op = 4
   ·rw [if_pos h3]
    by_cases h4 : intI b = 0
    ·rw [if_pos (decide_eq_true h4), if_pos ⟨h3, by omega⟩]
    ·rw [if_neg (by simpa using h4), if_neg (fun h => h4 (by have := h.2; omega))]
   ·rw [if_neg h3, if_neg (fun h => h3 h.1)]
  ·simp [firstI, h1, h2]
 ·simp [firstI, h1]
theorem rBits_bad1 (op n : Nat) (a b : ByteArray) (ha : a.size ≤ 90000) (hb : b.size ≤ 90000) (hop : op < 10) (h1 : 1 ≤ n) (h2 : n ≤ 64) (hz : btE1 op n a b ≠ 0) (w : World) :
 Calls Tryz.prog 48 #[.int .i64 (op : Int), .int .i64 (n : Int), .string a, .string b] w fun e w' => e = .returned (.tuple #[.string ⟨#[]⟩, .int .i64 (btE1 op n a b)]) ∧ Below w.heap.size w w' := by
 have hf := bt_first op n a b
 have HKa := Aside0.mk (fun W => rcheckBits_calls a ha n h2 W)
 have HKb := Aside0.mk (fun W => rcheckBits_calls b hb n h2 W)
 generalize btE1 op n a b = E at *
 generalize vecE a n = E1 at *
 generalize vecE b n = E2 at *
 have hbe : (E != 0) = true := by simp [hz]
 have HW8 := Aside0.mk (fun W => rwhen_calls false 8 W)
 have HW3 := Aside0.mk (fun W => rwhen_calls false 3 W)
 have HF2 := Aside0.mk (fun (W : World) (g : Nat) (hg : g = W.heap.size) (t : TypeId) => rfirst2_ret 0 0 0 rfl W g hg t)
 have HB := Aside0.mk (Below.refl w.heap.size w)
 have q1 : decide ((op : Int) < 0) = false := decide_eq_false (by omega)
 have q2 : decide ((10 : Int) ≤ (op : Int)) = false := decide_eq_false (by omega)
 have q3 : decide ((n : Int) < 1) = false := decide_eq_false (by omega)
 have q4 : decide ((64 : Int) < (n : Int)) = false := decide_eq_false (by omega)
 clear hz
 by_cases h3 : op = 3 ∨ op = 4
 ·have HW30 := Aside0.mk (fun W => rwhen_calls (b.toList == [48]) 30 W)
  rw [if_pos h3] at hf
  have HF3 := Aside0.mk (fun (W : World) (g : Nat) (hg : g = W.heap.size) (t : TypeId) => rfirst3_ret E1 E2 (if (b.toList == [48]) = true then 30 else 0) E hf W g hg t)
  generalize (if (b.toList == [48]) = true then (30 : Int) else 0) = cc at *
  clear hf hop h1 h2 ha hb
  rcases h3 with rfl | rfl
  all_goals
   go_enter Tryz.func48, Tryz.ntmps48
   go_wp2_with (first | (go_at_call 67; (with_reducible refine (HW8.out _).mono ?_); rintro e wy ⟨rfl, hwy⟩; rw [hwy]; clear hwy wy) | (go_at_call 67; (with_reducible refine (HW3.out _).mono ?_); rintro e wy ⟨rfl, hwy⟩; rw [hwy]; clear hwy wy) | (go_at_call 81; (with_reducible refine (HF2.out _ _ rfl _).mono ?_); rintro e wx ⟨rfl, hwx⟩; rw [hwx]; clear hwx wx; have HB2 := Aside0.mk (below_alloc HB.out (.cells #[.int .i64 0, .int .i64 0] 3)); clear HB; have HB := HB2; clear HB2) | (go_at_call 113; (with_reducible refine (HKa.out _).mono ?_); rintro e wx ⟨rfl, hbx⟩; have HB2 := Aside0.mk (HB.out.trans (hbx.mono HB.out.size)); clear HB; have HB := HB2; clear HB2; clear hbx) | (go_at_call 113; (with_reducible refine (HKb.out _).mono ?_); rintro e wx ⟨rfl, hbx⟩; have HB2 := Aside0.mk (HB.out.trans (hbx.mono HB.out.size)); clear HB; have HB := HB2; clear HB2; clear hbx) | (go_at_call 67; (with_reducible refine (HW30.out _).mono ?_); rintro e wy ⟨rfl, hwy⟩; rw [hwy]; clear hwy wy) | (go_at_call 81; (with_reducible refine (HF3.out _ _ rfl _).mono ?_); rintro e wx ⟨rfl, hwx⟩; rw [hwx]; clear hwx wx))
   go_ret2
   exact ⟨rfl, below_alloc HB.out _⟩
 ·have HW30 := Aside0.mk (fun W => rwhen_calls false 30 W)
  rw [if_neg h3] at hf
  have HF3 := Aside0.mk (fun (W : World) (g : Nat) (hg : g = W.heap.size) (t : TypeId) => rfirst3_ret E1 E2 0 E hf W g hg t)
  have e3 : ((op : Int) == 3) = false := by rw [beq_eq_false_iff_ne]; omega
  have e4 : ((op : Int) == 4) = false := by rw [beq_eq_false_iff_ne]; omega
  obtain ⟨cc, hcc⟩ : ∃ cc : Int, cc = 0 := ⟨0, rfl⟩
  clear hf hop h1 h2 ha hb h3 hcc
  go_enter Tryz.func48, Tryz.ntmps48
  go_wp2_with (first | (go_at_call 67; (with_reducible refine (HW8.out _).mono ?_); rintro e wy ⟨rfl, hwy⟩; rw [hwy]; clear hwy wy) | (go_at_call 67; (with_reducible refine (HW3.out _).mono ?_); rintro e wy ⟨rfl, hwy⟩; rw [hwy]; clear hwy wy) | (go_at_call 81; (with_reducible refine (HF2.out _ _ rfl _).mono ?_); rintro e wx ⟨rfl, hwx⟩; rw [hwx]; clear hwx wx; have HB2 := Aside0.mk (below_alloc HB.out (.cells #[.int .i64 0, .int .i64 0] 3)); clear HB; have HB := HB2; clear HB2) | (go_at_call 113; (with_reducible refine (HKa.out _).mono ?_); rintro e wx ⟨rfl, hbx⟩; have HB2 := Aside0.mk (HB.out.trans (hbx.mono HB.out.size)); clear HB; have HB := HB2; clear HB2; clear hbx) | (go_at_call 113; (with_reducible refine (HKb.out _).mono ?_); rintro e wx ⟨rfl, hbx⟩; have HB2 := Aside0.mk (HB.out.trans (hbx.mono HB.out.size)); clear HB; have HB := HB2; clear HB2; clear hbx) | (go_at_call 67; (with_reducible refine (HW30.out _).mono ?_); rintro e wy ⟨rfl, hwy⟩; rw [hwy]; clear hwy wy) | (go_at_call 81; (with_reducible refine (HF3.out _ _ rfl _).mono ?_); rintro e wx ⟨rfl, hwx⟩; rw [hwx]; clear hwx wx))
  go_ret2
  exact ⟨rfl, below_alloc HB.out _⟩
theorem rBits_calls (op n : Int) (a b : ByteArray) (ha : a.size ≤ 90000) (hb : b.size ≤ 90000) (w : World) :
 Calls Tryz.prog 48 #[.int .i64 op, .int .i64 n, .string a, .string b] w fun e w' => e = .returned (.tuple #[.string (btS op n a b), .int .i64 (btR op n a b)]) ∧ Below w.heap.size w w' := by
 unfold btS btR
 by_cases h0 : btE0 op n = 0
 ·obtain ⟨h1, h2, h3, h4⟩ := btE0_zero h0
  rw [if_pos h0]
  obtain ⟨o, rfl⟩ : ∃ m : Nat, op = (m : Int) := ⟨op.toNat, by omega⟩
  obtain ⟨m, rfl⟩ : ∃ m : Nat, n = (m : Int) := ⟨n.toNat, by omega⟩
  rw [show (o : Int).toNat = o from rfl, show (m : Int).toNat = m from rfl]
  by_cases h5 : btE1 o m a b = 0
  ·rw [if_pos h5, h5]
   exact rBits_ok o m a b ha hb (by omega) (by omega) (by omega) h5 w
  ·rw [if_neg h5]
   exact rBits_bad1 o m a b ha hb (by omega) (by omega) (by omega) h5 w
 ·rw [if_neg h0, if_neg h0]
  exact rBits_bad0 op n a b h0 w
end
section
open Go.Lib Go.Proofs.YtillgofjlpjbcaaGreatDoorW.PrintLast Go.Proofs.YtillgofjlpjbcaaGreatDoorW.PrintMore Go.Proofs.YtillgofjlpjbcaaGreatDoorW.PrintWords Go.RowKit Go.Shelf
set_option maxRecDepth 100000
def nines : ByteArray := ⟨(List.replicate 120 57).toArray⟩
theorem nines_size : nines.size = 120 := by show (List.replicate 120 (57 : UInt8)).toArray.size = 120; simp
theorem nines_calls (W : World) : Calls Tryz.prog 62 #[.string ⟨#[57]⟩, .int .i64 120] W fun e w' => e = .returned (.string nines) ∧ Below W.heap.size W w' := by
 have h := Tryz.strings_Repeat ⟨#[57]⟩ 120 W (by omega) (by show 1 * 120 ≤ _; omega)
 have e : Lib.repeatL [57] 120 = List.replicate 120 57 := by
  have : ∀ q, Lib.repeatL [57] q = List.replicate q 57 := fun q => by
   induction q with
   | zero => rfl
   | succ q ih => rw [Lib.repeatL, ih]; rfl
  exact this 120
 rw [show (⟨#[57]⟩ : ByteArray).data.toList = [57] from rfl, e] at h
 exact h
def awF : Nat → FuncId
 | 0 => 21
 | 1 => 23
 | 2 => 25
 | 3 => 33
 | 4 => 55
 | 5 => 35
 | 6 => 37
 | 7 => 39
 | _ => 41
def awA : Nat → ByteArray
 | 0 => ⟨#[57, 57]⟩
 | 1 => ⟨#[53]⟩
 | 2 => ⟨#[45, 49, 50]⟩
 | 3 => ⟨#[45, 49, 50]⟩
 | 4 => ⟨#[54]⟩
 | 5 => ⟨#[49, 47, 50]⟩
 | 6 => ⟨#[49, 47, 50]⟩
 | 7 => ⟨#[50, 47, 51]⟩
 | _ => ⟨#[49, 47, 50]⟩
def awB : Nat → ByteArray
 | 0 => ⟨#[49]⟩
 | 1 => ⟨#[49, 50]⟩
 | 2 => ⟨#[49, 50]⟩
 | 3 => ⟨#[49, 56]⟩
 | 4 => ⟨#[45, 52]⟩
 | 5 => ⟨#[49, 47, 51]⟩
 | 6 => ⟨#[49, 47, 50]⟩
 | 7 => ⟨#[51, 47, 52]⟩
 | _ => ⟨#[45, 51, 47, 52]⟩
def awC : Nat → ByteArray
 | 0 => ⟨#[49, 48, 48]⟩
 | 1 => ⟨#[45, 55]⟩
 | 2 => ⟨#[45, 49, 52, 52]⟩
 | 3 => ⟨#[54]⟩
 | 4 => ⟨#[45, 51, 47, 50]⟩
 | 5 => ⟨#[53, 47, 54]⟩
 | 6 => ⟨#[48, 47, 49]⟩
 | 7 => ⟨#[49, 47, 50]⟩
 | _ => ⟨#[45, 50, 47, 51]⟩
def dmA : Nat → ByteArray
 | 0 => ⟨#[45, 55]⟩
 | 1 => ⟨#[45, 55]⟩
 | _ => ⟨#[55]⟩
def dmB : Nat → ByteArray
 | 0 => ⟨#[50]⟩
 | 1 => ⟨#[45, 50]⟩
 | _ => ⟨#[45, 50]⟩
def dmC : Nat → ByteArray
 | 0 => ⟨#[45, 52]⟩
 | 1 => ⟨#[52]⟩
 | _ => ⟨#[45, 51]⟩
def dmD : Nat → ByteArray
 | 0 => ⟨#[49]⟩
 | 1 => ⟨#[49]⟩
 | _ => ⟨#[49]⟩
theorem aw0 (W : World) (hE : EN W) : Calls Tryz.prog 21 #[.string ⟨#[57, 57]⟩, .string ⟨#[49]⟩] W fun e w' => e = .returned (.tuple #[.string ⟨#[49, 48, 48]⟩, .int .i64 0]) ∧ Below W.heap.size W w' := by
 have h := addN_calls ⟨#[57, 57]⟩ ⟨#[49]⟩ (by decide) (by decide) W hE.tens
 rw [show biS (fun x y : Int => x + y) ⟨#[57, 57]⟩ ⟨#[49]⟩ = ⟨#[49, 48, 48]⟩ from by decide +kernel, show biR (fun x y : Int => x + y) ⟨#[57, 57]⟩ ⟨#[49]⟩ = 0 from by decide +kernel] at h
 exact h
theorem aw1 (W : World) (hE : EN W) : Calls Tryz.prog 23 #[.string ⟨#[53]⟩, .string ⟨#[49, 50]⟩] W fun e w' => e = .returned (.tuple #[.string ⟨#[45, 55]⟩, .int .i64 0]) ∧ Below W.heap.size W w' := by
 have h := subN_calls ⟨#[53]⟩ ⟨#[49, 50]⟩ (by decide) (by decide) W hE.tens
 rw [show biS (fun x y : Int => x - y) ⟨#[53]⟩ ⟨#[49, 50]⟩ = ⟨#[45, 55]⟩ from by decide +kernel, show biR (fun x y : Int => x - y) ⟨#[53]⟩ ⟨#[49, 50]⟩ = 0 from by decide +kernel] at h
 exact h
theorem aw2 (W : World) (hE : EN W) : Calls Tryz.prog 25 #[.string ⟨#[45, 49, 50]⟩, .string ⟨#[49, 50]⟩] W fun e w' => e = .returned (.tuple #[.string ⟨#[45, 49, 52, 52]⟩, .int .i64 0]) ∧ Below W.heap.size W w' := by
 have h := mulN_calls ⟨#[45, 49, 50]⟩ ⟨#[49, 50]⟩ (by decide) (by decide) W hE.tens
 rw [show biS (fun x y : Int => x * y) ⟨#[45, 49, 50]⟩ ⟨#[49, 50]⟩ = ⟨#[45, 49, 52, 52]⟩ from by decide +kernel, show biR (fun x y : Int => x * y) ⟨#[45, 49, 50]⟩ ⟨#[49, 50]⟩ = 0 from by decide +kernel] at h
 exact h
theorem aw3 (W : World) (hE : EN W) : Calls Tryz.prog 33 #[.string ⟨#[45, 49, 50]⟩, .string ⟨#[49, 56]⟩] W fun e w' => e = .returned (.tuple #[.string ⟨#[54]⟩, .int .i64 0]) ∧ Below W.heap.size W w' := by
 have h := gcdN_calls ⟨#[45, 49, 50]⟩ ⟨#[49, 56]⟩ (by decide) (by decide) W hE.tens
 rw [show biS (fun x y : Int => (Int.gcd x y : Int)) ⟨#[45, 49, 50]⟩ ⟨#[49, 56]⟩ = ⟨#[54]⟩ from by decide +kernel, show biR (fun x y : Int => (Int.gcd x y : Int)) ⟨#[45, 49, 50]⟩ ⟨#[49, 56]⟩ = 0 from by decide +kernel] at h
 exact h
theorem aw4 (W : World) (hE : EN W) : Calls Tryz.prog 55 #[.string ⟨#[54]⟩, .string ⟨#[45, 52]⟩] W fun e w' => e = .returned (.tuple #[.string ⟨#[45, 51, 47, 50]⟩, .int .i64 0]) ∧ Below W.heap.size W w' := by
 have h := realR_calls ⟨#[54]⟩ ⟨#[45, 52]⟩ (by decide) (by decide) W hE.tens
 rw [show rlS ⟨#[54]⟩ ⟨#[45, 52]⟩ = ⟨#[45, 51, 47, 50]⟩ from by decide +kernel, show rlR ⟨#[54]⟩ ⟨#[45, 52]⟩ = 0 from by decide +kernel] at h
 exact h
theorem aw5 (W : World) (hE : EN W) : Calls Tryz.prog 35 #[.string ⟨#[49, 47, 50]⟩, .string ⟨#[49, 47, 51]⟩] W fun e w' => e = .returned (.tuple #[.string ⟨#[53, 47, 54]⟩, .int .i64 0]) ∧ Below W.heap.size W w' := by
 have h := addReal_calls ⟨#[49, 47, 50]⟩ ⟨#[49, 47, 51]⟩ (by decide) (by decide) W hE
 rw [show reS ofAdd ⟨#[49, 47, 50]⟩ ⟨#[49, 47, 51]⟩ = ⟨#[53, 47, 54]⟩ from by decide +kernel, show reR ofAdd ⟨#[49, 47, 50]⟩ ⟨#[49, 47, 51]⟩ = 0 from by decide +kernel] at h
 exact h
theorem aw6 (W : World) (hE : EN W) : Calls Tryz.prog 37 #[.string ⟨#[49, 47, 50]⟩, .string ⟨#[49, 47, 50]⟩] W fun e w' => e = .returned (.tuple #[.string ⟨#[48, 47, 49]⟩, .int .i64 0]) ∧ Below W.heap.size W w' := by
 have h := subReal_calls ⟨#[49, 47, 50]⟩ ⟨#[49, 47, 50]⟩ (by decide) (by decide) W hE
 rw [show reS ofSub ⟨#[49, 47, 50]⟩ ⟨#[49, 47, 50]⟩ = ⟨#[48, 47, 49]⟩ from by decide +kernel, show reR ofSub ⟨#[49, 47, 50]⟩ ⟨#[49, 47, 50]⟩ = 0 from by decide +kernel] at h
 exact h
theorem aw7 (W : World) (hE : EN W) : Calls Tryz.prog 39 #[.string ⟨#[50, 47, 51]⟩, .string ⟨#[51, 47, 52]⟩] W fun e w' => e = .returned (.tuple #[.string ⟨#[49, 47, 50]⟩, .int .i64 0]) ∧ Below W.heap.size W w' := by
 have h := mulReal_calls ⟨#[50, 47, 51]⟩ ⟨#[51, 47, 52]⟩ (by decide) (by decide) W hE
 rw [show reS ofMul ⟨#[50, 47, 51]⟩ ⟨#[51, 47, 52]⟩ = ⟨#[49, 47, 50]⟩ from by decide +kernel, show reR ofMul ⟨#[50, 47, 51]⟩ ⟨#[51, 47, 52]⟩ = 0 from by decide +kernel] at h
 exact h
theorem aw8 (W : World) (hE : EN W) : Calls Tryz.prog 41 #[.string ⟨#[49, 47, 50]⟩, .string ⟨#[45, 51, 47, 52]⟩] W fun e w' => e = .returned (.tuple #[.string ⟨#[45, 50, 47, 51]⟩, .int .i64 0]) ∧ Below W.heap.size W w' := by
 have h := divReal_calls ⟨#[49, 47, 50]⟩ ⟨#[45, 51, 47, 52]⟩ (by decide) (by decide) W hE
 rw [show drS ⟨#[49, 47, 50]⟩ ⟨#[45, 51, 47, 52]⟩ = ⟨#[45, 50, 47, 51]⟩ from by decide +kernel, show drR ⟨#[49, 47, 50]⟩ ⟨#[45, 51, 47, 52]⟩ = 0 from by decide +kernel] at h
 exact h
theorem aw_calls (i : Nat) (hi : i < 9) (W : World) (hE : EN W) : Calls Tryz.prog (awF i) #[.string (awA i), .string (awB i)] W fun e w' => e = .returned (.tuple #[.string (awC i), .int .i64 0]) ∧ Below W.heap.size W w' :=
 match i, hi with
 | 0, _ => aw0 W hE
 | 1, _ => aw1 W hE
 | 2, _ => aw2 W hE
 | 3, _ => aw3 W hE
 | 4, _ => aw4 W hE
 | 5, _ => aw5 W hE
 | 6, _ => aw6 W hE
 | 7, _ => aw7 W hE
 | 8, _ => aw8 W hE
theorem aw_enters (i : Nat) (hi : i < 9) : ∀ (args : Array Value) (w : World), (callFunc (awF i) args).run Tryz.prog w = .ok (.enter (awF i) args) w :=
 match i, hi with
 | 0, _ => enters_of Tryz.func21 (by kernel_rfl) rfl
 | 1, _ => enters_of Tryz.func23 (by kernel_rfl) rfl
 | 2, _ => enters_of Tryz.func25 (by kernel_rfl) rfl
 | 3, _ => enters_of Tryz.func33 (by kernel_rfl) rfl
 | 4, _ => enters_of Tryz.func55 (by kernel_rfl) rfl
 | 5, _ => enters_of Tryz.func35 (by kernel_rfl) rfl
 | 6, _ => enters_of Tryz.func37 (by kernel_rfl) rfl
 | 7, _ => enters_of Tryz.func39 (by kernel_rfl) rfl
 | 8, _ => enters_of Tryz.func41 (by kernel_rfl) rfl
theorem dm0 (W : World) (hE : EN W) : Calls Tryz.prog 27 #[.string ⟨#[45, 55]⟩, .string ⟨#[50]⟩] W fun e w' => e = .returned (.tuple #[.string ⟨#[45, 52]⟩, .string ⟨#[49]⟩, .int .i64 0]) ∧ Below W.heap.size W w' := by
 have h := divMod_calls ⟨#[45, 55]⟩ ⟨#[50]⟩ (by decide) (by decide) W hE.tens
 rw [show dmS (fun x y => x / y) ⟨#[45, 55]⟩ ⟨#[50]⟩ = ⟨#[45, 52]⟩ from by decide +kernel, show dmS (fun x y => x % y) ⟨#[45, 55]⟩ ⟨#[50]⟩ = ⟨#[49]⟩ from by decide +kernel, show divE ⟨#[45, 55]⟩ ⟨#[50]⟩ = 0 from by decide +kernel] at h
 exact h
theorem dm1 (W : World) (hE : EN W) : Calls Tryz.prog 27 #[.string ⟨#[45, 55]⟩, .string ⟨#[45, 50]⟩] W fun e w' => e = .returned (.tuple #[.string ⟨#[52]⟩, .string ⟨#[49]⟩, .int .i64 0]) ∧ Below W.heap.size W w' := by
 have h := divMod_calls ⟨#[45, 55]⟩ ⟨#[45, 50]⟩ (by decide) (by decide) W hE.tens
 rw [show dmS (fun x y => x / y) ⟨#[45, 55]⟩ ⟨#[45, 50]⟩ = ⟨#[52]⟩ from by decide +kernel, show dmS (fun x y => x % y) ⟨#[45, 55]⟩ ⟨#[45, 50]⟩ = ⟨#[49]⟩ from by decide +kernel, show divE ⟨#[45, 55]⟩ ⟨#[45, 50]⟩ = 0 from by decide +kernel] at h
 exact h
theorem dm2 (W : World) (hE : EN W) : Calls Tryz.prog 27 #[.string ⟨#[55]⟩, .string ⟨#[45, 50]⟩] W fun e w' => e = .returned (.tuple #[.string ⟨#[45, 51]⟩, .string ⟨#[49]⟩, .int .i64 0]) ∧ Below W.heap.size W w' := by
 have h := divMod_calls ⟨#[55]⟩ ⟨#[45, 50]⟩ (by decide) (by decide) W hE.tens
 rw [show dmS (fun x y => x / y) ⟨#[55]⟩ ⟨#[45, 50]⟩ = ⟨#[45, 51]⟩ from by decide +kernel, show dmS (fun x y => x % y) ⟨#[55]⟩ ⟨#[45, 50]⟩ = ⟨#[49]⟩ from by decide +kernel, show divE ⟨#[55]⟩ ⟨#[45, 50]⟩ = 0 from by decide +kernel] at h
 exact h
theorem dm_calls (i : Nat) (hi : i < 3) (W : World) (hE : EN W) : Calls Tryz.prog 27 #[.string (dmA i), .string (dmB i)] W fun e w' => e = .returned (.tuple #[.string (dmC i), .string (dmD i), .int .i64 0]) ∧ Below W.heap.size W w' :=
 match i, hi with
 | 0, _ => dm0 W hE
 | 1, _ => dm1 W hE
 | 2, _ => dm2 W hE
theorem ax16 (W : World) (hE : EN W) : Calls Tryz.prog 21 #[.string nines, .string ⟨#[49]⟩] W fun e w' => e = .returned (.tuple #[.string ⟨#[]⟩, .int .i64 4]) ∧ Below W.heap.size W w' := by
 have h := addN_calls nines ⟨#[49]⟩ (by rw [nines_size]; omega) (by decide) W hE.tens
 rw [show biS (fun x y : Int => x + y) nines ⟨#[49]⟩ = ⟨#[]⟩ from by decide +kernel, show biR (fun x y : Int => x + y) nines ⟨#[49]⟩ = 4 from by decide +kernel] at h
 exact h
theorem ax17 (W : World) (hE : EN W) : Calls Tryz.prog 27 #[.string ⟨#[55]⟩, .string ⟨#[48]⟩] W fun e w' => e = .returned (.tuple #[.string ⟨#[]⟩, .string ⟨#[]⟩, .int .i64 30]) ∧ Below W.heap.size W w' := by
 have h := divMod_calls ⟨#[55]⟩ ⟨#[48]⟩ (by decide) (by decide) W hE.tens
 rw [show dmS (fun x y => x / y) ⟨#[55]⟩ ⟨#[48]⟩ = ⟨#[]⟩ from by decide +kernel, show dmS (fun x y => x % y) ⟨#[55]⟩ ⟨#[48]⟩ = ⟨#[]⟩ from by decide +kernel, show divE ⟨#[55]⟩ ⟨#[48]⟩ = 30 from by decide +kernel] at h
 exact h
theorem ax18 (W : World) (hE : EN W) : Calls Tryz.prog 31 #[.string ⟨#[45, 50]⟩, .int .i64 5] W fun e w' => e = .returned (.tuple #[.string ⟨#[45, 51, 50]⟩, .int .i64 0]) ∧ Below W.heap.size W w' := by
 have h := pow_calls ⟨#[45, 50]⟩ (by decide) 5 W hE.tens
 rw [show powS ⟨#[45, 50]⟩ 5 = ⟨#[45, 51, 50]⟩ from by decide +kernel, show powR ⟨#[45, 50]⟩ 5 = 0 from by decide +kernel] at h
 exact h
theorem ax19 (W : World) (hE : EN W) : Calls Tryz.prog 53 #[.string ⟨#[45, 51, 47, 50]⟩] W fun e w' => e = .returned (.tuple #[.string ⟨#[45, 50]⟩, .int .i64 0]) ∧ Below W.heap.size W w' := by
 have h := floor_calls ⟨#[45, 51, 47, 50]⟩ (by decide) W hE
 rw [show flS ⟨#[45, 51, 47, 50]⟩ = ⟨#[45, 50]⟩ from by decide +kernel, show flR ⟨#[45, 51, 47, 50]⟩ = 0 from by decide +kernel] at h
 exact h
theorem ax20 (W : World) (hE : EN W) : Calls Tryz.prog 59 #[.string ⟨#[49, 50, 46, 53, 48]⟩] W fun e w' => e = .returned (.tuple #[.string ⟨#[50, 53, 47, 50]⟩, .int .i64 0]) ∧ Below W.heap.size W w' := by
 have h := fromDecimal_calls ⟨#[49, 50, 46, 53, 48]⟩ (by decide) W hE
 rw [show fdS ⟨#[49, 50, 46, 53, 48]⟩ = ⟨#[50, 53, 47, 50]⟩ from by decide +kernel, show fdR ⟨#[49, 50, 46, 53, 48]⟩ = 0 from by decide +kernel] at h
 exact h
theorem ax21 (W : World) (hE : EN W) : Calls Tryz.prog 45 #[.string ⟨#[45, 49]⟩, .int .i64 8] W fun e w' => e = .returned (.tuple #[.string ⟨#[50, 53, 53]⟩, .int .i64 0]) ∧ Below W.heap.size W w' := by
 have h := wrap_calls ⟨#[45, 49]⟩ (by decide) 8 W hE.tens
 rw [show wpS ⟨#[45, 49]⟩ 8 = ⟨#[50, 53, 53]⟩ from by decide +kernel, show wpE ⟨#[45, 49]⟩ 8 = 0 from by decide +kernel] at h
 exact h
theorem ax22 (W : World) (hE : EN W) : Calls Tryz.prog 47 #[.int .i64 0, .int .i64 8, .string ⟨#[50, 48, 48]⟩, .string ⟨#[49, 48, 48]⟩] W fun e w' => e = .returned (.tuple #[.string ⟨#[52, 52]⟩, .int .i64 0]) ∧ Below W.heap.size W w' := by
 have h := bits_calls 0 8 ⟨#[50, 48, 48]⟩ ⟨#[49, 48, 48]⟩ (by decide) (by decide) W hE
 rw [show btS 0 8 ⟨#[50, 48, 48]⟩ ⟨#[49, 48, 48]⟩ = ⟨#[52, 52]⟩ from by decide +kernel, show btR 0 8 ⟨#[50, 48, 48]⟩ ⟨#[49, 48, 48]⟩ = 0 from by decide +kernel] at h
 exact h
theorem ax23 (W : World) (hE : EN W) : Calls Tryz.prog 47 #[.int .i64 8, .int .i64 8, .string ⟨#[49]⟩, .string ⟨#[56]⟩] W fun e w' => e = .returned (.tuple #[.string ⟨#[48]⟩, .int .i64 0]) ∧ Below W.heap.size W w' := by
 have h := bits_calls 8 8 ⟨#[49]⟩ ⟨#[56]⟩ (by decide) (by decide) W hE
 rw [show btS 8 8 ⟨#[49]⟩ ⟨#[56]⟩ = ⟨#[48]⟩ from by decide +kernel, show btR 8 8 ⟨#[49]⟩ ⟨#[56]⟩ = 0 from by decide +kernel] at h
 exact h
theorem ax24 (W : World) (hE : EN W) : Calls Tryz.prog 47 #[.int .i64 7, .int .i64 8, .string ⟨#[49, 50]⟩, .string ⟨#[49, 48]⟩] W fun e w' => e = .returned (.tuple #[.string ⟨#[54]⟩, .int .i64 0]) ∧ Below W.heap.size W w' := by
 have h := bits_calls 7 8 ⟨#[49, 50]⟩ ⟨#[49, 48]⟩ (by decide) (by decide) W hE
 rw [show btS 7 8 ⟨#[49, 50]⟩ ⟨#[49, 48]⟩ = ⟨#[54]⟩ from by decide +kernel, show btR 7 8 ⟨#[49, 50]⟩ ⟨#[49, 48]⟩ = 0 from by decide +kernel] at h
 exact h
theorem ax25 (W : World) (hE : EN W) : Calls Tryz.prog 29 #[.string ⟨#[45, 53]⟩, .string ⟨#[51]⟩] W fun e w' => e = .returned (.tuple #[.int .i64 (-1), .int .i64 0]) ∧ Below W.heap.size W w' := by
 have h := compareN_calls ⟨#[45, 53]⟩ ⟨#[51]⟩ (by decide) (by decide) W
 rw [show cmpN ⟨#[45, 53]⟩ ⟨#[51]⟩ = -1 from by decide +kernel, show biE ⟨#[45, 53]⟩ ⟨#[51]⟩ = 0 from by decide +kernel] at h
 exact h
theorem ax26 (W : World) (hE : EN W) : Calls Tryz.prog 43 #[.string ⟨#[49, 47, 51]⟩, .string ⟨#[49, 47, 52]⟩] W fun e w' => e = .returned (.tuple #[.int .i64 1, .int .i64 0]) ∧ Below W.heap.size W w' := by
 have h := compareReal_calls ⟨#[49, 47, 51]⟩ ⟨#[49, 47, 52]⟩ (by decide) (by decide) W hE
 rw [show cmpR ⟨#[49, 47, 51]⟩ ⟨#[49, 47, 52]⟩ = 1 from by decide +kernel, show reE ⟨#[49, 47, 51]⟩ ⟨#[49, 47, 52]⟩ = 0 from by decide +kernel] at h
 exact h
theorem ax27 (W : World) (hE : EN W) : Calls Tryz.prog 16 #[.string ⟨#[45, 52, 50]⟩] W fun e w' => e = .returned (.tuple #[.int .i64 (-42), .int .i64 0]) ∧ Below W.heap.size W w' := by
 have h := toInt_calls ⟨#[45, 52, 50]⟩ (by decide) W hE
 rw [show toIV ⟨#[45, 52, 50]⟩ = -42 from by decide +kernel, show toIE ⟨#[45, 52, 50]⟩ = 0 from by decide +kernel] at h
 exact h
theorem ax28 (W : World) (hE : EN W) : Calls Tryz.prog 18 #[.string ⟨#[48]⟩] W fun e w' => e = .returned (.tuple #[.string ⟨#[48]⟩, .int .i64 0]) ∧ Below W.heap.size W w' := by
 have h := negN_calls ⟨#[48]⟩ (by decide) W hE.tens
 rw [show negS ⟨#[48]⟩ = ⟨#[48]⟩ from by decide +kernel, show checkI ⟨#[48]⟩ = 0 from by decide +kernel] at h
 exact h
theorem ax30 (W : World) (hE : EN W) : Calls Tryz.prog 12 #[.string ⟨#[48, 48, 55]⟩] W fun e w' => e = .returned (.int .i64 1) ∧ Below W.heap.size W w' := by
 have h := check_calls ⟨#[48, 48, 55]⟩ (by decide) W
 rw [show checkI ⟨#[48, 48, 55]⟩ = 1 from by decide +kernel] at h
 exact h
theorem ax31 (W : World) (hE : EN W) : Calls Tryz.prog 12 #[.string ⟨#[45, 48]⟩] W fun e w' => e = .returned (.int .i64 1) ∧ Below W.heap.size W w' := by
 have h := check_calls ⟨#[45, 48]⟩ (by decide) W
 rw [show checkI ⟨#[45, 48]⟩ = 1 from by decide +kernel] at h
 exact h
theorem ax32 (W : World) (hE : EN W) : Calls Tryz.prog 12 #[.string (nines ++ ⟨#[57]⟩)] W fun e w' => e = .returned (.int .i64 4) ∧ Below W.heap.size W w' := by
 have h := check_calls (nines ++ ⟨#[57]⟩) (by rw [ByteArray.size_append, nines_size]; decide) W
 rw [show checkI (nines ++ ⟨#[57]⟩) = 4 from by decide +kernel] at h
 exact h
theorem ax33 (W : World) (hE : EN W) : Calls Tryz.prog 51 #[.string ⟨#[50, 47, 52]⟩] W fun e w' => e = .returned (.int .i64 1) ∧ Below W.heap.size W w' := by
 have h := checkR_calls ⟨#[50, 47, 52]⟩ (by decide) W hE
 rw [show checkR ⟨#[50, 47, 52]⟩ = 1 from by decide +kernel] at h
 exact h
theorem ax34 (W : World) (hE : EN W) : Calls Tryz.prog 14 #[.int .i64 (-9)] W fun e w' => e = .returned (.string ⟨#[45, 57]⟩) ∧ Below W.heap.size W w' := by
 have h := fromInt_calls (-9) (by omega) (by omega) W hE.tens
 rw [show (⟨(Lib.itoa (-9)).toArray⟩ : ByteArray) = ⟨#[45, 57]⟩ from by decide +kernel] at h
 exact h
/-- A table in memory. -/
def TB (W : World) (b : Nat) (tab : Array Value) : Prop := ∃ T, W.heap[b]? = some (.cells tab T (0, 0))
theorem TB.cell {W : World} {b : Nat} {tab : Array Value} (h : TB W b tab) {o : Nat} {v : Value} (ho : tab[o]? = some v) : W.cell? ⟨b, o, none⟩ = some v := by
 obtain ⟨T, h⟩ := h
 rw [Lib.cell_of_heap h]
 exact ho
theorem TB.lt {W : World} {b : Nat} {tab : Array Value} (h : TB W b tab) : b < W.heap.size := by
 obtain ⟨T, h⟩ := h
 exact (Array.getElem?_eq_some_iff.1 h).1
theorem TB.below {W X : World} {b : Nat} {tab : Array Value} (h : TB W b tab) (hb : Below W.heap.size W X) : TB X b tab := by
 have hl := h.lt
 obtain ⟨T, h⟩ := h
 exact ⟨T, (hb.block b hl).trans h⟩
def awTab : Array Value := #[.func (.func 21) #[] #[], .string ⟨#[57, 57]⟩, .string ⟨#[49]⟩, .string ⟨#[49, 48, 48]⟩, .func (.func 23) #[] #[], .string ⟨#[53]⟩, .string ⟨#[49, 50]⟩, .string ⟨#[45, 55]⟩, .func (.func 25) #[] #[], .string ⟨#[45, 49, 50]⟩, .string ⟨#[49, 50]⟩, .string ⟨#[45, 49, 52, 52]⟩, .func (.func 33) #[] #[], .string ⟨#[45, 49, 50]⟩, .string ⟨#[49, 56]⟩, .string ⟨#[54]⟩, .func (.func 55) #[] #[], .string ⟨#[54]⟩, .string ⟨#[45, 52]⟩, .string ⟨#[45, 51, 47, 50]⟩, .func (.func 35) #[] #[], .string ⟨#[49, 47, 50]⟩, .string ⟨#[49, 47, 51]⟩, .string ⟨#[53, 47, 54]⟩, .func (.func 37) #[] #[], .string ⟨#[49, 47, 50]⟩, .string ⟨#[49, 47, 50]⟩, .string ⟨#[48, 47, 49]⟩, .func (.func 39) #[] #[], .string ⟨#[50, 47, 51]⟩, .string ⟨#[51, 47, 52]⟩, .string ⟨#[49, 47, 50]⟩, .func (.func 41) #[] #[], .string ⟨#[49, 47, 50]⟩, .string ⟨#[45, 51, 47, 52]⟩, .string ⟨#[45, 50, 47, 51]⟩]
def dmTab : Array Value := #[.string ⟨#[45, 55]⟩, .string ⟨#[50]⟩, .string ⟨#[45, 52]⟩, .string ⟨#[49]⟩, .string ⟨#[45, 55]⟩, .string ⟨#[45, 50]⟩, .string ⟨#[52]⟩, .string ⟨#[49]⟩, .string ⟨#[55]⟩, .string ⟨#[45, 50]⟩, .string ⟨#[45, 51]⟩, .string ⟨#[49]⟩]
theorem awTab_get (i : Nat) (hi : i < 9) : awTab[i * 4]? = some (.func (.func (awF i)) #[] #[]) ∧ awTab[i * 4 + 1]? = some (.string (awA i)) ∧ awTab[i * 4 + 2]? = some (.string (awB i)) ∧ awTab[i * 4 + 3]? = some (.string (awC i)) :=
 match i, hi with
 | 0, _ => ⟨rfl, rfl, rfl, rfl⟩
 | 1, _ => ⟨rfl, rfl, rfl, rfl⟩
 | 2, _ => ⟨rfl, rfl, rfl, rfl⟩
 | 3, _ => ⟨rfl, rfl, rfl, rfl⟩
 | 4, _ => ⟨rfl, rfl, rfl, rfl⟩
 | 5, _ => ⟨rfl, rfl, rfl, rfl⟩
 | 6, _ => ⟨rfl, rfl, rfl, rfl⟩
 | 7, _ => ⟨rfl, rfl, rfl, rfl⟩
 | 8, _ => ⟨rfl, rfl, rfl, rfl⟩
theorem dmTab_get (i : Nat) (hi : i < 3) : dmTab[i * 4]? = some (.string (dmA i)) ∧ dmTab[i * 4 + 1]? = some (.string (dmB i)) ∧ dmTab[i * 4 + 2]? = some (.string (dmC i)) ∧ dmTab[i * 4 + 3]? = some (.string (dmD i)) :=
 match i, hi with
 | 0, _ => ⟨rfl, rfl, rfl, rfl⟩
 | 1, _ => ⟨rfl, rfl, rfl, rfl⟩
 | 2, _ => ⟨rfl, rfl, rfl, rfl⟩
theorem awake_calls (w : World) (hE : EN w) : Calls Tryz.prog 10 #[] w fun e w' => e = .returned (.bool true) ∧ Below w.heap.size w w' := by
 have HE := Aside0.mk hE
 have hns : nines.size = 120 := nines_size
 clear hE
 go_enter Tryz.func10, Tryz.ntmps10
 go_wp2_with fail
 obtain ⟨b, hb⟩ : ∃ b, w.heap.size = b := ⟨_, rfl⟩
 have I0 : Aside0 (TB (w.alloc (.cells #[.func (.func 21) #[] #[], .string ⟨#[57, 57]⟩, .string ⟨#[49]⟩, .string ⟨#[49, 48, 48]⟩, .func (.func 23) #[] #[], .string ⟨#[53]⟩, .string ⟨#[49, 50]⟩, .string ⟨#[45, 55]⟩, .func (.func 25) #[] #[], .string ⟨#[45, 49, 50]⟩, .string ⟨#[49, 50]⟩, .string ⟨#[45, 49, 52, 52]⟩, .func (.func 33) #[] #[], .string ⟨#[45, 49, 50]⟩, .string ⟨#[49, 56]⟩, .string ⟨#[54]⟩, .func (.func 55) #[] #[], .string ⟨#[54]⟩, .string ⟨#[45, 52]⟩, .string ⟨#[45, 51, 47, 50]⟩, .func (.func 35) #[] #[], .string ⟨#[49, 47, 50]⟩, .string ⟨#[49, 47, 51]⟩, .string ⟨#[53, 47, 54]⟩, .func (.func 37) #[] #[], .string ⟨#[49, 47, 50]⟩, .string ⟨#[49, 47, 50]⟩, .string ⟨#[48, 47, 49]⟩, .func (.func 39) #[] #[], .string ⟨#[50, 47, 51]⟩, .string ⟨#[51, 47, 52]⟩, .string ⟨#[49, 47, 50]⟩, .func (.func 41) #[] #[], .string ⟨#[49, 47, 50]⟩, .string ⟨#[45, 51, 47, 52]⟩, .string ⟨#[45, 50, 47, 51]⟩] 63)) b awTab ∧ Below w.heap.size w (w.alloc (.cells #[.func (.func 21) #[] #[], .string ⟨#[57, 57]⟩, .string ⟨#[49]⟩, .string ⟨#[49, 48, 48]⟩, .func (.func 23) #[] #[], .string ⟨#[53]⟩, .string ⟨#[49, 50]⟩, .string ⟨#[45, 55]⟩, .func (.func 25) #[] #[], .string ⟨#[45, 49, 50]⟩, .string ⟨#[49, 50]⟩, .string ⟨#[45, 49, 52, 52]⟩, .func (.func 33) #[] #[], .string ⟨#[45, 49, 50]⟩, .string ⟨#[49, 56]⟩, .string ⟨#[54]⟩, .func (.func 55) #[] #[], .string ⟨#[54]⟩, .string ⟨#[45, 52]⟩, .string ⟨#[45, 51, 47, 50]⟩, .func (.func 35) #[] #[], .string ⟨#[49, 47, 50]⟩, .string ⟨#[49, 47, 51]⟩, .string ⟨#[53, 47, 54]⟩, .func (.func 37) #[] #[], .string ⟨#[49, 47, 50]⟩, .string ⟨#[49, 47, 50]⟩, .string ⟨#[48, 47, 49]⟩, .func (.func 39) #[] #[], .string ⟨#[50, 47, 51]⟩, .string ⟨#[51, 47, 52]⟩, .string ⟨#[49, 47, 50]⟩, .func (.func 41) #[] #[], .string ⟨#[49, 47, 50]⟩, .string ⟨#[45, 51, 47, 52]⟩, .string ⟨#[45, 50, 47, 51]⟩] 63))) := ⟨⟨_, by rw [← hb]; exact heap_alloc_new w _⟩, below_alloc (Below.refl _ _) _⟩
 rw [hb]
 clear hb
 go_loopw [50] (fun v50 W => ∃ i : Nat, v50 = .int .i64 (i : Int) ∧ i ≤ 9 ∧ Aside0 (TB W b awTab ∧ Below w.heap.size w W)) (fun v50 _ => 9 - (RowKit.intOf v50).toNat)
 case atStart => exact ⟨0, rfl, Nat.zero_le _, I0⟩
 case round =>
  obtain ⟨i, rfl, hi, HI⟩ := hrel
  have e1 : IntKind.i64.wrap ((i : Int) + 1) = ((i + 1 : Nat) : Int) := by rw [IntWalk.i64_in _ (by omega)]; omega
  by_cases hlt : i < 9
  ·have hlt' : (i : Int) < 9 := by omega
   obtain ⟨g0, g1, g2, g3⟩ := awTab_get i hlt
   have c0 := HI.out.1.cell g0
   have c1 := HI.out.1.cell g1
   have c2 := HI.out.1.cell g2
   have c3 := HI.out.1.cell g3
   have hbl := HI.out.1.lt
   have eg := aw_enters i hlt
   have HA := Aside0.mk (fun W hb => aw_calls i hlt W (HE.out.below hb))
   clear g0 g1 g2 g3
   generalize awF i = F at *
   generalize awA i = sa at *
   generalize awB i = sb at *
   generalize awC i = sc at *
   go_wp2_with (first | (go_at_fn F; ((with_reducible refine (HA.out _ (below_alloc HI.out.2 _)).mono ?_); rintro e w2 ⟨rfl, hb2⟩; obtain ⟨hc2, hf2⟩ := bcell hb2; have z2 : wr.heap.size < w2.heap.size := Nat.lt_of_lt_of_le (by simp) hb2.size; have HN := Aside0.mk (And.intro (HI.out.1.below ((below_alloc (Below.refl _ _) _).trans (hb2.mono (by simp)))) ((below_alloc HI.out.2 _).trans (hb2.mono (below_alloc HI.out.2 _).size))))))
   go_roundw
   case rel => exact ⟨i + 1, by first | rfl | go_num, hlt, HN⟩
   case measure => simp [RowKit.intOf]; omega
  ·have hlt' : ¬ (i : Int) < 9 := by omega
   obtain rfl : i = 9 := by omega
   have HB0 := Aside0.mk HI.out.2
   clear HI e1 hlt I0
   go_wp2_with fail
   obtain ⟨b2, hb2⟩ : ∃ b2, wr.heap.size = b2 := ⟨_, rfl⟩
   have I1 : Aside0 (TB (wr.alloc (.cells #[.string ⟨#[45, 55]⟩, .string ⟨#[50]⟩, .string ⟨#[45, 52]⟩, .string ⟨#[49]⟩, .string ⟨#[45, 55]⟩, .string ⟨#[45, 50]⟩, .string ⟨#[52]⟩, .string ⟨#[49]⟩, .string ⟨#[55]⟩, .string ⟨#[45, 50]⟩, .string ⟨#[45, 51]⟩, .string ⟨#[49]⟩] 65)) b2 dmTab ∧ Below w.heap.size w (wr.alloc (.cells #[.string ⟨#[45, 55]⟩, .string ⟨#[50]⟩, .string ⟨#[45, 52]⟩, .string ⟨#[49]⟩, .string ⟨#[45, 55]⟩, .string ⟨#[45, 50]⟩, .string ⟨#[52]⟩, .string ⟨#[49]⟩, .string ⟨#[55]⟩, .string ⟨#[45, 50]⟩, .string ⟨#[45, 51]⟩, .string ⟨#[49]⟩] 65))) := ⟨⟨_, by rw [← hb2]; exact heap_alloc_new wr _⟩, below_alloc HB0.out _⟩
   rw [hb2]
   clear hb2 HB0
   go_loopw [78] (fun v78 W => ∃ i : Nat, v78 = .int .i64 (i : Int) ∧ i ≤ 3 ∧ Aside0 (TB W b2 dmTab ∧ Below w.heap.size w W)) (fun v78 _ => 3 - (RowKit.intOf v78).toNat)
   case atStart => exact ⟨0, rfl, Nat.zero_le _, I1⟩
   case round =>
    obtain ⟨i, rfl, hi, HI⟩ := hrel
    have e1 : IntKind.i64.wrap ((i : Int) + 1) = ((i + 1 : Nat) : Int) := by rw [IntWalk.i64_in _ (by omega)]; omega
    by_cases hlt : i < 3
    ·have hlt' : (i : Int) < 3 := by omega
     obtain ⟨g0, g1, g2, g3⟩ := dmTab_get i hlt
     have c0 := HI.out.1.cell g0
     have c1 := HI.out.1.cell g1
     have c2 := HI.out.1.cell g2
     have c3 := HI.out.1.cell g3
     have hbl := HI.out.1.lt
     have HA := Aside0.mk (fun W hb => dm_calls i hlt W (HE.out.below hb))
     clear g0 g1 g2 g3
     generalize dmA i = sa at *
     generalize dmB i = sb at *
     generalize dmC i = sc at *
     generalize dmD i = sd at *
     go_wp2_with (first | (go_at_call 27; ((with_reducible refine (HA.out _ (below_alloc HI.out.2 _)).mono ?_); rintro e w2 ⟨rfl, hb2⟩; obtain ⟨hc2, hf2⟩ := bcell hb2; have z2 : wr.heap.size < w2.heap.size := Nat.lt_of_lt_of_le (by simp) hb2.size; have HN := Aside0.mk (And.intro (HI.out.1.below ((below_alloc (Below.refl _ _) _).trans (hb2.mono (by simp)))) ((below_alloc HI.out.2 _).trans (hb2.mono (below_alloc HI.out.2 _).size))))))
     go_roundw
     case rel => exact ⟨i + 1, by first | rfl | go_num, hlt, HN⟩
     case measure => simp [RowKit.intOf]; omega
    ·have hlt' : ¬ (i : Int) < 3 := by omega
     obtain rfl : i = 3 := by omega
     have HC := Aside0.mk HI.out.2
     clear HI e1 hlt I1
     go_wp2_with (first | (go_at_call 62; (with_reducible refine (nines_calls _).mono ?_); rintro e wx ⟨rfl, hbx⟩; have HC2 := Aside0.mk (HC.out.trans (hbx.mono HC.out.size)); clear HC; have HC := HC2; clear HC2 hbx) | (go_at_call 21; (with_reducible refine (ax16 _ (HE.out.below HC.out)).mono ?_); rintro e wx ⟨rfl, hbx⟩; have HC2 := Aside0.mk (HC.out.trans (hbx.mono HC.out.size)); clear HC; have HC := HC2; clear HC2 hbx) | (go_at_call 27; (with_reducible refine (ax17 _ (HE.out.below HC.out)).mono ?_); rintro e wx ⟨rfl, hbx⟩; have HC2 := Aside0.mk (HC.out.trans (hbx.mono HC.out.size)); clear HC; have HC := HC2; clear HC2 hbx) | (go_at_call 31; (with_reducible refine (ax18 _ (HE.out.below HC.out)).mono ?_); rintro e wx ⟨rfl, hbx⟩; have HC2 := Aside0.mk (HC.out.trans (hbx.mono HC.out.size)); clear HC; have HC := HC2; clear HC2 hbx) | (go_at_call 53; (with_reducible refine (ax19 _ (HE.out.below HC.out)).mono ?_); rintro e wx ⟨rfl, hbx⟩; have HC2 := Aside0.mk (HC.out.trans (hbx.mono HC.out.size)); clear HC; have HC := HC2; clear HC2 hbx) | (go_at_call 59; (with_reducible refine (ax20 _ (HE.out.below HC.out)).mono ?_); rintro e wx ⟨rfl, hbx⟩; have HC2 := Aside0.mk (HC.out.trans (hbx.mono HC.out.size)); clear HC; have HC := HC2; clear HC2 hbx) | (go_at_call 45; (with_reducible refine (ax21 _ (HE.out.below HC.out)).mono ?_); rintro e wx ⟨rfl, hbx⟩; have HC2 := Aside0.mk (HC.out.trans (hbx.mono HC.out.size)); clear HC; have HC := HC2; clear HC2 hbx) | (go_at_call 47; (with_reducible refine (ax22 _ (HE.out.below HC.out)).mono ?_); rintro e wx ⟨rfl, hbx⟩; have HC2 := Aside0.mk (HC.out.trans (hbx.mono HC.out.size)); clear HC; have HC := HC2; clear HC2 hbx) | (go_at_call 47; (with_reducible refine (ax23 _ (HE.out.below HC.out)).mono ?_); rintro e wx ⟨rfl, hbx⟩; have HC2 := Aside0.mk (HC.out.trans (hbx.mono HC.out.size)); clear HC; have HC := HC2; clear HC2 hbx) | (go_at_call 47; (with_reducible refine (ax24 _ (HE.out.below HC.out)).mono ?_); rintro e wx ⟨rfl, hbx⟩; have HC2 := Aside0.mk (HC.out.trans (hbx.mono HC.out.size)); clear HC; have HC := HC2; clear HC2 hbx) | (go_at_call 29; (with_reducible refine (ax25 _ (HE.out.below HC.out)).mono ?_); rintro e wx ⟨rfl, hbx⟩; have HC2 := Aside0.mk (HC.out.trans (hbx.mono HC.out.size)); clear HC; have HC := HC2; clear HC2 hbx) | (go_at_call 43; (with_reducible refine (ax26 _ (HE.out.below HC.out)).mono ?_); rintro e wx ⟨rfl, hbx⟩; have HC2 := Aside0.mk (HC.out.trans (hbx.mono HC.out.size)); clear HC; have HC := HC2; clear HC2 hbx) | (go_at_call 16; (with_reducible refine (ax27 _ (HE.out.below HC.out)).mono ?_); rintro e wx ⟨rfl, hbx⟩; have HC2 := Aside0.mk (HC.out.trans (hbx.mono HC.out.size)); clear HC; have HC := HC2; clear HC2 hbx) | (go_at_call 18; (with_reducible refine (ax28 _ (HE.out.below HC.out)).mono ?_); rintro e wx ⟨rfl, hbx⟩; have HC2 := Aside0.mk (HC.out.trans (hbx.mono HC.out.size)); clear HC; have HC := HC2; clear HC2 hbx) | (go_at_call 12; (with_reducible refine (ax30 _ (HE.out.below HC.out)).mono ?_); rintro e wx ⟨rfl, hbx⟩; have HC2 := Aside0.mk (HC.out.trans (hbx.mono HC.out.size)); clear HC; have HC := HC2; clear HC2 hbx) | (go_at_call 12; (with_reducible refine (ax31 _ (HE.out.below HC.out)).mono ?_); rintro e wx ⟨rfl, hbx⟩; have HC2 := Aside0.mk (HC.out.trans (hbx.mono HC.out.size)); clear HC; have HC := HC2; clear HC2 hbx) | (go_at_call 12; (with_reducible refine (ax32 _ (HE.out.below HC.out)).mono ?_); rintro e wx ⟨rfl, hbx⟩; have HC2 := Aside0.mk (HC.out.trans (hbx.mono HC.out.size)); clear HC; have HC := HC2; clear HC2 hbx) | (go_at_call 51; (with_reducible refine (ax33 _ (HE.out.below HC.out)).mono ?_); rintro e wx ⟨rfl, hbx⟩; have HC2 := Aside0.mk (HC.out.trans (hbx.mono HC.out.size)); clear HC; have HC := HC2; clear HC2 hbx) | (go_at_call 14; (with_reducible refine (ax34 _ (HE.out.below HC.out)).mono ?_); rintro e wx ⟨rfl, hbx⟩; have HC2 := Aside0.mk (HC.out.trans (hbx.mono HC.out.size)); clear HC; have HC := HC2; clear HC2 hbx))
     go_ret
     exact ⟨rfl, HC.out⟩
end
section
open Go.Proofs.YtillgofjlpjbcaaGreatDoorW.PrintLast Go.Proofs.YtillgofjlpjbcaaGreatDoorW.PrintMore Go.Proofs.YtillgofjlpjbcaaGreatDoorW.PrintWords Go.RowKit Go.Shelf
theorem both_calls (s : ByteArray) (k : Int) (w : World) :
 Calls Tryz.prog 20 #[.string s, .int .i64 k, .string s, .int .i64 k] w fun e w' => e = .returned (.bool true) ∧ w' = w := by
 go_enter Tryz.func20, Tryz.ntmps20
 go_wp2_with fail
 go_ret
 exact ⟨rfl, rfl⟩
theorem long_calls {w : World} {g n : Nat} (ss : List ByteArray) (hn : ss.length = n) (hl : n ≤ 1000) (hc : ∀ j, j < n → w.cell? ⟨g, j, none⟩ = some (.string (ss.getD j ⟨#[]⟩))) :
 Calls Tryz.prog 11 #[.slice (some ⟨g, 0, none⟩) n n] w fun e w' => e = .returned (.bool (ss.any fun s => decide (300 < s.size))) ∧ w' = w := by
 have HC := Aside0.mk hc
 clear hc
 go_enter Tryz.func11, Tryz.ntmps11
 go_wp2_with fail
 go_loopw [7] (fun v7 W => ∃ i : Nat, v7 = .int .i64 (i : Int) ∧ i ≤ n ∧ W = w ∧ Aside0 ((ss.take i).any (fun s => decide (300 < s.size)) = false)) (fun v7 _ => n - (intOf v7).toNat)
 case atStart => exact ⟨0, rfl, Nat.zero_le _, rfl, ⟨by simp⟩⟩
 case round =>
  obtain ⟨i, rfl, hi, rfl, hz⟩ := hrel
  by_cases hlt : i < n
  ·have hci := HC.out i hlt
   have hli : i < ss.length := by omega
   obtain ⟨d, hd⟩ : ∃ d, ss.getD i ⟨#[]⟩ = d := ⟨_, rfl⟩
   rw [hd] at hci
   have hdi : ss[i] = d := by rw [← hd]; simp [List.getD_eq_getElem?_getD, hli]
   have hlt' : (i : Int) < (n : Int) := by omega
   have e1 : IntKind.i64.wrap ((i : Int) + 1) = ((i + 1 : Nat) : Int) := by rw [IntWalk.i64_in _ (by omega)]; omega
   have HD := Aside0.mk hdi
   clear hd hdi
   by_cases h0 : 300 < d.size
   ·have hb : decide ((300 : Int) < (d.size : Int)) = true := decide_eq_true (by omega)
    have HT : Aside0 (ss.any (fun s => decide (300 < s.size)) = true) := ⟨List.any_eq_true.2 ⟨ss[i], List.getElem_mem _, by rw [HD.out]; exact decide_eq_true h0⟩⟩
    go_wp2
    go_ret
    exact ⟨ret_b HT.out.symm, rfl⟩
   ·have hb : decide ((300 : Int) < (d.size : Int)) = false := decide_eq_false (by omega)
    have HT : Aside0 ((ss.take (i + 1)).any (fun s => decide (300 < s.size)) = false) := ⟨by
     rw [List.take_succ_eq_append_getElem hli, List.any_append, hz.out, HD.out]
     simp; omega⟩
    go_wp2
    go_roundw
    case rel => exact ⟨i + 1, by first | rfl | go_num, hlt, by first | rfl | trivial, HT⟩
    case measure => simp [intOf]; omega
  ·obtain rfl : i = n := by omega
   have HT : Aside0 (ss.any (fun s => decide (300 < s.size)) = false) := ⟨by
    have h := hz.out
    rwa [List.take_of_length_le (by omega)] at h⟩
   go_wp2
   go_ret
   exact ⟨ret_b HT.out.symm, rfl⟩
theorem long2_calls (a b : ByteArray) (z : Bool) (hz : (decide (300 < a.size) || decide (300 < b.size)) = z) (w : World) (g : Nat) (hg : g = w.heap.size) (t : TypeId) : Calls Tryz.prog 11 #[.slice (some ⟨g, 0, none⟩) 2 2] (w.alloc (.cells #[.string a, .string b] t)) fun e w' => e = .returned (.bool z) ∧ w' = w.alloc (.cells #[.string a, .string b] t) := by
 subst hz hg
 have h := long_calls (w := w.alloc (.cells #[.string a, .string b] t)) (g := w.heap.size) [a, b] rfl (by simp) (fun j hj => by
  match j, hj with
  | 0, _ => simp
  | 1, _ => simp)
 simpa using h
end
section
open Go.Lib Go.Proofs.YtillgofjlpjbcaaGreatDoorW.PrintLast Go.Proofs.YtillgofjlpjbcaaGreatDoorW.PrintMore Go.Proofs.YtillgofjlpjbcaaGreatDoorW.PrintWords Go.RowKit Go.Shelf
theorem al_strs {w X : World} (h : Aside0 (Below w.heap.size w X)) (a b : ByteArray) : Below X.heap.size X (X.alloc (.cells #[.string a, .string b] 9)) := below_alloc (Below.refl _ _) _
/-- The four cells of the case. -/
abbrev C4 (W : World) (g : Nat) (op n : Int) (a b : ByteArray) : Prop := W.cell? ⟨g, 0, none⟩ = some (.int .i64 op) ∧ W.cell? ⟨g, 1, none⟩ = some (.int .i64 n) ∧ W.cell? ⟨g, 2, none⟩ = some (.string a) ∧ W.cell? ⟨g, 3, none⟩ = some (.string b)
theorem c4_below {W X : World} {g : Nat} {op n : Int} {a b : ByteArray} (h : C4 W g op n a b) (hb : Below W.heap.size W X) : C4 X g op n a b := ⟨keepB2 hb h.1, keepB2 hb h.2.1, keepB2 hb h.2.2.1, keepB2 hb h.2.2.2⟩
theorem c4_new (w : World) (op n : Int) (a b : ByteArray) : ∃ Y, w.alloc (.cells #[.int .i64 op, .int .i64 n, .string a, .string b] 50) = Y ∧ Aside0 (C4 Y w.heap.size op n a b) ∧ Below w.heap.size w Y := by
 have h : (w.alloc (.cells #[.int .i64 op, .int .i64 n, .string a, .string b] 50)).heap[w.heap.size]? = some (.cells #[.int .i64 op, .int .i64 n, .string a, .string b] 50 (0, 0)) := heap_alloc_new w _
 exact ⟨_, rfl, ⟨by rw [Lib.cell_of_heap h]; rfl, by rw [Lib.cell_of_heap h]; rfl, by rw [Lib.cell_of_heap h]; rfl, by rw [Lib.cell_of_heap h]; rfl⟩, below_alloc (Below.refl _ _) _⟩
theorem bits_law (op n : Int) (a b : ByteArray) (w : World) (hE : EN w) :
 Calls Tryz.prog 5 #[.agg #[.int .i64 op, .int .i64 n, .string a, .string b]] w fun e w' => e = .returned (.bool true) ∧ Below w.heap.size w w' := by
 have HA : Aside0 (∀ W, Below w.heap.size w W → Calls Tryz.prog 10 #[] W fun e w' => e = .returned (.bool true) ∧ Below W.heap.size W w') := ⟨fun W hb => awake_calls W (hE.below hb)⟩
 by_cases hl : (decide (300 < a.size) || decide (300 < b.size)) = true
 ·have HL : Aside0 (∀ (W : World) (g : Nat) (hg : g = W.heap.size) (t : TypeId), Calls Tryz.prog 11 #[.slice (some ⟨g, 0, none⟩) 2 2] (W.alloc (.cells #[.string a, .string b] t)) fun e w' => e = .returned (.bool true) ∧ w' = W.alloc (.cells #[.string a, .string b] t)) := ⟨fun W g hg t => long2_calls a b true hl W g hg t⟩
  clear hE hl
  go_enter Tryz.func5, Tryz.ntmps5
  go_upto_region 1 with fail
  obtain ⟨Y, hY, HX, hbx⟩ := c4_new w op n a b
  rw [hY]
  clear hY
  have HC := Aside0.mk hbx
  clear hbx
  have x0 := HX.out.1; have x1 := HX.out.2.1; have x2 := HX.out.2.2.1; have x3 := HX.out.2.2.2
  go_wp2_with (first | (go_at_call 10; (with_reducible refine (HA.out _ HC.out).mono ?_); rintro e wx ⟨rfl, hbx⟩; have HX2 := Aside0.mk (c4_below HX.out hbx); clear x0 x1 x2 x3 HX; have HX := HX2; have x0 := HX.out.1; have x1 := HX.out.2.1; have x2 := HX.out.2.2.1; have x3 := HX.out.2.2.2; have HC2 := Aside0.mk (HC.out.trans (hbx.mono HC.out.size)); clear HC; have HC := HC2; clear HC2 HX2 hbx) | (go_at_call 11; (with_reducible refine (HL.out _ _ rfl _).mono ?_); rintro e wx ⟨rfl, hwx⟩; rw [hwx]; clear hwx wx; have hbx := al_strs HC a b; have HX2 := Aside0.mk (c4_below HX.out hbx); clear x0 x1 x2 x3 HX; have HX := HX2; have x0 := HX.out.1; have x1 := HX.out.2.1; have x2 := HX.out.2.2.1; have x3 := HX.out.2.2.2; have HC2 := Aside0.mk (HC.out.trans (hbx.mono HC.out.size)); clear HC; have HC := HC2; clear HC2 HX2 hbx))
  go_ret
  exact ⟨rfl, HC.out⟩
 ·have hl' : (decide (300 < a.size) || decide (300 < b.size)) = false := by simpa using hl
  have HL : Aside0 (∀ (W : World) (g : Nat) (hg : g = W.heap.size) (t : TypeId), Calls Tryz.prog 11 #[.slice (some ⟨g, 0, none⟩) 2 2] (W.alloc (.cells #[.string a, .string b] t)) fun e w' => e = .returned (.bool false) ∧ w' = W.alloc (.cells #[.string a, .string b] t)) := ⟨fun W g hg t => long2_calls a b false hl' W g hg t⟩
  have hs : a.size ≤ 300 ∧ b.size ≤ 300 := by simp at hl'; omega
  have ha9 : a.size ≤ 90000 := by omega
  have hb9 : b.size ≤ 90000 := by omega
  clear hl hl'
  have P0 := Aside0.mk (fun (W : World) (hb : Below w.heap.size w W) => (show Calls Tryz.prog 45 #[.string a, .int .i64 n] W (fun e w' => e = .returned (.tuple #[.string (wpS a n), .int .i64 (wpE a n)]) ∧ Below W.heap.size W w') from wrap_calls a ha9 n W (hE.tens.below hb)))
  have Q0 := Aside0.mk (fun (W : World) (hb : Below w.heap.size w W) => (show Calls Tryz.prog 46 #[.string a, .int .i64 n] W (fun e w' => e = .returned (.tuple #[.string (wpS a n), .int .i64 (wpE a n)]) ∧ Below W.heap.size W w') from rWrap_calls a ha9 n W))
  have P1 := Aside0.mk (fun (W : World) (hb : Below w.heap.size w W) => (show Calls Tryz.prog 47 #[.int .i64 op, .int .i64 n, .string a, .string b] W (fun e w' => e = .returned (.tuple #[.string (btS op n a b), .int .i64 (btR op n a b)]) ∧ Below W.heap.size W w') from bits_calls op n a b ha9 hb9 W (hE.below hb)))
  have Q1 := Aside0.mk (fun (W : World) (hb : Below w.heap.size w W) => (show Calls Tryz.prog 48 #[.int .i64 op, .int .i64 n, .string a, .string b] W (fun e w' => e = .returned (.tuple #[.string (btS op n a b), .int .i64 (btR op n a b)]) ∧ Below W.heap.size W w') from rBits_calls op n a b ha9 hb9 W))
  clear hE hs ha9 hb9
  generalize wpS a n = v0 at *
  generalize wpE a n = v1 at *
  generalize btS op n a b = v2 at *
  generalize btR op n a b = v3 at *
  go_enter Tryz.func5, Tryz.ntmps5
  go_upto_region 1 with fail
  obtain ⟨Y, hY, HX, hbx⟩ := c4_new w op n a b
  rw [hY]
  clear hY
  have HC := Aside0.mk hbx
  clear hbx
  have x0 := HX.out.1; have x1 := HX.out.2.1; have x2 := HX.out.2.2.1; have x3 := HX.out.2.2.2
  go_wp2_with (first | (go_at_call 10; (with_reducible refine (HA.out _ HC.out).mono ?_); rintro e wx ⟨rfl, hbx⟩; have HX2 := Aside0.mk (c4_below HX.out hbx); clear x0 x1 x2 x3 HX; have HX := HX2; have x0 := HX.out.1; have x1 := HX.out.2.1; have x2 := HX.out.2.2.1; have x3 := HX.out.2.2.2; have HC2 := Aside0.mk (HC.out.trans (hbx.mono HC.out.size)); clear HC; have HC := HC2; clear HC2 HX2 hbx) | (go_at_call 11; (with_reducible refine (HL.out _ _ rfl _).mono ?_); rintro e wx ⟨rfl, hwx⟩; rw [hwx]; clear hwx wx; have hbx := al_strs HC a b; have HX2 := Aside0.mk (c4_below HX.out hbx); clear x0 x1 x2 x3 HX; have HX := HX2; have x0 := HX.out.1; have x1 := HX.out.2.1; have x2 := HX.out.2.2.1; have x3 := HX.out.2.2.2; have HC2 := Aside0.mk (HC.out.trans (hbx.mono HC.out.size)); clear HC; have HC := HC2; clear HC2 HX2 hbx) | (go_at_call 20; (with_reducible refine (both_calls _ _ _).mono ?_); rintro e wx ⟨rfl, hwx⟩; rw [hwx]; clear hwx wx) | (go_at_call 45; (with_reducible refine (P0.out _ HC.out).mono ?_); rintro e wx ⟨rfl, hbx⟩; have HX2 := Aside0.mk (c4_below HX.out hbx); clear x0 x1 x2 x3 HX; have HX := HX2; have x0 := HX.out.1; have x1 := HX.out.2.1; have x2 := HX.out.2.2.1; have x3 := HX.out.2.2.2; have HC2 := Aside0.mk (HC.out.trans (hbx.mono HC.out.size)); clear HC; have HC := HC2; clear HC2 HX2 hbx) | (go_at_call 46; (with_reducible refine (Q0.out _ HC.out).mono ?_); rintro e wx ⟨rfl, hbx⟩; have HX2 := Aside0.mk (c4_below HX.out hbx); clear x0 x1 x2 x3 HX; have HX := HX2; have x0 := HX.out.1; have x1 := HX.out.2.1; have x2 := HX.out.2.2.1; have x3 := HX.out.2.2.2; have HC2 := Aside0.mk (HC.out.trans (hbx.mono HC.out.size)); clear HC; have HC := HC2; clear HC2 HX2 hbx) | (go_at_call 47; (with_reducible refine (P1.out _ HC.out).mono ?_); rintro e wx ⟨rfl, hbx⟩; have HX2 := Aside0.mk (c4_below HX.out hbx); clear x0 x1 x2 x3 HX; have HX := HX2; have x0 := HX.out.1; have x1 := HX.out.2.1; have x2 := HX.out.2.2.1; have x3 := HX.out.2.2.2; have HC2 := Aside0.mk (HC.out.trans (hbx.mono HC.out.size)); clear HC; have HC := HC2; clear HC2 HX2 hbx) | (go_at_call 48; (with_reducible refine (Q1.out _ HC.out).mono ?_); rintro e wx ⟨rfl, hbx⟩; have HX2 := Aside0.mk (c4_below HX.out hbx); clear x0 x1 x2 x3 HX; have HX := HX2; have x0 := HX.out.1; have x1 := HX.out.2.1; have x2 := HX.out.2.2.1; have x3 := HX.out.2.2.2; have HC2 := Aside0.mk (HC.out.trans (hbx.mono HC.out.size)); clear HC; have HC := HC2; clear HC2 HX2 hbx))
  go_ret
  exact ⟨rfl, HC.out⟩
end
section
open Go.ChangeAt Go.ChangeShapes Go.Proofs.YtillgofjlpjbcaaGreatDoorW.PrintLast Go.Proofs.YtillgofjlpjbcaaGreatDoorW.PrintMore Go.Proofs.YtillgofjlpjbcaaGreatDoorW.PrintWords Go.RowKit Go.WideShapes
/-- The variables that the rows list. -/
def laidL : List (String × DataW Unit) := [("math/bits.deBruijn32tab", Rows.laid_math_bits_deBruijn32tab), ("math/bits.deBruijn64tab", Rows.laid_math_bits_deBruijn64tab), ("internal/strconv.uint64pow10", Rows.laid_internal_strconv_uint64pow10), ("strconv.ErrRange", Rows.laid_strconv_ErrRange), ("strconv.ErrSyntax", Rows.laid_strconv_ErrSyntax), ("entail/num.bitOps", Rows.laid_entail_num_bitOps)]
theorem mln_of {W : World} (h : W.ShapedOpen Tryz.prog) : ∃ m, W.cell? ⟨4, 0, none⟩ = some (.int .i64 m) := by
 obtain ⟨cs, hh, hs, hr⟩ := h.1 4 #[.int .i64 0] 3 (by decide +kernel) (by kernel_rfl)
 obtain ⟨ts, hts, _, hall⟩ := hr (by kernel_rfl)
 have hts2 : Tryz.prog.cellTypes Tryz.prog.depth 3 = some [3] := by kernel_rfl
 rw [hts2] at hts
 cases hts
 have h1 : 0 < cs.size := by rw [hs]; decide
 obtain ⟨u, hu', hok⟩ := hall 0 cs[0] (Array.getElem?_eq_getElem h1)
 have : u = 3 := (Option.some.inj (show some 3 = some u from hu')).symm
 subst this
 have hcell : W.cell? ⟨4, 0, none⟩ = some cs[0] := by
  unfold World.cell?
  rw [hh]
  exact Array.getElem?_eq_getElem h1
 rw [hcell]
 unfold Cell.ok at hok
 rw [Tryz.underlying3] at hok
 cases hv : cs[0] <;> rw [hv] at hok <;> first | (simp at hok; done) | (rename_i k a; simp at hok; exact ⟨a, by rw [hok.1]⟩) | skip
theorem iface_of_trod {P : Program} {w : World} {fuel : Nat} {t : TypeId} {ms : Array (String × TypeId)} {cs : List Value} {name : String} {d : DataW Unit} {p : List MemPlace} (hu : P.underlying t = some (.interface ms))
 (h : DataW.trod (fun _ => ()) P w 0 (fun _ => true) false fuel t cs = some (.iface name d, p)) : ∃ tp q, cs = [.iface tp q] := by
 cases fuel with
 | zero => simp [DataW.trod] at h
 | succ f =>
   unfold DataW.trod at h
   rw [hu] at h
   cases cs with
   | nil => simp at h
   | cons v r =>
     cases r with
     | cons v' r' => cases v <;> simp at h
     | nil =>
       cases v <;> simp at h
       exact ⟨_, _, rfl⟩
theorem err_of {P : Program} {W : World} {n : String} {ms : Array (String × TypeId)} {g t : Nat} {name : String} {d : DataW Unit} (hn : P.globalNamed n = some g) (ht : (P.globals[g]?).map (·.type) = some t) (hu : P.underlying t = some (.interface ms))
 (h : Lib.VarReads P W n (.iface name d)) : ∃ tp p, W.var? P n = some #[.iface tp p] := by
 obtain ⟨g', t', cs, fuel, p, h1, h2, h3, h4⟩ := h
 obtain rfl := Option.some.inj (hn.symm.trans h1)
 obtain rfl := Option.some.inj (ht.symm.trans h2)
 obtain ⟨tp, q, e⟩ := iface_of_trod hu h4
 exact ⟨tp, q, by rw [h3]; congr 1; exact Array.eq_one_of_toList e⟩
theorem tens_of {P : Program} {W : World} {n : String} {g t e m : Nat} {k : IntKind} {zs : List Int} (hn : P.globalNamed n = some g) (ht : (P.globals[g]?).map (·.type) = some t) (hu : P.underlying t = some (.array m e)) (he : P.underlying e = some (.int k)) (hce : P.cellsOf e = 1) (hct : P.cellsOf t = m)
 (h : Lib.VarReads P W n (Lib.tabData k zs)) : Lib.TabIs P W n k zs := by
 obtain ⟨g', t', cs, fuel, p, h1, h2, h3, h4⟩ := h
 obtain rfl := Option.some.inj (hn.symm.trans h1)
 obtain rfl := Option.some.inj (ht.symm.trans h2)
 have := Lib.cells_of_tab hu he hce hct h4
 unfold Lib.TabIs
 rw [h3, ← this]
/-- The operations' table, cell for cell. -/
theorem ops_of {P : Program} {W : World} {n : String} {g t e tf tb m : Nat} {f0 f1 : Field} {fs : Array Field} {ps rs : Array TypeId} {va : Bool} {ds : List (DataW Unit)} {names : List (UInt8 × List UInt8 × Bool)}
 (hn : P.globalNamed n = some g) (ht : (P.globals[g]?).map (·.type) = some t) (hu : P.underlying t = some (.array m e)) (he : P.underlying e = some (.struct fs)) (hfs : fs.size = 2) (hf0 : fs[0]? = some f0) (hf1 : fs[1]? = some f1)
 (h00 : f0.offset = 0) (h10 : f1.offset = 1) (ht0 : f0.type = tf) (ht1 : f1.type = tb) (hcf : P.cellsOf tf = 1) (hcb : P.cellsOf tb = 1) (hce : P.cellsOf e = 2) (hct : P.cellsOf t = m * 2) (huf : P.underlying tf = some (.func ps rs va)) (hub : P.underlying tb = some .bool)
 (hd : DataW.funcsOut (.agg ds) = .agg (names.map fun x => .agg [.held (x.1 :: x.2.1), .lit (.bool x.2.2)])) (hnl : names.length = m)
 (h : funcsAt P W n (.agg ds)) : ∀ (i : Nat) (x : UInt8 × List UInt8 × Bool), names[i]? = some x → ∀ f, ((List.range P.funcs.size).filter fun f => (P.funcs[f]?).any (·.name.toUTF8.data.toList == x.1 :: x.2.1)) = [f] →
   W.cell? ⟨g, 2 * i, none⟩ = some (.func (.func f) #[] #[]) ∧ W.cell? ⟨g, 2 * i + 1, none⟩ = some (.bool x.2.2) := by
 obtain ⟨g', t', cs, fuel, p, h1, h2, h3, h4⟩ := h
 obtain rfl := Option.some.inj (hn.symm.trans h1)
 obtain rfl := Option.some.inj (ht.symm.trans h2)
 rw [hd] at h4
 intro i x hx f hf
 obtain ⟨xs, k, rfl, hxs, hl, hxl, hall⟩ := DataW.trod_array hu h4
 have hi : i < m := by rw [← hnl]; exact (List.getElem?_eq_some_iff.1 hx).1
 have hxe : xs.map (·.1) = names.map fun x => (.agg [.held (x.1 :: x.2.1), .lit (.bool x.2.2)] : DataW (List UInt8)) := by
  have := congrArg Prod.fst hxs
  simpa using this.symm
 have h5 := hall i hi
 obtain ⟨y, hy⟩ : ∃ y, xs[i]? = some y := ⟨xs[i]'(by omega), List.getElem?_eq_getElem (by omega)⟩
 rw [hy, hce] at h5
 have hy1 : y.1 = .agg [.held (x.1 :: x.2.1), .lit (.bool x.2.2)] := by
  have h6 : (xs.map (·.1))[i]? = some y.1 := by simp [hy]
  rw [hxe] at h6
  simp only [List.getElem?_map, hx, Option.map_some, Option.some.injEq] at h6
  exact h6.symm
 obtain ⟨zs, k2, rfl, hz, hzl, hzs, hzall⟩ := DataW.trod_struct he h5
 have hz1 : zs.map (·.1) = [.held (x.1 :: x.2.1), .lit (.bool x.2.2)] := by
  have := congrArg Prod.fst hz
  rw [hy1] at this
  simpa using this.symm
 have a0 := hzall 0 f0 hf0
 have a1 := hzall 1 f1 hf1
 rw [h00, ht0, hcf] at a0
 rw [h10, ht1, hcb] at a1
 obtain ⟨z0, z1, rfl⟩ : ∃ z0 z1, zs = [z0, z1] := by
  have hzl2 : zs.length = 2 := by have := congrArg List.length hz1; simpa using this
  match zs, hzl2 with
  | [z0, z1], _ => exact ⟨z0, z1, rfl⟩
 ·simp only [List.map_cons, List.map_nil, List.cons.injEq, and_true] at hz1
  simp only [List.getElem?_cons_zero, List.getElem?_cons_succ] at a0 a1
  have hcl : cs.toList.length = m * 2 := by rw [hl, hct]
  have hlt0 : i * 2 < cs.toList.length := by omega
  have hlt1 : i * 2 + 1 < cs.toList.length := by omega
  have b0 : ((cs.toList.drop (i * 2)).take 2).drop 0 = [cs.toList[i * 2], cs.toList[i * 2 + 1]] := by
   rw [List.drop_eq_getElem_cons hlt0, List.drop_eq_getElem_cons hlt1]; rfl
  have b1 : (((cs.toList.drop (i * 2)).take 2).drop 0).take 1 = [cs.toList[i * 2]] := by rw [b0]; rfl
  have b2 : (((cs.toList.drop (i * 2)).take 2).drop 1).take 1 = [cs.toList[i * 2 + 1]] := by
   rw [show ((cs.toList.drop (i * 2)).take 2).drop 1 = (((cs.toList.drop (i * 2)).take 2).drop 0).drop 1 by simp, b0]; rfl
  rw [b1] at a0
  rw [b2] at a1
  have c0 := func_of_trod (v := cs.toList[i * 2]) huf hf (q := z0.2) (by rw [a0]; rw [← hz1.1])
  have c1 : cs.toList[i * 2 + 1] = .bool x.2.2 := by
   cases k2 with
   | zero => simp [DataW.trod] at a1
   | succ k3 =>
     unfold DataW.trod at a1
     rw [hub] at a1
     cases hv : cs.toList[i * 2 + 1] <;> rw [hv] at a1 <;> simp at a1
     have := congrArg Prod.fst a1
     rw [hz1.2] at this
     simp at this
     rw [this]
  have v0 := World.var?_cell h1 h3 (i * 2)
  have v1 := World.var?_cell h1 h3 (i * 2 + 1)
  rw [Nat.mul_comm 2 i]
  rw [v0, v1, ← Array.getElem?_toList, ← Array.getElem?_toList, List.getElem?_eq_getElem hlt0, List.getElem?_eq_getElem hlt1, c0, c1]
  exact ⟨rfl, rfl⟩
def opNames : List (UInt8 × List UInt8 × Bool) := [(101, [110, 116, 97, 105, 108, 47, 110, 117, 109, 46, 98, 105, 116, 79, 112, 115, 36, 49], false), (101, [110, 116, 97, 105, 108, 47, 110, 117, 109, 46, 98, 105, 116, 79, 112, 115, 36, 50], false), (101, [110, 116, 97, 105, 108, 47, 110, 117, 109, 46, 98, 105, 116, 79, 112, 115, 36, 51], false), (101, [110, 116, 97, 105, 108, 47, 110, 117, 109, 46, 98, 105, 116, 79, 112, 115, 36, 52], true), (101, [110, 116, 97, 105, 108, 47, 110, 117, 109, 46, 98, 105, 116, 79, 112, 115, 36, 53], true), (101, [110, 116, 97, 105, 108, 47, 110, 117, 109, 46, 98, 105, 116, 79, 112, 115, 36, 54], false), (101, [110, 116, 97, 105, 108, 47, 110, 117, 109, 46, 98, 105, 116, 79, 112, 115, 36, 55], false), (101, [110, 116, 97, 105, 108, 47, 110, 117, 109, 46, 98, 105, 116, 79, 112, 115, 36, 56], false), (101, [110, 116, 97, 105, 108, 47, 110, 117, 109, 46, 98, 105, 116, 79, 112, 115, 36, 57], false), (101, [110, 116, 97, 105, 108, 47, 110, 117, 109, 46, 98, 105, 116, 79, 112, 115, 36, 49, 48], false)]
def opsD : List (DataW Unit) := match (Rows.laid_entail_num_bitOps : DataW Unit) with
 | .iface _ (.agg l) => l
 | _ => []
theorem opsD_eq : (Rows.laid_entail_num_bitOps : DataW Unit) = .iface "func table" (.agg opsD) := rfl
theorem opsD_out : DataW.funcsOut (.agg opsD) = .agg (opNames.map fun x => .agg [.held (x.1 :: x.2.1), .lit (.bool x.2.2)]) := rfl
theorem opG : Tryz.prog.globalNamed "entail/num.bitOps" = some 0 := by kernel_rfl
theorem opT : (Tryz.prog.globals[0]?).map (·.type) = some 130 := by kernel_rfl
theorem ops_laid {W : World} (h : funcsAt Tryz.prog W "entail/num.bitOps" (.agg opsD)) : ∀ j : Nat, j < 10 → W.cell? ⟨0, 2 * j, none⟩ = some (.func (.func (221 + j)) #[] #[]) ∧ W.cell? ⟨0, 2 * j + 1, none⟩ = some (.bool (decide (j = 3 ∨ j = 4))) := by
 have H := ops_of (P := Tryz.prog) (W := W) (m := 10) (tf := 128) (tb := 4) opG opT Tryz.underlying130 Tryz.underlying129 rfl rfl rfl rfl rfl rfl rfl (by kernel_rfl) (by kernel_rfl) (by kernel_rfl) (by kernel_rfl) Tryz.underlying128 Tryz.underlying4 opsD_out rfl h
 intro j hj
 match j, hj with
 | 0, _ => exact H 0 _ rfl (221 + 0) (by kernel_rfl)
 | 1, _ => exact H 1 _ rfl (221 + 1) (by kernel_rfl)
 | 2, _ => exact H 2 _ rfl (221 + 2) (by kernel_rfl)
 | 3, _ => exact H 3 _ rfl (221 + 3) (by kernel_rfl)
 | 4, _ => exact H 4 _ rfl (221 + 4) (by kernel_rfl)
 | 5, _ => exact H 5 _ rfl (221 + 5) (by kernel_rfl)
 | 6, _ => exact H 6 _ rfl (221 + 6) (by kernel_rfl)
 | 7, _ => exact H 7 _ rfl (221 + 7) (by kernel_rfl)
 | 8, _ => exact H 8 _ rfl (221 + 8) (by kernel_rfl)
 | 9, _ => exact H 9 _ rfl (221 + 9) (by kernel_rfl)
theorem laidL_data : (laidL.filter fun x => x.2.handleName?.isNone) = [("math/bits.deBruijn32tab", Rows.laid_math_bits_deBruijn32tab), ("math/bits.deBruijn64tab", Rows.laid_math_bits_deBruijn64tab), ("internal/strconv.uint64pow10", Rows.laid_internal_strconv_uint64pow10), ("strconv.ErrRange", Rows.laid_strconv_ErrRange), ("strconv.ErrSyntax", Rows.laid_strconv_ErrSyntax)] := by kernel_rfl
theorem laidL_hand : (laidL.filter fun x => x.2.handleName?.isSome) = [("entail/num.bitOps", Rows.laid_entail_num_bitOps)] := by kernel_rfl
theorem laidH_data {W : World} (h : laidMetH Tryz.prog laidL W) : laidMet Tryz.prog [("math/bits.deBruijn32tab", Rows.laid_math_bits_deBruijn32tab), ("math/bits.deBruijn64tab", Rows.laid_math_bits_deBruijn64tab), ("internal/strconv.uint64pow10", Rows.laid_internal_strconv_uint64pow10), ("strconv.ErrRange", Rows.laid_strconv_ErrRange), ("strconv.ErrSyntax", Rows.laid_strconv_ErrSyntax)] W := by
 unfold laidMetH at h
 rw [laidL_hand, laidL_data] at h
 exact h.1
theorem pow10D : (Rows.laid_internal_strconv_uint64pow10 : DataW Unit) = Lib.tabData .u64 Lib.pow10Tab := by kernel_rfl
theorem env_of {W : World} (h : laidMetH Tryz.prog laidL W) (hsh : W.ShapedOpen Tryz.prog) : EN W := by
 have hd := laidH_data h
 have hf : funcsAt Tryz.prog W "entail/num.bitOps" (.agg opsD) := h.funcs (by rw [← opsD_eq]; unfold laidL; simp)
 have r1 := Lib.laidMet.reads hd (n := "internal/strconv.uint64pow10") (d := Rows.laid_internal_strconv_uint64pow10) (by simp)
 have r2 := Lib.laidMet.reads hd (n := "strconv.ErrRange") (d := Rows.laid_strconv_ErrRange) (by simp)
 have r3 := Lib.laidMet.reads hd (n := "strconv.ErrSyntax") (d := Rows.laid_strconv_ErrSyntax) (by simp)
 rw [pow10D] at r1
 exact ⟨tens_of (P := Tryz.prog) (g := 1) (by kernel_rfl) (by kernel_rfl) Tryz.underlying203 Tryz.underlying54 (by kernel_rfl) (by kernel_rfl) r1, mln_of hsh,
  err_of (P := Tryz.prog) (g := 2) (by kernel_rfl) (by kernel_rfl) Tryz.underlying80 r3, err_of (P := Tryz.prog) (g := 3) (by kernel_rfl) (by kernel_rfl) Tryz.underlying80 r2, ops_laid hf⟩
theorem args_below {H : Type} {enc : TypeId × Value → H} {P : Program} (hl : laidOutB P = true) {W W' : World} (hb : Below W.heap.size W W') :
 ∀ {ts : List TypeId} {vs : List Value} {ds : List (DataW H)} {ps : List MemPlace}, (ts.all fun t => P.readableRec t && decide (t < P.types.size)) = true → (∀ x ∈ ps, x.block < W.heap.size) →
  DataW.TrodAll enc P W 0 (fun _ => true) true ts vs ds ps → DataW.TrodAll enc P W' 0 (fun b => decide (b < W.heap.size)) true ts vs ds ps
 | [], [], [], _, _, _, h => h
 | t :: ts, v :: vs, d :: ds, _, ht, hlt, ⟨p, q, h1, h2, e⟩ => by
   simp only [List.all_cons, Bool.and_eq_true, decide_eq_true_eq] at ht
   exact ⟨p, q, Below.trod hl ht.1.1 ht.1.2 h1 hb (fun x hx => hlt x (by rw [e]; exact List.mem_append_left _ hx)), args_below hl hb (by rw [List.all_eq_true]; intro x hx; simpa using List.all_eq_true.mp ht.2 x hx) (fun x hx => hlt x (by rw [e]; exact List.mem_append_right _ hx)) h2, e⟩
theorem post_law {H : Type} {enc : TypeId × Value → H} {P : Program} {f : Func} {s : ChangeSpec} {W W' : World} {args : Array Value} {ds gs : List (DataW H)} {before : List MemPlace} (hl : laidOutB P = true) (h4 : P.underlying 4 = some .bool)
 (hW : DataW.Whole enc P f.params.toList s.vars false W args.toList ds gs before) (ht : (f.params.toList.all fun t => P.readableRec t && decide (t < P.types.size)) = true)
 (hv : s.vars = []) (hs : s.fn H ds = { results := [.lit (.bool true)], args := ds }) (hr : f.resultTypes = #[4]) (hb : Below W.heap.size W W') :
 s.post enc P f false true false false W args (.bool true) W' := by
 have hlt : ∀ p ∈ before, p.block < W.heap.size := fun p hp => hW.lt p hp
 have hW' := hW
 obtain ⟨p, q, hA, hV, rfl, _, _⟩ := hW
 rw [hv] at hV
 obtain ⟨rfl, rfl⟩ := trodVars_none hV
 rw [List.append_nil] at hlt hW'
 refine ⟨ds, [], p, [], p, [], hW', ?_, ?_, ?_, World.keptBut_mono (fun x hx => ⟨hx, .inr (.inl hx)⟩) (hb.frame (· ∈ p)), fun h => by cases h⟩
 ·rw [List.append_nil, hs, hr]
  exact trodAll_cons_mk (shut_bool h4 _) trodAll_mk0
 ·rw [List.append_nil, hs]
  exact args_below hl hb ht hlt hA
 ·rw [List.append_nil, hs, hv]
  trivial
theorem laidOut : laidOutB Tryz.prog = true := by kernel_rfl
theorem ownK : ownKnob Tryz.prog.godebug = none := by kernel_rfl
end
end Go.Proofs.YtillgofjlpjbcaaGreatDoor.Nm
